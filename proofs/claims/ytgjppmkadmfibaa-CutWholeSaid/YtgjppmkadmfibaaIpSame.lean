/- The contracts of ip.Same, ip.Piece and Short; the fixed answers of layer 3. -/
import Derived.Test.YtgjppmkadmfibaaIcmpAwake
set_option linter.unusedVariables false
set_option maxRecDepth 100000
set_option linter.unusedSimpArgs false
namespace Go.Proofs.Ytgjppmkadmfibaa
open Go.RowKit
def headSame (p q : Ip) : Bool := (p.tos == q.tos) && (p.id == q.id) && (p.df == q.df) && (p.mf == q.mf) && (p.off == q.off) && (p.ttl == q.ttl) && (p.proto == q.proto) && (p.src == q.src) && (p.dst == q.dst)
def sameIp (p q : Ip) : Bool := headSame p q && sameN p.opts q.opts p.ol q.ol && sameN p.body q.body p.bl q.bl
theorem headSame_refl (p : Ip) : headSame p p = true := by simp [headSame]
theorem sameIp_refl (p : Ip) : sameIp p p = true := by simp [sameIp, headSame_refl, sameN]
set_option maxHeartbeats 2000000 in
theorem ipSame_any (p q : Ip) (oo ob oo2 ob2 : Option Addr) (oc bc oc2 bc2 : Nat) (w : World) (hP : IpAt w p oo oc ob bc) (hQ : IpAt w q oo2 oc2 ob2 bc2) :
    Calls Try.prog 19 #[.agg #[.int .i64 p.tos, .int .i64 p.id, .bool p.df, .bool p.mf, .int .i64 p.off, .int .i64 p.ttl, .int .i64 p.proto, .int .u32 p.src, .int .u32 p.dst, .slice oo p.ol oc, .slice ob p.bl bc], .agg #[.int .i64 q.tos, .int .i64 q.id, .bool q.df, .bool q.mf, .int .i64 q.off, .int .i64 q.ttl, .int .i64 q.proto, .int .u32 q.src, .int .u32 q.dst, .slice oo2 q.ol oc2, .slice ob2 q.bl bc2]] w fun e w' => e = .returned (.bool (sameIp p q)) ∧ Junk w w' := by
  have HP := Lib.hid hP
  have HQ := Lib.hid hQ
  clear hP hQ
  cases a1 : p.tos == q.tos with
  | false =>
    go_enter Try.func19, Try.ntmps19
    go_wp2
    go_ret
    exact ⟨ret_bool (by simp only [sameIp, headSame, *, Bool.false_and, Bool.and_false, Bool.true_and]), by (exact jkc)⟩
  | true =>
    cases a2 : p.id == q.id with
    | false =>
      go_enter Try.func19, Try.ntmps19
      go_wp2
      go_ret
      exact ⟨ret_bool (by simp only [sameIp, headSame, *, Bool.false_and, Bool.and_false, Bool.true_and]), by (exact jkc)⟩
    | true =>
      cases a3 : p.df == q.df with
      | false =>
        go_enter Try.func19, Try.ntmps19
        go_wp2
        go_ret
        exact ⟨ret_bool (by simp only [sameIp, headSame, *, Bool.false_and, Bool.and_false, Bool.true_and]), by (exact jkc)⟩
      | true =>
        cases a4 : p.mf == q.mf with
        | false =>
          go_enter Try.func19, Try.ntmps19
          go_wp2
          go_ret
          exact ⟨ret_bool (by simp only [sameIp, headSame, *, Bool.false_and, Bool.and_false, Bool.true_and]), by (exact jkc)⟩
        | true =>
          cases a5 : p.off == q.off with
          | false =>
            go_enter Try.func19, Try.ntmps19
            go_wp2
            go_ret
            exact ⟨ret_bool (by simp only [sameIp, headSame, *, Bool.false_and, Bool.and_false, Bool.true_and]), by (exact jkc)⟩
          | true =>
            cases a6 : p.ttl == q.ttl with
            | false =>
              go_enter Try.func19, Try.ntmps19
              go_wp2
              go_ret
              exact ⟨ret_bool (by simp only [sameIp, headSame, *, Bool.false_and, Bool.and_false, Bool.true_and]), by (exact jkc)⟩
            | true =>
              cases a7 : p.proto == q.proto with
              | false =>
                go_enter Try.func19, Try.ntmps19
                go_wp2
                go_ret
                exact ⟨ret_bool (by simp only [sameIp, headSame, *, Bool.false_and, Bool.and_false, Bool.true_and]), by (exact jkc)⟩
              | true =>
                cases a8 : p.src == q.src with
                | false =>
                  go_enter Try.func19, Try.ntmps19
                  go_wp2
                  go_ret
                  exact ⟨ret_bool (by simp only [sameIp, headSame, *, Bool.false_and, Bool.and_false, Bool.true_and]), by (exact jkc)⟩
                | true =>
                  cases a9 : p.dst == q.dst with
                  | false =>
                    go_enter Try.func19, Try.ntmps19
                    go_wp2
                    go_ret
                    exact ⟨ret_bool (by simp only [sameIp, headSame, *, Bool.false_and, Bool.and_false, Bool.true_and]), by (exact jkc)⟩
                  | true =>
                    cases b1 : sameN p.opts q.opts p.ol q.ol with
                    | false =>
                      go_enter Try.func19, Try.ntmps19
                      go_wp2_with (first | (go_at_call 41; refine (equal_any _ _ _ _ _ _ p.opts q.opts _ (HP.out.opts.at_.on (by (exact jkc))) (HQ.out.opts.at_.on (by (exact jkc))) HP.out.opts.byte HQ.out.opts.byte).mono ?_; rintro e w' ⟨rfl, rfl⟩))
                      go_ret
                      exact ⟨ret_bool (by simp only [sameIp, headSame, *, Bool.false_and, Bool.and_false, Bool.true_and]), by (exact jkc)⟩
                    | true =>
                      go_enter Try.func19, Try.ntmps19
                      go_wp2_with (first | (go_at_call 41; first | (with_reducible refine (equal_any _ _ _ _ _ _ p.opts q.opts _ (HP.out.opts.at_.on (by (exact jkc))) (HQ.out.opts.at_.on (by (exact jkc))) HP.out.opts.byte HQ.out.opts.byte).mono ?_; rintro e w' ⟨rfl, rfl⟩) | (refine (equal_any _ _ _ _ _ _ p.body q.body _ (HP.out.body.at_.on (by (exact jkc))) (HQ.out.body.at_.on (by (exact jkc))) HP.out.body.byte HQ.out.body.byte).mono ?_; rintro e w' ⟨rfl, rfl⟩)))
                      go_ret
                      exact ⟨ret_bool (by simp only [sameIp, headSame, *, Bool.false_and, Bool.and_false, Bool.true_and]), by (exact jkc)⟩
def pieceB (p : Ip) : Bool := p.mf || (p.off != 0)
theorem piece_any (p : Ip) (oo ob : Option Addr) (oc bc : Nat) (w : World) : Calls Try.prog 23 #[.agg #[.int .i64 p.tos, .int .i64 p.id, .bool p.df, .bool p.mf, .int .i64 p.off, .int .i64 p.ttl, .int .i64 p.proto, .int .u32 p.src, .int .u32 p.dst, .slice oo p.ol oc, .slice ob p.bl bc]] w fun e w' => e = .returned (.bool (pieceB p)) ∧ Junk w w' := by
  cases hm : p.mf
  all_goals
    go_enter Try.func23, Try.ntmps23
    go_wp2
    go_ret
    exact ⟨ret_bool (by simp [pieceB, hm]), by (exact jkc)⟩
def shortB (p : Ip) : Bool := decide (p.ol ≤ 100) && decide (p.bl ≤ 3000)
theorem shortB_true {p : Ip} (h : shortB p = true) : p.ol ≤ 100 ∧ p.bl ≤ 3000 := by simpa [shortB] using h
theorem short_any (p : Ip) (oo ob : Option Addr) (oc bc : Nat) (w : World) : Calls Try.prog 17 #[.agg #[.int .i64 p.tos, .int .i64 p.id, .bool p.df, .bool p.mf, .int .i64 p.off, .int .i64 p.ttl, .int .i64 p.proto, .int .u32 p.src, .int .u32 p.dst, .slice oo p.ol oc, .slice ob p.bl bc]] w fun e w' => e = .returned (.bool (shortB p)) ∧ Junk w w' := by
  by_cases h1 : p.ol ≤ 100
  all_goals
    go_enter Try.func17, Try.ntmps17
    go_wp2
    go_ret
    exact ⟨ret_bool (by simp [shortB, h1]; try omega), by (exact jkc)⟩
theorem IpPutM.any {w w' : World} {p : Ip} {e : Ending} (h : IpPutM w p e w') : ∃ (ob : Option Addr) (lb cb : Nat), e = .returned (.tuple #[.slice ob lb cb, .int .i64 (ipErr p)]) ∧ Junk w w' ∧ Bts w' ob lb cb (pktB p) ∧ lb = if mayB p then 20 + p.ol + p.bl else 0 := by
  obtain ⟨ob, lb, cb, rfl, hj, hb, ⟨h1, rfl, _⟩ | ⟨h1, rfl, rfl, rfl⟩⟩ := h
  · exact ⟨ob, _, cb, rfl, hj, hb, by simp [h1]⟩
  · exact ⟨none, 0, 0, rfl, hj, hb, by simp [h1]⟩
theorem IpPutM.ok {w w' : World} {p : Ip} {e : Ending} (h : IpPutM w p e w') (h0 : mayB p = true) : ∃ (ob : Option Addr) (cb : Nat), e = .returned (.tuple #[.slice ob (20 + p.ol + p.bl) cb, .int .i64 0]) ∧ Junk w w' ∧ Bts w' ob (20 + p.ol + p.bl) cb (pktB p) ∧
    Own w.heap.size w' 5 1 ob cb (20 + p.ol + p.bl) (bytesL (20 + p.ol + p.bl) (pktB p)) := by
  obtain ⟨ob, lb, cb, rfl, hj, hb, ⟨h1, rfl, ho⟩ | ⟨h1, _⟩⟩ := h
  · exact ⟨ob, cb, by simp [ipErr, h0], hj, hb, ho⟩
  · rw [h0] at h1; cases h1
theorem IpPutM.bad {w w' : World} {p : Ip} {e : Ending} (h : IpPutM w p e w') (h0 : mayB p = false) : e = .returned (.tuple #[.slice none 0 0, .int .i64 1]) ∧ Junk w w' := by
  obtain ⟨ob, lb, cb, rfl, hj, hb, ⟨h1, _⟩ | ⟨h1, rfl, rfl, rfl⟩⟩ := h
  · rw [h0] at h1; cases h1
  · exact ⟨by simp [ipErr, h0], hj⟩
theorem IpParseM.ok {w w' : World} {xs : Nat → Int} {l : Nat} {e : Ending} (h : IpParseM w xs l e w') (h0 : parseErr xs l = 0) :
    ∃ (oo ob : Option Addr) (oc bc : Nat), e = .returned (.tuple #[.agg #[.int .i64 (parseIp xs).tos, .int .i64 (parseIp xs).id, .bool (parseIp xs).df, .bool (parseIp xs).mf, .int .i64 (parseIp xs).off, .int .i64 (parseIp xs).ttl, .int .i64 (parseIp xs).proto, .int .u32 (parseIp xs).src, .int .u32 (parseIp xs).dst, .slice oo (parseIp xs).ol oc, .slice ob (parseIp xs).bl bc], .int .i64 0]) ∧ Junk w w' ∧ IpAt w' (parseIp xs) oo oc ob bc := by
  obtain ⟨p, oo, ob, oc, bc, rfl, hj, hp, ⟨_, rfl⟩ | ⟨h1, _⟩⟩ := h
  · exact ⟨oo, ob, oc, bc, by rw [h0], hj, hp⟩
  · exact absurd h0 h1
theorem IpParseM.bad {w w' : World} {xs : Nat → Int} {l : Nat} {e : Ending} (h : IpParseM w xs l e w') (h0 : parseErr xs l ≠ 0) :
    e = .returned (.tuple #[.agg #[.int .i64 0, .int .i64 0, .bool false, .bool false, .int .i64 0, .int .i64 0, .int .i64 0, .int .u32 0, .int .u32 0, .slice none 0 0, .slice none 0 0], .int .i64 (parseErr xs l)]) ∧ Junk w w' := by
  obtain ⟨p, oo, ob, oc, bc, rfl, hj, hp, ⟨h1, _⟩ | ⟨_, rfl, rfl, rfl, rfl, rfl⟩⟩ := h
  · exact absurd h1 h0
  · exact ⟨rfl, hj⟩
end Go.Proofs.Ytgjppmkadmfibaa
