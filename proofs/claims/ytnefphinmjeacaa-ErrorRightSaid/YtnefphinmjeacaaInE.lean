/- inner.Src and inner.Dst; the fixed answers of the laws of layer 26. -/
import Derived.Test.YtnefphinmjeacaaInD12
import Derived.Test.YtnefphinmjeacaaInD16
import Derived.Test.YtnefphinmjeacaaUdpB
import Derived.Test.YtnefphinmjeacaaIpSame
import Derived.Test.YtnefphinmjeacaaIcmpTell
import Derived.Test.YtnefphinmjeacaaTupQ
set_option linter.unusedVariables false
set_option maxRecDepth 100000
set_option linter.unusedSimpArgs false
namespace Go.Proofs.Ytnefphinmjeacaa
open Go.RowKit
theorem TnM.ok {w w' : World} {kind code rest E : Int} {l : Nat} {ys : Nat → Int} {e : Ending} (h : TnM w kind code rest E l ys e w') (h0 : E = 0) :
    Junk w w' ∧ ∃ (ob : Option Addr) (cb : Nat), Bts w' ob l cb ys ∧ e = .returned (.tuple #[.agg #[.int .i64 kind, .int .i64 code, .int .u32 rest, .slice ob l cb], .int .i64 0]) := by
  obtain ⟨hj, ⟨h1, _⟩ | ⟨_, h2⟩⟩ := h
  · exact absurd h0 h1
  · exact ⟨hj, h2⟩
theorem TnM.bad {w w' : World} {kind code rest E : Int} {l : Nat} {ys : Nat → Int} {e : Ending} (h : TnM w kind code rest E l ys e w') (h0 : E ≠ 0) :
    Junk w w' ∧ e = .returned (.tuple #[.agg #[.int .i64 0, .int .i64 0, .int .u32 0, .slice none 0 0], .int .i64 E]) := by
  obtain ⟨hj, ⟨_, h1⟩ | ⟨h1, _⟩⟩ := h
  · exact ⟨hj, h1⟩
  · exact absurd h1 h0
theorem tn_ok {w w' : World} {kind code rest E : Int} {l cb : Nat} {ob : Option Addr} {ys : Nat → Int} (h : E = 0) (hj : Junk w w') (hb : Bts w' ob l cb ys) :
    TnM w kind code rest E l ys (.returned (.tuple #[.agg #[.int .i64 kind, .int .i64 code, .int .u32 rest, .slice ob l cb], .int .i64 0])) w' := ⟨hj, .inr ⟨h, ob, cb, hb, rfl⟩⟩
/-- A store to a block that holds no byte leaves bytes as they were. -/
theorem bts_over_nb {V : World} {cur cur' : Array Value} {t : TypeId} {os : Array Obj} {d : Nat} {oa : Option Addr} {l c : Nat} {xs : Nat → Int}
    (h : Bts ((V.alloc (.cells cur t)).junk os d) oa l c xs) (hn : ∀ (i : Nat) (v : Int), cur[i]? ≠ some (.int .u8 v)) : Bts ((V.alloc (.cells cur' t)).junk os d) oa l c xs := by
  refine ⟨fun i hi => ?_, h.byte, h.nil, h.le, h.cap⟩
  obtain ⟨b, off, he, hlt, hc⟩ := h.at_ i hi
  by_cases hb : b = V.heap.size
  · subst hb
    rw [World.cell?_junk _ _ _ _ _ (by simp), World.cell?_alloc_new] at hc
    exact absurd hc (hn _ _)
  · refine ⟨b, off, he, by simpa using hlt, ?_⟩
    rw [← hc]
    apply World.cell?_of_block
    simp only [World.junk, World.alloc]
    rcases Nat.lt_or_gt_of_ne hb with h1 | h1
    · rw [Array.getElem?_append_left (by simp; omega), Array.getElem?_append_left (by simp; omega), Array.getElem?_push, Array.getElem?_push, if_neg hb, if_neg hb]
    · rw [Array.getElem?_append_right (by simp; omega), Array.getElem?_append_right (by simp; omega)]
      simp
theorem zm_nb : ∀ (i : Nat) (v : Int), (#[.int .i64 0, .int .i64 0, .int .u32 0, .slice none 0 0] : Array Value)[i]? ≠ some (.int .u8 v) := by
  intro i v h
  rcases i with _ | _ | _ | _ | i <;> simp at h
set_option maxHeartbeats 4000000 in
theorem src_any (kind code rest addr port : Int) (oa : Option Addr) (l c : Nat) (xs : Nat → Int) (w : World) (hl : l ≤ 100000000) (hB : Bts w oa l c xs) (haddr : 0 ≤ addr ∧ addr ≤ 4294967295) :
    Calls Try.prog 13 #[.agg #[.int .i64 kind, .int .i64 code, .int .u32 rest, .slice oa l c], .int .u32 addr, .int .i64 port] w (TnM w kind code rest (tnErr kind xs l port) l (tnB xs l 12 0 addr port)) := by
  have HB := Lib.hid hB
  clear hB
  by_cases h0 : tnErr kind xs l port = 0
  · have HT := Lib.hid (fun w1 (hb : Bts w1 oa l c xs) => (turn12_any kind code rest addr port oa l c xs w1 hl hb haddr).mono fun e w' hp => hp.ok h0)
    have HE := Lib.hid h0
    clear h0
    go_enter Try.func13, Try.ntmps13
    go_wp2_with (first | (go_at_call 35; (with_reducible refine (HT.out _ (HB.out.on (by (first | ((repeat (first | with_reducible exact Junk.refl _ | with_reducible exact Junk.app _ _ _ _ _ | with_reducible apply Junk.alloc | with_reducible apply Junk.junk | with_reducible apply Junk.drew | with_reducible apply Junk.drewN)); done) | ((try simp only [World.junk_junk, Array.append_assoc]); (repeat (first | with_reducible exact Junk.refl _ | with_reducible exact Junk.app _ _ _ _ _ | with_reducible exact Junk.app2 _ _ _ _ _ _ | with_reducible exact Junk.app3 _ _ _ _ _ _ _ | with_reducible exact Junk.app4 _ _ _ _ _ _ _ _ | with_reducible exact Junk.app5 _ _ _ _ _ _ _ _ _ | with_reducible apply Junk.alloc | with_reducible apply Junk.junk | with_reducible apply Junk.drew | with_reducible apply Junk.drewN))))))).mono ?_); rintro e w' ⟨⟨os, d, rfl⟩, ob, cb, hb, rfl⟩; have Hb := Lib.hid hb; clear hb))
    go_returns
    exact tn_ok HE.out (by (first | ((repeat (first | with_reducible exact Junk.refl _ | with_reducible exact Junk.app _ _ _ _ _ | with_reducible apply Junk.alloc | with_reducible apply Junk.junk | with_reducible apply Junk.drew | with_reducible apply Junk.drewN)); done) | ((try simp only [World.junk_junk, Array.append_assoc]); (repeat (first | with_reducible exact Junk.refl _ | with_reducible exact Junk.app _ _ _ _ _ | with_reducible exact Junk.app2 _ _ _ _ _ _ | with_reducible exact Junk.app3 _ _ _ _ _ _ _ | with_reducible exact Junk.app4 _ _ _ _ _ _ _ _ | with_reducible exact Junk.app5 _ _ _ _ _ _ _ _ _ | with_reducible apply Junk.alloc | with_reducible apply Junk.junk | with_reducible apply Junk.drew | with_reducible apply Junk.drewN))))) (bts_over_nb Hb.out zm_nb)
  · have HT := Lib.hid (fun w1 (hb : Bts w1 oa l c xs) => (turn12_any kind code rest addr port oa l c xs w1 hl hb haddr).mono fun e w' hp => hp.bad h0)
    obtain ⟨E, hE⟩ : ∃ E, tnErr kind xs l port = E := ⟨_, rfl⟩
    rw [hE] at HT h0
    have HE := Lib.hid hE
    have H0 := Lib.hid h0
    clear h0 hE
    go_enter Try.func13, Try.ntmps13
    go_wp2_with (first | (go_at_call 35; (with_reducible refine (HT.out _ (HB.out.on (by (first | ((repeat (first | with_reducible exact Junk.refl _ | with_reducible exact Junk.app _ _ _ _ _ | with_reducible apply Junk.alloc | with_reducible apply Junk.junk | with_reducible apply Junk.drew | with_reducible apply Junk.drewN)); done) | ((try simp only [World.junk_junk, Array.append_assoc]); (repeat (first | with_reducible exact Junk.refl _ | with_reducible exact Junk.app _ _ _ _ _ | with_reducible exact Junk.app2 _ _ _ _ _ _ | with_reducible exact Junk.app3 _ _ _ _ _ _ _ | with_reducible exact Junk.app4 _ _ _ _ _ _ _ _ | with_reducible exact Junk.app5 _ _ _ _ _ _ _ _ _ | with_reducible apply Junk.alloc | with_reducible apply Junk.junk | with_reducible apply Junk.drew | with_reducible apply Junk.drewN))))))).mono ?_); rintro e w' ⟨⟨os, d, rfl⟩, rfl⟩))
    go_returns
    exact tn_bad HE.out H0.out (by (first | ((repeat (first | with_reducible exact Junk.refl _ | with_reducible exact Junk.app _ _ _ _ _ | with_reducible apply Junk.alloc | with_reducible apply Junk.junk | with_reducible apply Junk.drew | with_reducible apply Junk.drewN)); done) | ((try simp only [World.junk_junk, Array.append_assoc]); (repeat (first | with_reducible exact Junk.refl _ | with_reducible exact Junk.app _ _ _ _ _ | with_reducible exact Junk.app2 _ _ _ _ _ _ | with_reducible exact Junk.app3 _ _ _ _ _ _ _ | with_reducible exact Junk.app4 _ _ _ _ _ _ _ _ | with_reducible exact Junk.app5 _ _ _ _ _ _ _ _ _ | with_reducible apply Junk.alloc | with_reducible apply Junk.junk | with_reducible apply Junk.drew | with_reducible apply Junk.drewN)))))
set_option maxHeartbeats 4000000 in
theorem dst_any (kind code rest addr port : Int) (oa : Option Addr) (l c : Nat) (xs : Nat → Int) (w : World) (hl : l ≤ 100000000) (hB : Bts w oa l c xs) (haddr : 0 ≤ addr ∧ addr ≤ 4294967295) :
    Calls Try.prog 16 #[.agg #[.int .i64 kind, .int .i64 code, .int .u32 rest, .slice oa l c], .int .u32 addr, .int .i64 port] w (TnM w kind code rest (tnErr kind xs l port) l (tnB xs l 16 2 addr port)) := by
  have HB := Lib.hid hB
  clear hB
  by_cases h0 : tnErr kind xs l port = 0
  · have HT := Lib.hid (fun w1 (hb : Bts w1 oa l c xs) => (turn16_any kind code rest addr port oa l c xs w1 hl hb haddr).mono fun e w' hp => hp.ok h0)
    have HE := Lib.hid h0
    clear h0
    go_enter Try.func16, Try.ntmps16
    go_wp2_with (first | (go_at_call 35; (with_reducible refine (HT.out _ (HB.out.on (by (first | ((repeat (first | with_reducible exact Junk.refl _ | with_reducible exact Junk.app _ _ _ _ _ | with_reducible apply Junk.alloc | with_reducible apply Junk.junk | with_reducible apply Junk.drew | with_reducible apply Junk.drewN)); done) | ((try simp only [World.junk_junk, Array.append_assoc]); (repeat (first | with_reducible exact Junk.refl _ | with_reducible exact Junk.app _ _ _ _ _ | with_reducible exact Junk.app2 _ _ _ _ _ _ | with_reducible exact Junk.app3 _ _ _ _ _ _ _ | with_reducible exact Junk.app4 _ _ _ _ _ _ _ _ | with_reducible exact Junk.app5 _ _ _ _ _ _ _ _ _ | with_reducible apply Junk.alloc | with_reducible apply Junk.junk | with_reducible apply Junk.drew | with_reducible apply Junk.drewN))))))).mono ?_); rintro e w' ⟨⟨os, d, rfl⟩, ob, cb, hb, rfl⟩; have Hb := Lib.hid hb; clear hb))
    go_returns
    exact tn_ok HE.out (by (first | ((repeat (first | with_reducible exact Junk.refl _ | with_reducible exact Junk.app _ _ _ _ _ | with_reducible apply Junk.alloc | with_reducible apply Junk.junk | with_reducible apply Junk.drew | with_reducible apply Junk.drewN)); done) | ((try simp only [World.junk_junk, Array.append_assoc]); (repeat (first | with_reducible exact Junk.refl _ | with_reducible exact Junk.app _ _ _ _ _ | with_reducible exact Junk.app2 _ _ _ _ _ _ | with_reducible exact Junk.app3 _ _ _ _ _ _ _ | with_reducible exact Junk.app4 _ _ _ _ _ _ _ _ | with_reducible exact Junk.app5 _ _ _ _ _ _ _ _ _ | with_reducible apply Junk.alloc | with_reducible apply Junk.junk | with_reducible apply Junk.drew | with_reducible apply Junk.drewN))))) (bts_over_nb Hb.out zm_nb)
  · have HT := Lib.hid (fun w1 (hb : Bts w1 oa l c xs) => (turn16_any kind code rest addr port oa l c xs w1 hl hb haddr).mono fun e w' hp => hp.bad h0)
    obtain ⟨E, hE⟩ : ∃ E, tnErr kind xs l port = E := ⟨_, rfl⟩
    rw [hE] at HT h0
    have HE := Lib.hid hE
    have H0 := Lib.hid h0
    clear h0 hE
    go_enter Try.func16, Try.ntmps16
    go_wp2_with (first | (go_at_call 35; (with_reducible refine (HT.out _ (HB.out.on (by (first | ((repeat (first | with_reducible exact Junk.refl _ | with_reducible exact Junk.app _ _ _ _ _ | with_reducible apply Junk.alloc | with_reducible apply Junk.junk | with_reducible apply Junk.drew | with_reducible apply Junk.drewN)); done) | ((try simp only [World.junk_junk, Array.append_assoc]); (repeat (first | with_reducible exact Junk.refl _ | with_reducible exact Junk.app _ _ _ _ _ | with_reducible exact Junk.app2 _ _ _ _ _ _ | with_reducible exact Junk.app3 _ _ _ _ _ _ _ | with_reducible exact Junk.app4 _ _ _ _ _ _ _ _ | with_reducible exact Junk.app5 _ _ _ _ _ _ _ _ _ | with_reducible apply Junk.alloc | with_reducible apply Junk.junk | with_reducible apply Junk.drew | with_reducible apply Junk.drewN))))))).mono ?_); rintro e w' ⟨⟨os, d, rfl⟩, rfl⟩))
    go_returns
    exact tn_bad HE.out H0.out (by (first | ((repeat (first | with_reducible exact Junk.refl _ | with_reducible exact Junk.app _ _ _ _ _ | with_reducible apply Junk.alloc | with_reducible apply Junk.junk | with_reducible apply Junk.drew | with_reducible apply Junk.drewN)); done) | ((try simp only [World.junk_junk, Array.append_assoc]); (repeat (first | with_reducible exact Junk.refl _ | with_reducible exact Junk.app _ _ _ _ _ | with_reducible exact Junk.app2 _ _ _ _ _ _ | with_reducible exact Junk.app3 _ _ _ _ _ _ _ | with_reducible exact Junk.app4 _ _ _ _ _ _ _ _ | with_reducible exact Junk.app5 _ _ _ _ _ _ _ _ _ | with_reducible apply Junk.alloc | with_reducible apply Junk.junk | with_reducible apply Junk.drew | with_reducible apply Junk.drewN)))))
/-! ### The fixed answers. -/
def vU : Nat → Int := udOf 1 2 5 6 (fun _ => 0) 0
def vIp : Ip := ⟨0, 0, false, false, 0, 1, 17, 1, 2, 0, fun _ => 0, 8, vU⟩
def vC : Nat → Int := pktB vIp
def vY : Nat → Int := tnB vC 28 12 0 77 88
theorem vIp_may : mayB vIp = true := by decide +kernel
theorem vC_tell : tellErr 11 0 vC 28 = 0 := by decide +kernel
theorem vC_len : tellLen vC = 28 := by decide +kernel
theorem vC_src : tnErr 11 vC 28 88 = 0 := by decide +kernel
theorem vY_err : nmErr 11 vY 28 = 0 := by decide +kernel
theorem vY_1 : (nmTup vY 28).proto = 17 := by decide +kernel
theorem vY_2 : (nmTup vY 28).src = 77 := by decide +kernel
theorem vY_3 : (nmTup vY 28).sport = 88 := by decide +kernel
theorem vY_4 : (nmTup vY 28).dst = 2 := by decide +kernel
theorem vY_5 : (nmTup vY 28).dport = 6 := by decide +kernel
theorem tup_ext {t : Tup} {a b c d e : Int} (h1 : t.proto = a) (h2 : t.src = b) (h3 : t.sport = c) (h4 : t.dst = d) (h5 : t.dport = e) : t = ⟨a, b, c, d, e⟩ := by
  obtain ⟨_, _, _, _, _⟩ := t
  cases h1; cases h2; cases h3; cases h4; cases h5; rfl
set_option maxHeartbeats 4000000 in
theorem awake26_any (w : World) : Calls Try.prog 10 #[] w fun e w' => e = .returned (.bool true) ∧ Junk w w' := by
  have HU := Lib.hid (fun w1 => show Calls Try.prog 30 #[.int .u32 1, .int .u32 2, .agg #[.int .i64 5, .int .i64 6, .bool false, .slice none 0 0]] w1 fun e w' => ∃ (ob : Option Addr) (cb : Nat), e = .returned (.tuple #[.slice ob 8 cb, .int .i64 0]) ∧ Junk w1 w' ∧ Bts w' ob 8 cb vU from
    uput_any 1 2 5 6 none 0 0 (fun _ => 0) w1 (by omega) (by omega) (by omega) (by omega) (by omega) (bts_nil _ _))
  have HP := Lib.hid (fun (ob : Option Addr) (cb : Nat) w1 (hb : Bts w1 ob 8 cb vU) => show Calls Try.prog 28 #[.agg #[.int .i64 0, .int .i64 0, .bool false, .bool false, .int .i64 0, .int .i64 1, .int .i64 17, .int .u32 1, .int .u32 2, .slice none 0 0, .slice ob 8 cb]] w1 fun e w' => ∃ (ob : Option Addr) (cb : Nat), e = .returned (.tuple #[.slice ob 28 cb, .int .i64 0]) ∧ Junk w1 w' ∧ Bts w' ob 28 cb vC from
    (ipPut_any vIp none ob 0 cb w1 (by decide) (by decide) ⟨bts_none _ _, hb, by decide, by decide⟩).mono fun e w' hp => by
      obtain ⟨ob, cb, rfl, hj, hb, _⟩ := hp.ok vIp_may
      exact ⟨ob, cb, rfl, hj, hb⟩)
  have HT := Lib.hid (fun (ob : Option Addr) (cb : Nat) w1 (hb : Bts w1 ob 28 cb vC) => show Calls Try.prog 29 #[.int .i64 11, .int .i64 0, .int .u32 0, .slice ob 28 cb] w1 fun e w' => ∃ (ob : Option Addr) (cb : Nat), e = .returned (.tuple #[.agg #[.int .i64 11, .int .i64 0, .int .u32 0, .slice ob 28 cb], .int .i64 0]) ∧ Junk w1 w' ∧ Bts w' ob 28 cb vC from
    (tell_any 11 0 0 ob 28 cb vC w1 (by omega) hb).mono fun e w' hp => by
      obtain ⟨t, c, r, ob, lb, cb, rfl, hj, hb, ⟨h1, rfl, rfl, rfl, rfl⟩ | ⟨h1, _⟩⟩ := hp
      · rw [vC_len] at hb ⊢
        exact ⟨ob, cb, by rw [h1], hj, hb⟩
      · exact absurd vC_tell h1)
  have HS := Lib.hid (fun (ob : Option Addr) (cb : Nat) w1 (hb : Bts w1 ob 28 cb vC) => show Calls Try.prog 13 #[.agg #[.int .i64 11, .int .i64 0, .int .u32 0, .slice ob 28 cb], .int .u32 77, .int .i64 88] w1 fun e w' => Junk w1 w' ∧ ∃ (ob : Option Addr) (cb : Nat), Bts w' ob 28 cb vY ∧ e = .returned (.tuple #[.agg #[.int .i64 11, .int .i64 0, .int .u32 0, .slice ob 28 cb], .int .i64 0]) from
    (src_any 11 0 0 77 88 ob 28 cb vC w1 (by omega) hb (by omega)).mono fun e w' hp => hp.ok vC_src)
  have HN := Lib.hid (fun (ob : Option Addr) (cb : Nat) w1 (hb : Bts w1 ob 28 cb vY) => show Calls Try.prog 11 #[.agg #[.int .i64 11, .int .i64 0, .int .u32 0, .slice ob 28 cb]] w1 fun e w' => e = .returned (.tuple #[.agg #[.int .i64 17, .int .u32 77, .int .i64 88, .int .u32 2, .int .i64 6], .int .i64 0]) ∧ Junk w1 w' from
    (names_any 11 0 0 ob 28 cb vY w1 (by omega) hb).mono fun e w' hp => by
      have := hp.ok vY_err
      rw [tup_ext vY_1 vY_2 vY_3 vY_4 vY_5] at this
      exact this)
  have hg := tupq_guard
  have hq : ∀ w, (binOp .eql 28 (.agg #[.int .i64 17, .int .u32 77, .int .i64 88, .int .u32 2, .int .i64 6]) (.agg #[.int .i64 17, .int .u32 77, .int .i64 88, .int .u32 2, .int .i64 6])).run Try.prog w = .ok (.bool true) w := fun w => by have := tupq_eql ⟨17, 77, 88, 2, 6⟩ ⟨17, 77, 88, 2, 6⟩ w; exact this
  go_enter Try.func10, Try.ntmps10
  go_wp2_with (first
    | (go_at_call 30; (with_reducible refine (HU.out _).mono ?_); rintro e w' ⟨ob1, cb1, rfl, ⟨os1, d1, rfl⟩, hb1⟩; have Hb1 := Lib.hid hb1; clear hb1)
    | (go_at_call 28; (with_reducible refine (HP.out ob1 cb1 _ (Hb1.out.on (by (first | ((repeat (first | with_reducible exact Junk.refl _ | with_reducible exact Junk.app _ _ _ _ _ | with_reducible apply Junk.alloc | with_reducible apply Junk.junk | with_reducible apply Junk.drew | with_reducible apply Junk.drewN)); done) | ((try simp only [World.junk_junk, Array.append_assoc]); (repeat (first | with_reducible exact Junk.refl _ | with_reducible exact Junk.app _ _ _ _ _ | with_reducible exact Junk.app2 _ _ _ _ _ _ | with_reducible exact Junk.app3 _ _ _ _ _ _ _ | with_reducible exact Junk.app4 _ _ _ _ _ _ _ _ | with_reducible exact Junk.app5 _ _ _ _ _ _ _ _ _ | with_reducible apply Junk.alloc | with_reducible apply Junk.junk | with_reducible apply Junk.drew | with_reducible apply Junk.drewN))))))).mono ?_); rintro e w' ⟨ob2, cb2, rfl, ⟨os2, d2, rfl⟩, hb2⟩; have Hb2 := Lib.hid hb2; clear hb2)
    | (go_at_call 29; (with_reducible refine (HT.out ob2 cb2 _ (Hb2.out.on (by (first | ((repeat (first | with_reducible exact Junk.refl _ | with_reducible exact Junk.app _ _ _ _ _ | with_reducible apply Junk.alloc | with_reducible apply Junk.junk | with_reducible apply Junk.drew | with_reducible apply Junk.drewN)); done) | ((try simp only [World.junk_junk, Array.append_assoc]); (repeat (first | with_reducible exact Junk.refl _ | with_reducible exact Junk.app _ _ _ _ _ | with_reducible exact Junk.app2 _ _ _ _ _ _ | with_reducible exact Junk.app3 _ _ _ _ _ _ _ | with_reducible exact Junk.app4 _ _ _ _ _ _ _ _ | with_reducible exact Junk.app5 _ _ _ _ _ _ _ _ _ | with_reducible apply Junk.alloc | with_reducible apply Junk.junk | with_reducible apply Junk.drew | with_reducible apply Junk.drewN))))))).mono ?_); rintro e w' ⟨ob3, cb3, rfl, ⟨os3, d3, rfl⟩, hb3⟩; have Hb3 := Lib.hid hb3; clear hb3)
    | (go_at_call 13; (with_reducible refine (HS.out ob3 cb3 _ (Hb3.out.on (by (first | ((repeat (first | with_reducible exact Junk.refl _ | with_reducible exact Junk.app _ _ _ _ _ | with_reducible apply Junk.alloc | with_reducible apply Junk.junk | with_reducible apply Junk.drew | with_reducible apply Junk.drewN)); done) | ((try simp only [World.junk_junk, Array.append_assoc]); (repeat (first | with_reducible exact Junk.refl _ | with_reducible exact Junk.app _ _ _ _ _ | with_reducible exact Junk.app2 _ _ _ _ _ _ | with_reducible exact Junk.app3 _ _ _ _ _ _ _ | with_reducible exact Junk.app4 _ _ _ _ _ _ _ _ | with_reducible exact Junk.app5 _ _ _ _ _ _ _ _ _ | with_reducible apply Junk.alloc | with_reducible apply Junk.junk | with_reducible apply Junk.drew | with_reducible apply Junk.drewN))))))).mono ?_); rintro e w' ⟨⟨os4, d4, rfl⟩, ob4, cb4, hb4, rfl⟩; have Hb4 := Lib.hid hb4; clear hb4)
    | (go_at_call 11; (with_reducible refine (HN.out ob4 cb4 _ (Hb4.out.on (by (first | ((repeat (first | with_reducible exact Junk.refl _ | with_reducible exact Junk.app _ _ _ _ _ | with_reducible apply Junk.alloc | with_reducible apply Junk.junk | with_reducible apply Junk.drew | with_reducible apply Junk.drewN)); done) | ((try simp only [World.junk_junk, Array.append_assoc]); (repeat (first | with_reducible exact Junk.refl _ | with_reducible exact Junk.app _ _ _ _ _ | with_reducible exact Junk.app2 _ _ _ _ _ _ | with_reducible exact Junk.app3 _ _ _ _ _ _ _ | with_reducible exact Junk.app4 _ _ _ _ _ _ _ _ | with_reducible exact Junk.app5 _ _ _ _ _ _ _ _ _ | with_reducible apply Junk.alloc | with_reducible apply Junk.junk | with_reducible apply Junk.drew | with_reducible apply Junk.drewN))))))).mono ?_); rintro e w' ⟨rfl, ⟨osj, dj, rfl⟩⟩))
  go_ret
  exact ⟨ret_bool rfl, by (first | ((repeat (first | with_reducible exact Junk.refl _ | with_reducible exact Junk.app _ _ _ _ _ | with_reducible apply Junk.alloc | with_reducible apply Junk.junk | with_reducible apply Junk.drew | with_reducible apply Junk.drewN)); done) | ((try simp only [World.junk_junk, Array.append_assoc]); (repeat (first | with_reducible exact Junk.refl _ | with_reducible exact Junk.app _ _ _ _ _ | with_reducible exact Junk.app2 _ _ _ _ _ _ | with_reducible exact Junk.app3 _ _ _ _ _ _ _ | with_reducible exact Junk.app4 _ _ _ _ _ _ _ _ | with_reducible exact Junk.app5 _ _ _ _ _ _ _ _ _ | with_reducible apply Junk.alloc | with_reducible apply Junk.junk | with_reducible apply Junk.drew | with_reducible apply Junk.drewN))))⟩
end Go.Proofs.Ytnefphinmjeacaa
