/- tcp.Same. -/
import Derived.Test.YtjmofjcloebgmaaTcpH
set_option linter.unusedVariables false
set_option maxRecDepth 100000
set_option linter.unusedSimpArgs false
namespace Go.Proofs.Ytjmofjcloebgmaa
open Go.RowKit
set_option maxHeartbeats 1000000 in
theorem osame_any (f g : Ot) (w : World) (hf : f.At w) (hg : g.At w) : Calls Try.prog 58 #[f.val, g.val] w fun e w' => e = .returned (.bool (odSame f.d g.d)) ∧ Junk w w' := by
  obtain ⟨k, oa, l, c, xs⟩ := f
  obtain ⟨k2, oa2, l2, c2, ys⟩ := g
  have HF := Lib.hid hf
  have HG := Lib.hid hg
  clear hf hg
  unfold Ot.At at HF HG
  dsimp only [Ot.val] at HF HG ⊢
  cases e1 : (k == k2) with
  | false =>
    go_enter Try.func58, Try.ntmps58
    go_wp2
    go_ret
    exact ⟨ret_bool (by unfold odSame; show false = ((k == k2) && _); rw [e1]; rfl), by ((try simp only [World.junk_junk, Array.append_assoc]); (repeat (first | with_reducible exact Junk.refl _ | with_reducible exact Junk.app _ _ _ _ _ | with_reducible exact Junk.app2 _ _ _ _ _ _ | with_reducible exact Junk.app3 _ _ _ _ _ _ _ | with_reducible exact Junk.app4 _ _ _ _ _ _ _ _ | with_reducible exact Junk.app5 _ _ _ _ _ _ _ _ _ | with_reducible apply Junk.alloc | with_reducible apply Junk.junk | with_reducible apply Junk.drew | with_reducible apply Junk.drewN)))⟩
  | true =>
    have HE := Lib.hid (show odSame (Ot.d ⟨k, oa, l, c, xs⟩) (Ot.d ⟨k2, oa2, l2, c2, ys⟩) = sameN xs ys l l2 by unfold odSame; show ((k == k2) && sameN xs ys l l2) = _; rw [e1]; rfl)
    go_enter Try.func58, Try.ntmps58
    go_wp2_with (first | (go_at_call 56; refine (equal_any _ _ _ _ _ _ xs ys _ (HF.out.at_.on (by (repeat (first | with_reducible exact Junk.refl _ | with_reducible exact Junk.app _ _ _ _ _ | with_reducible apply Junk.alloc | with_reducible apply Junk.junk | with_reducible apply Junk.drew | with_reducible apply Junk.drewN)))) (HG.out.at_.on (by (repeat (first | with_reducible exact Junk.refl _ | with_reducible exact Junk.app _ _ _ _ _ | with_reducible apply Junk.alloc | with_reducible apply Junk.junk | with_reducible apply Junk.drew | with_reducible apply Junk.drewN)))) HF.out.byte HG.out.byte).mono ?_; rintro e w' ⟨rfl, rfl⟩))
    go_ret
    exact ⟨ret_bool (by rw [HE.out]), by ((try simp only [World.junk_junk, Array.append_assoc]); (repeat (first | with_reducible exact Junk.refl _ | with_reducible exact Junk.app _ _ _ _ _ | with_reducible exact Junk.app2 _ _ _ _ _ _ | with_reducible exact Junk.app3 _ _ _ _ _ _ _ | with_reducible exact Junk.app4 _ _ _ _ _ _ _ _ | with_reducible exact Junk.app5 _ _ _ _ _ _ _ _ _ | with_reducible apply Junk.alloc | with_reducible apply Junk.junk | with_reducible apply Junk.drew | with_reducible apply Junk.drewN)))⟩
set_option maxHeartbeats 2000000 in
theorem eqF_any (oo oo2 : Option Addr) (n m co co2 : Nat) (F G : List Ot) (w : World) (hn : n ≤ 1000000) (hm : m ≤ 1000000) (hF : F.length = n) (hG : G.length = m) (hS : OsAt w oo F) (hT : OsAt w oo2 G) :
    Calls Try.prog 57 #[.slice oo n co, .slice oo2 m co2, .func (.func 58) #[] #[]] w fun e w' => e = .returned (.bool ((n == m) && osSame (F.map Ot.d) (G.map Ot.d))) ∧ Junk w w' := by
  have HS := Lib.hid hS
  have HT := Lib.hid hT
  have HFn := Lib.hid hF
  have HGm := Lib.hid hG
  clear hS hT hF hG
  by_cases hnm : n = m
  case neg =>
    have hnm' : ((n : Int) != (m : Int)) = true := by simp; omega
    have hnm2 : ¬ (n : Int) = (m : Int) := by omega
    have HE := Lib.hid (show ((n == m) && osSame (F.map Ot.d) (G.map Ot.d)) = false by rw [show (n == m) = false by simpa using hnm]; rfl)
    rw [HE.out]
    clear hnm
    go_enter Try.func57, Try.ntmps57
    go_wp2
    go_ret
    exact ⟨ret_bool rfl, by ((try simp only [World.junk_junk, Array.append_assoc]); (repeat (first | with_reducible exact Junk.refl _ | with_reducible exact Junk.app _ _ _ _ _ | with_reducible exact Junk.app2 _ _ _ _ _ _ | with_reducible exact Junk.app3 _ _ _ _ _ _ _ | with_reducible exact Junk.app4 _ _ _ _ _ _ _ _ | with_reducible exact Junk.app5 _ _ _ _ _ _ _ _ _ | with_reducible apply Junk.alloc | with_reducible apply Junk.junk | with_reducible apply Junk.drew | with_reducible apply Junk.drewN)))⟩
  subst hnm
  obtain ⟨T, hT⟩ : ∃ T, osSame (F.map Ot.d) (G.map Ot.d) = T := ⟨_, rfl⟩
  have HTT := Lib.hid hT
  rw [show (n == n) = true by simp, hT, Bool.true_and]
  clear hT
  go_enter Try.func57, Try.ntmps57
  go_wp2
  go_loopw [17] (fun v wr => ∃ (j : Nat), v = .int .i64 (j : Int) ∧ Junk w wr ∧ j ≤ n ∧ Hid (∀ q, q < j → ∀ f g, F[q]? = some f → G[q]? = some g → odSame f.d g.d = true)) (fun v _ => n + 1 - (intOf v).toNat)
  case atStart => exact ⟨0, rfl, by ((try simp only [World.junk_junk, Array.append_assoc]); (repeat (first | with_reducible exact Junk.refl _ | with_reducible exact Junk.app _ _ _ _ _ | with_reducible exact Junk.app2 _ _ _ _ _ _ | with_reducible exact Junk.app3 _ _ _ _ _ _ _ | with_reducible exact Junk.app4 _ _ _ _ _ _ _ _ | with_reducible exact Junk.app5 _ _ _ _ _ _ _ _ _ | with_reducible apply Junk.alloc | with_reducible apply Junk.junk | with_reducible apply Junk.drew | with_reducible apply Junk.drewN))), by omega, Lib.hid (fun q hq => by omega)⟩
  case round =>
    obtain ⟨j, rfl, ⟨os, d, rfl⟩, hj, hM⟩ := hrel
    by_cases hjn : j < n
    case neg =>
      have hj2 : ¬ (j : Int) < (n : Int) := by omega
      obtain rfl : j = n := by omega
      have HE := Lib.hid (show T = true by rw [← HTT.out]; exact osSame_ok (fun i hi f g h1 h2 => hM.out i (by rw [HFn.out] at hi; exact hi) f g h1 h2))
      go_wp2
      go_ret
      exact ⟨by rw [HE.out] <;> rfl, by ((try simp only [World.junk_junk, Array.append_assoc]); (repeat (first | with_reducible exact Junk.refl _ | with_reducible exact Junk.app _ _ _ _ _ | with_reducible exact Junk.app2 _ _ _ _ _ _ | with_reducible exact Junk.app3 _ _ _ _ _ _ _ | with_reducible exact Junk.app4 _ _ _ _ _ _ _ _ | with_reducible exact Junk.app5 _ _ _ _ _ _ _ _ _ | with_reducible apply Junk.alloc | with_reducible apply Junk.junk | with_reducible apply Junk.drew | with_reducible apply Junk.drewN)))⟩
    have hj2 : (j : Int) < (n : Int) := by omega
    obtain ⟨f, hf⟩ : ∃ f, F[j]? = some f := ⟨_, List.getElem?_eq_getElem (by rw [HFn.out]; omega)⟩
    obtain ⟨g, hg⟩ : ∃ g, G[j]? = some g := ⟨_, List.getElem?_eq_getElem (by rw [HGm.out]; omega)⟩
    obtain ⟨bz, offz, rfl, hbz, z0, z1, zb⟩ := HS.out j f hf
    obtain ⟨by_, offy, rfl, hby, y0, y1, yb⟩ := HT.out j g hg
    have HZ := Lib.hid zb
    have HY := Lib.hid yb
    have Hf := Lib.hid hf
    have Hg := Lib.hid hg
    clear hf hg zb yb
    cases e1 : odSame f.d g.d with
    | false =>
      have HE := Lib.hid (show T = false by rw [← HTT.out]; exact osSame_bad (od_at Hf.out) (od_at Hg.out) e1)
      go_wp2_with (first | (go_at_call 58; refine (osame_any f g _ (Bts.on HZ.out (by ((try simp only [World.junk_junk, Array.append_assoc]); (repeat (first | with_reducible exact Junk.refl _ | with_reducible exact Junk.app _ _ _ _ _ | with_reducible exact Junk.app2 _ _ _ _ _ _ | with_reducible exact Junk.app3 _ _ _ _ _ _ _ | with_reducible exact Junk.app4 _ _ _ _ _ _ _ _ | with_reducible exact Junk.app5 _ _ _ _ _ _ _ _ _ | with_reducible apply Junk.alloc | with_reducible apply Junk.junk | with_reducible apply Junk.drew | with_reducible apply Junk.drewN))))) (Bts.on HY.out (by ((try simp only [World.junk_junk, Array.append_assoc]); (repeat (first | with_reducible exact Junk.refl _ | with_reducible exact Junk.app _ _ _ _ _ | with_reducible exact Junk.app2 _ _ _ _ _ _ | with_reducible exact Junk.app3 _ _ _ _ _ _ _ | with_reducible exact Junk.app4 _ _ _ _ _ _ _ _ | with_reducible exact Junk.app5 _ _ _ _ _ _ _ _ _ | with_reducible apply Junk.alloc | with_reducible apply Junk.junk | with_reducible apply Junk.drew | with_reducible apply Junk.drewN)))))).mono ?_; rintro e w' ⟨rfl, ⟨osj, dj, rfl⟩⟩))
      go_ret
      exact ⟨by rw [HE.out] <;> rfl, by ((try simp only [World.junk_junk, Array.append_assoc]); (repeat (first | with_reducible exact Junk.refl _ | with_reducible exact Junk.app _ _ _ _ _ | with_reducible exact Junk.app2 _ _ _ _ _ _ | with_reducible exact Junk.app3 _ _ _ _ _ _ _ | with_reducible exact Junk.app4 _ _ _ _ _ _ _ _ | with_reducible exact Junk.app5 _ _ _ _ _ _ _ _ _ | with_reducible apply Junk.alloc | with_reducible apply Junk.junk | with_reducible apply Junk.drew | with_reducible apply Junk.drewN)))⟩
    | true =>
      have HM2 := Lib.hid (show ∀ q, q < j + 1 → ∀ f g, F[q]? = some f → G[q]? = some g → odSame f.d g.d = true from fun q hq f' g' h1 h2 => by
        by_cases h : q = j
        · subst h
          rw [Hf.out] at h1; rw [Hg.out] at h2
          cases h1; cases h2
          exact e1
        · exact hM.out q (by omega) f' g' h1 h2)
      go_wp2_with (first | (go_at_call 58; refine (osame_any f g _ (Bts.on HZ.out (by ((try simp only [World.junk_junk, Array.append_assoc]); (repeat (first | with_reducible exact Junk.refl _ | with_reducible exact Junk.app _ _ _ _ _ | with_reducible exact Junk.app2 _ _ _ _ _ _ | with_reducible exact Junk.app3 _ _ _ _ _ _ _ | with_reducible exact Junk.app4 _ _ _ _ _ _ _ _ | with_reducible exact Junk.app5 _ _ _ _ _ _ _ _ _ | with_reducible apply Junk.alloc | with_reducible apply Junk.junk | with_reducible apply Junk.drew | with_reducible apply Junk.drewN))))) (Bts.on HY.out (by ((try simp only [World.junk_junk, Array.append_assoc]); (repeat (first | with_reducible exact Junk.refl _ | with_reducible exact Junk.app _ _ _ _ _ | with_reducible exact Junk.app2 _ _ _ _ _ _ | with_reducible exact Junk.app3 _ _ _ _ _ _ _ | with_reducible exact Junk.app4 _ _ _ _ _ _ _ _ | with_reducible exact Junk.app5 _ _ _ _ _ _ _ _ _ | with_reducible apply Junk.alloc | with_reducible apply Junk.junk | with_reducible apply Junk.drew | with_reducible apply Junk.drewN)))))).mono ?_; rintro e w' ⟨rfl, ⟨osj, dj, rfl⟩⟩))
      exact ⟨⟨j + 1, by go_num, by ((try simp only [World.junk_junk, Array.append_assoc]); (repeat (first | with_reducible exact Junk.refl _ | with_reducible exact Junk.app _ _ _ _ _ | with_reducible exact Junk.app2 _ _ _ _ _ _ | with_reducible exact Junk.app3 _ _ _ _ _ _ _ | with_reducible exact Junk.app4 _ _ _ _ _ _ _ _ | with_reducible exact Junk.app5 _ _ _ _ _ _ _ _ _ | with_reducible apply Junk.alloc | with_reducible apply Junk.junk | with_reducible apply Junk.drew | with_reducible apply Junk.drewN))), by omega, HM2⟩, by simp [intOf]; omega⟩
set_option maxHeartbeats 4000000 in
theorem tsame_any (t u : Tc) (F G : List Ot) (n m : Nat) (oo ob oo2 ob2 : Option Addr) (co cb co2 cb2 : Nat) (w : World) (hF : F.map Ot.d = t.os) (hG : G.map Ot.d = u.os) (hFn : F.length = n) (hGm : G.length = m) (hn : n ≤ 1000000) (hm : m ≤ 1000000)
    (hP : TcAt w F oo co t.bl t.body ob cb) (hQ : TcAt w G oo2 co2 u.bl u.body ob2 cb2) :
    Calls Try.prog 23 #[.agg #[.int .i64 t.sport, .int .i64 t.dport, .int .u32 t.seq, .int .u32 t.ack, .int .i64 t.flags, .int .i64 t.win, .int .i64 t.urg, .slice oo n co, .slice ob t.bl cb], .agg #[.int .i64 u.sport, .int .i64 u.dport, .int .u32 u.seq, .int .u32 u.ack, .int .i64 u.flags, .int .i64 u.win, .int .i64 u.urg, .slice oo2 m co2, .slice ob2 u.bl cb2]] w fun e w' => e = .returned (.bool (tcSame t u)) ∧ Junk w w' := by
  have HP := Lib.hid hP
  have HQ := Lib.hid hQ
  have HF := Lib.hid hF
  have HG := Lib.hid hG
  have HFn := Lib.hid hFn
  have HGm := Lib.hid hGm
  have hnl : n = t.os.length := by rw [← hF, ← hFn]; simp
  have hml : m = u.os.length := by rw [← hG, ← hGm]; simp
  obtain ⟨T, hT⟩ : ∃ T, T = tcSame t u := ⟨_, rfl⟩
  have HT := Lib.hid hT
  have HL := Lib.hid (show (t.os.length == u.os.length) = (n == m) by rw [← hnl, ← hml])
  rw [← hT]
  clear hT hP hQ hF hG hFn hGm hnl hml
  cases a1 : t.sport == u.sport with
  | false =>
    have HE := Lib.hid (show T = false by rw [HT.out]; simp only [tcSame, headSameT, *, Bool.false_and, Bool.and_false, Bool.true_and])
    go_enter Try.func23, Try.ntmps23
    go_wp2
    go_ret
    exact ⟨by rw [HE.out] <;> rfl, by ((try simp only [World.junk_junk, Array.append_assoc]); (repeat (first | with_reducible exact Junk.refl _ | with_reducible exact Junk.app _ _ _ _ _ | with_reducible exact Junk.app2 _ _ _ _ _ _ | with_reducible exact Junk.app3 _ _ _ _ _ _ _ | with_reducible exact Junk.app4 _ _ _ _ _ _ _ _ | with_reducible exact Junk.app5 _ _ _ _ _ _ _ _ _ | with_reducible apply Junk.alloc | with_reducible apply Junk.junk | with_reducible apply Junk.drew | with_reducible apply Junk.drewN)))⟩
  | true =>
    cases a2 : t.dport == u.dport with
    | false =>
      have HE := Lib.hid (show T = false by rw [HT.out]; simp only [tcSame, headSameT, *, Bool.false_and, Bool.and_false, Bool.true_and])
      go_enter Try.func23, Try.ntmps23
      go_wp2
      go_ret
      exact ⟨by rw [HE.out] <;> rfl, by ((try simp only [World.junk_junk, Array.append_assoc]); (repeat (first | with_reducible exact Junk.refl _ | with_reducible exact Junk.app _ _ _ _ _ | with_reducible exact Junk.app2 _ _ _ _ _ _ | with_reducible exact Junk.app3 _ _ _ _ _ _ _ | with_reducible exact Junk.app4 _ _ _ _ _ _ _ _ | with_reducible exact Junk.app5 _ _ _ _ _ _ _ _ _ | with_reducible apply Junk.alloc | with_reducible apply Junk.junk | with_reducible apply Junk.drew | with_reducible apply Junk.drewN)))⟩
    | true =>
      cases a3 : t.seq == u.seq with
      | false =>
        have HE := Lib.hid (show T = false by rw [HT.out]; simp only [tcSame, headSameT, *, Bool.false_and, Bool.and_false, Bool.true_and])
        go_enter Try.func23, Try.ntmps23
        go_wp2
        go_ret
        exact ⟨by rw [HE.out] <;> rfl, by ((try simp only [World.junk_junk, Array.append_assoc]); (repeat (first | with_reducible exact Junk.refl _ | with_reducible exact Junk.app _ _ _ _ _ | with_reducible exact Junk.app2 _ _ _ _ _ _ | with_reducible exact Junk.app3 _ _ _ _ _ _ _ | with_reducible exact Junk.app4 _ _ _ _ _ _ _ _ | with_reducible exact Junk.app5 _ _ _ _ _ _ _ _ _ | with_reducible apply Junk.alloc | with_reducible apply Junk.junk | with_reducible apply Junk.drew | with_reducible apply Junk.drewN)))⟩
      | true =>
        cases a4 : t.ack == u.ack with
        | false =>
          have HE := Lib.hid (show T = false by rw [HT.out]; simp only [tcSame, headSameT, *, Bool.false_and, Bool.and_false, Bool.true_and])
          go_enter Try.func23, Try.ntmps23
          go_wp2
          go_ret
          exact ⟨by rw [HE.out] <;> rfl, by ((try simp only [World.junk_junk, Array.append_assoc]); (repeat (first | with_reducible exact Junk.refl _ | with_reducible exact Junk.app _ _ _ _ _ | with_reducible exact Junk.app2 _ _ _ _ _ _ | with_reducible exact Junk.app3 _ _ _ _ _ _ _ | with_reducible exact Junk.app4 _ _ _ _ _ _ _ _ | with_reducible exact Junk.app5 _ _ _ _ _ _ _ _ _ | with_reducible apply Junk.alloc | with_reducible apply Junk.junk | with_reducible apply Junk.drew | with_reducible apply Junk.drewN)))⟩
        | true =>
          cases a5 : t.flags == u.flags with
          | false =>
            have HE := Lib.hid (show T = false by rw [HT.out]; simp only [tcSame, headSameT, *, Bool.false_and, Bool.and_false, Bool.true_and])
            go_enter Try.func23, Try.ntmps23
            go_wp2
            go_ret
            exact ⟨by rw [HE.out] <;> rfl, by ((try simp only [World.junk_junk, Array.append_assoc]); (repeat (first | with_reducible exact Junk.refl _ | with_reducible exact Junk.app _ _ _ _ _ | with_reducible exact Junk.app2 _ _ _ _ _ _ | with_reducible exact Junk.app3 _ _ _ _ _ _ _ | with_reducible exact Junk.app4 _ _ _ _ _ _ _ _ | with_reducible exact Junk.app5 _ _ _ _ _ _ _ _ _ | with_reducible apply Junk.alloc | with_reducible apply Junk.junk | with_reducible apply Junk.drew | with_reducible apply Junk.drewN)))⟩
          | true =>
            cases a6 : t.win == u.win with
            | false =>
              have HE := Lib.hid (show T = false by rw [HT.out]; simp only [tcSame, headSameT, *, Bool.false_and, Bool.and_false, Bool.true_and])
              go_enter Try.func23, Try.ntmps23
              go_wp2
              go_ret
              exact ⟨by rw [HE.out] <;> rfl, by ((try simp only [World.junk_junk, Array.append_assoc]); (repeat (first | with_reducible exact Junk.refl _ | with_reducible exact Junk.app _ _ _ _ _ | with_reducible exact Junk.app2 _ _ _ _ _ _ | with_reducible exact Junk.app3 _ _ _ _ _ _ _ | with_reducible exact Junk.app4 _ _ _ _ _ _ _ _ | with_reducible exact Junk.app5 _ _ _ _ _ _ _ _ _ | with_reducible apply Junk.alloc | with_reducible apply Junk.junk | with_reducible apply Junk.drew | with_reducible apply Junk.drewN)))⟩
            | true =>
              cases a7 : t.urg == u.urg with
              | false =>
                have HE := Lib.hid (show T = false by rw [HT.out]; simp only [tcSame, headSameT, *, Bool.false_and, Bool.and_false, Bool.true_and])
                go_enter Try.func23, Try.ntmps23
                go_wp2
                go_ret
                exact ⟨by rw [HE.out] <;> rfl, by ((try simp only [World.junk_junk, Array.append_assoc]); (repeat (first | with_reducible exact Junk.refl _ | with_reducible exact Junk.app _ _ _ _ _ | with_reducible exact Junk.app2 _ _ _ _ _ _ | with_reducible exact Junk.app3 _ _ _ _ _ _ _ | with_reducible exact Junk.app4 _ _ _ _ _ _ _ _ | with_reducible exact Junk.app5 _ _ _ _ _ _ _ _ _ | with_reducible apply Junk.alloc | with_reducible apply Junk.junk | with_reducible apply Junk.drew | with_reducible apply Junk.drewN)))⟩
              | true =>
                cases b1 : sameN t.body u.body t.bl u.bl with
                | false =>
                  have HE := Lib.hid (show T = false by rw [HT.out]; simp only [tcSame, b1, Bool.false_and, Bool.and_false])
                  go_enter Try.func23, Try.ntmps23
                  go_wp2_with (first | (go_at_call 56; refine (equal_any _ _ _ _ _ _ t.body u.body _ (HP.out.body.at_.on (by (repeat (first | with_reducible exact Junk.refl _ | with_reducible exact Junk.app _ _ _ _ _ | with_reducible apply Junk.alloc | with_reducible apply Junk.junk | with_reducible apply Junk.drew | with_reducible apply Junk.drewN)))) (HQ.out.body.at_.on (by (repeat (first | with_reducible exact Junk.refl _ | with_reducible exact Junk.app _ _ _ _ _ | with_reducible apply Junk.alloc | with_reducible apply Junk.junk | with_reducible apply Junk.drew | with_reducible apply Junk.drewN)))) HP.out.body.byte HQ.out.body.byte).mono ?_; rintro e w' ⟨rfl, rfl⟩))
                  go_ret
                  exact ⟨by rw [HE.out] <;> rfl, by ((try simp only [World.junk_junk, Array.append_assoc]); (repeat (first | with_reducible exact Junk.refl _ | with_reducible exact Junk.app _ _ _ _ _ | with_reducible exact Junk.app2 _ _ _ _ _ _ | with_reducible exact Junk.app3 _ _ _ _ _ _ _ | with_reducible exact Junk.app4 _ _ _ _ _ _ _ _ | with_reducible exact Junk.app5 _ _ _ _ _ _ _ _ _ | with_reducible apply Junk.alloc | with_reducible apply Junk.junk | with_reducible apply Junk.drew | with_reducible apply Junk.drewN)))⟩
                | true =>
                  have HE := Lib.hid (show T = ((n == m) && osSame (F.map Ot.d) (G.map Ot.d)) by rw [HT.out, HF.out, HG.out]; have := HL.out; simp only [tcSame, headSameT, *, Bool.true_and, Bool.and_true])
                  go_enter Try.func23, Try.ntmps23
                  go_wp2_with (first | (go_at_call 56; refine (equal_any _ _ _ _ _ _ t.body u.body _ (HP.out.body.at_.on (by (repeat (first | with_reducible exact Junk.refl _ | with_reducible exact Junk.app _ _ _ _ _ | with_reducible apply Junk.alloc | with_reducible apply Junk.junk | with_reducible apply Junk.drew | with_reducible apply Junk.drewN)))) (HQ.out.body.at_.on (by (repeat (first | with_reducible exact Junk.refl _ | with_reducible exact Junk.app _ _ _ _ _ | with_reducible apply Junk.alloc | with_reducible apply Junk.junk | with_reducible apply Junk.drew | with_reducible apply Junk.drewN)))) HP.out.body.byte HQ.out.body.byte).mono ?_; rintro e w' ⟨rfl, rfl⟩) | (go_at_call 57; refine (eqF_any oo oo2 n m co co2 F G _ hn hm HFn.out HGm.out (HP.out.os.on (by ((try simp only [World.junk_junk, Array.append_assoc]); (repeat (first | with_reducible exact Junk.refl _ | with_reducible exact Junk.app _ _ _ _ _ | with_reducible exact Junk.app2 _ _ _ _ _ _ | with_reducible exact Junk.app3 _ _ _ _ _ _ _ | with_reducible exact Junk.app4 _ _ _ _ _ _ _ _ | with_reducible exact Junk.app5 _ _ _ _ _ _ _ _ _ | with_reducible apply Junk.alloc | with_reducible apply Junk.junk | with_reducible apply Junk.drew | with_reducible apply Junk.drewN))))) (HQ.out.os.on (by ((try simp only [World.junk_junk, Array.append_assoc]); (repeat (first | with_reducible exact Junk.refl _ | with_reducible exact Junk.app _ _ _ _ _ | with_reducible exact Junk.app2 _ _ _ _ _ _ | with_reducible exact Junk.app3 _ _ _ _ _ _ _ | with_reducible exact Junk.app4 _ _ _ _ _ _ _ _ | with_reducible exact Junk.app5 _ _ _ _ _ _ _ _ _ | with_reducible apply Junk.alloc | with_reducible apply Junk.junk | with_reducible apply Junk.drew | with_reducible apply Junk.drewN)))))).mono ?_; rintro e w' ⟨rfl, ⟨osj, dj, rfl⟩⟩))
                  go_ret
                  exact ⟨by rw [HE.out] <;> rfl, by ((try simp only [World.junk_junk, Array.append_assoc]); (repeat (first | with_reducible exact Junk.refl _ | with_reducible exact Junk.app _ _ _ _ _ | with_reducible exact Junk.app2 _ _ _ _ _ _ | with_reducible exact Junk.app3 _ _ _ _ _ _ _ | with_reducible exact Junk.app4 _ _ _ _ _ _ _ _ | with_reducible exact Junk.app5 _ _ _ _ _ _ _ _ _ | with_reducible apply Junk.alloc | with_reducible apply Junk.junk | with_reducible apply Junk.drew | with_reducible apply Junk.drewN)))⟩
end Go.Proofs.Ytjmofjcloebgmaa
