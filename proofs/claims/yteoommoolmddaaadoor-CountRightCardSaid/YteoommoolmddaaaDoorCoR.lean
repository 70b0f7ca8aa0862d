/- The reference's Right. -/
import Derived.Test.YteoommoolmddaaaDoorCoD
set_option linter.unusedVariables false
set_option maxRecDepth 100000
set_option linter.unusedSimpArgs false
namespace Go.Proofs.YteoommoolmddaaaDoor
open Go.RowKit
set_option maxHeartbeats 4000000 in
theorem rright30_any (oa : Option Addr) (l c : Nat) (L : List Tl) (w : World) (hl : l ≤ 1000000) (hS : TsB w oa l c L) : Calls Tryd.prog 16 #[.slice oa l c] w fun e w' => e = .returned (.bool (tlRight L)) ∧ Junk w w' := by
  have HS := Lib.hid hS
  have HL := Lib.hid hS.len
  obtain ⟨T, hT⟩ : ∃ T, T = tlRight L := ⟨_, rfl⟩
  rw [← hT]
  have HT := Lib.hid hT
  clear hT hS
  go_enter Tryd.func16, Tryd.ntmps16
  go_wp2
  go_loopw [3] (fun i wr => ∃ k : Nat, i = .int .i64 (k : Int) ∧ Junk w wr ∧ k ≤ l ∧ Hid (TlGood L k)) (fun i _ => l + 1 - (intOf i).toNat)
  case atStart => exact ⟨0, rfl, by (first | ((repeat (first | with_reducible exact Junk.refl _ | with_reducible exact Junk.app _ _ _ _ _ | with_reducible apply Junk.alloc | with_reducible apply Junk.junk | with_reducible apply Junk.drew | with_reducible apply Junk.drewN)); done) | ((try simp only [World.junk_junk, Array.append_assoc]); (repeat (first | with_reducible exact Junk.refl _ | with_reducible exact Junk.app _ _ _ _ _ | with_reducible exact Junk.app2 _ _ _ _ _ _ | with_reducible exact Junk.app3 _ _ _ _ _ _ _ | with_reducible exact Junk.app4 _ _ _ _ _ _ _ _ | with_reducible exact Junk.app5 _ _ _ _ _ _ _ _ _ | with_reducible apply Junk.alloc | with_reducible apply Junk.junk | with_reducible apply Junk.drew | with_reducible apply Junk.drewN)))), by omega, Lib.hid (fun j hj => by omega)⟩
  case round =>
    obtain ⟨k, rfl, ⟨os, d, rfl⟩, hk, hN⟩ := hrel
    by_cases hkl : k < l
    · have hk2 : (k : Int) < (l : Int) := by omega
      obtain ⟨x, hx⟩ : ∃ x, L[k]? = some x := ⟨_, List.getElem?_eq_getElem (by rw [HL.out]; exact hkl)⟩
      obtain ⟨b, off, hob, hb, c0, c1, c2, c3⟩ := HS.out.at_ k x hx
      subst hob
      obtain ⟨xz, xv, xn, xb⟩ := x
      simp only at c0 c1 c2 c3
      have HX := Lib.hid hx
      by_cases q1 : xn < 1
      · have q1b : xn ≤ 0 := by omega
        have HE := Lib.hid (show T = false by rw [HT.out]; exact right_bad1 HX.out (by unfold tlOk; simp; omega))
        clear hx
        go_wp2
        go_ret
        exact ⟨by rw [HE.out]; rfl, by (first | ((repeat (first | with_reducible exact Junk.refl _ | with_reducible exact Junk.app _ _ _ _ _ | with_reducible apply Junk.alloc | with_reducible apply Junk.junk | with_reducible apply Junk.drew | with_reducible apply Junk.drewN)); done) | ((try simp only [World.junk_junk, Array.append_assoc]); (repeat (first | with_reducible exact Junk.refl _ | with_reducible exact Junk.app _ _ _ _ _ | with_reducible exact Junk.app2 _ _ _ _ _ _ | with_reducible exact Junk.app3 _ _ _ _ _ _ _ | with_reducible exact Junk.app4 _ _ _ _ _ _ _ _ | with_reducible exact Junk.app5 _ _ _ _ _ _ _ _ _ | with_reducible apply Junk.alloc | with_reducible apply Junk.junk | with_reducible apply Junk.drew | with_reducible apply Junk.drewN))))⟩
      have q1d : decide (xn < 1) = false := by simpa using q1
      by_cases q2 : 1099511627776 < xn
      · have HE := Lib.hid (show T = false by rw [HT.out]; exact right_bad1 HX.out (by unfold tlOk; simp; omega))
        clear hx
        go_wp2
        go_ret
        exact ⟨by rw [HE.out]; rfl, by (first | ((repeat (first | with_reducible exact Junk.refl _ | with_reducible exact Junk.app _ _ _ _ _ | with_reducible apply Junk.alloc | with_reducible apply Junk.junk | with_reducible apply Junk.drew | with_reducible apply Junk.drewN)); done) | ((try simp only [World.junk_junk, Array.append_assoc]); (repeat (first | with_reducible exact Junk.refl _ | with_reducible exact Junk.app _ _ _ _ _ | with_reducible exact Junk.app2 _ _ _ _ _ _ | with_reducible exact Junk.app3 _ _ _ _ _ _ _ | with_reducible exact Junk.app4 _ _ _ _ _ _ _ _ | with_reducible exact Junk.app5 _ _ _ _ _ _ _ _ _ | with_reducible apply Junk.alloc | with_reducible apply Junk.junk | with_reducible apply Junk.drew | with_reducible apply Junk.drewN))))⟩
      have q2d : decide (1099511627776 < xn) = false := by simpa using q2
      by_cases q3 : xb < 0
      · have HE := Lib.hid (show T = false by rw [HT.out]; exact right_bad1 HX.out (by unfold tlOk; simp; omega))
        clear hx
        go_wp2
        go_ret
        exact ⟨by rw [HE.out]; rfl, by (first | ((repeat (first | with_reducible exact Junk.refl _ | with_reducible exact Junk.app _ _ _ _ _ | with_reducible apply Junk.alloc | with_reducible apply Junk.junk | with_reducible apply Junk.drew | with_reducible apply Junk.drewN)); done) | ((try simp only [World.junk_junk, Array.append_assoc]); (repeat (first | with_reducible exact Junk.refl _ | with_reducible exact Junk.app _ _ _ _ _ | with_reducible exact Junk.app2 _ _ _ _ _ _ | with_reducible exact Junk.app3 _ _ _ _ _ _ _ | with_reducible exact Junk.app4 _ _ _ _ _ _ _ _ | with_reducible exact Junk.app5 _ _ _ _ _ _ _ _ _ | with_reducible apply Junk.alloc | with_reducible apply Junk.junk | with_reducible apply Junk.drew | with_reducible apply Junk.drewN))))⟩
      have q3d : decide (xb < 0) = false := by simpa using q3
      by_cases q4 : 1099511627776 < xb
      · have HE := Lib.hid (show T = false by rw [HT.out]; exact right_bad1 HX.out (by unfold tlOk; simp; omega))
        clear hx
        go_wp2
        go_ret
        exact ⟨by rw [HE.out]; rfl, by (first | ((repeat (first | with_reducible exact Junk.refl _ | with_reducible exact Junk.app _ _ _ _ _ | with_reducible apply Junk.alloc | with_reducible apply Junk.junk | with_reducible apply Junk.drew | with_reducible apply Junk.drewN)); done) | ((try simp only [World.junk_junk, Array.append_assoc]); (repeat (first | with_reducible exact Junk.refl _ | with_reducible exact Junk.app _ _ _ _ _ | with_reducible exact Junk.app2 _ _ _ _ _ _ | with_reducible exact Junk.app3 _ _ _ _ _ _ _ | with_reducible exact Junk.app4 _ _ _ _ _ _ _ _ | with_reducible exact Junk.app5 _ _ _ _ _ _ _ _ _ | with_reducible apply Junk.alloc | with_reducible apply Junk.junk | with_reducible apply Junk.drew | with_reducible apply Junk.drewN))))⟩
      have q4d : decide (1099511627776 < xb) = false := by simpa using q4
      have HOK := Lib.hid (show tlOk ⟨xz, xv, xn, xb⟩ = true by unfold tlOk; simp; omega)
      by_cases q5 : 0 < k
      · have q5' : (0 : Int) < (k : Int) := by omega
        obtain ⟨m, hm⟩ : ∃ m, k = m + 1 := ⟨k - 1, by omega⟩
        have HM := Lib.hid hm
        have e1 : (k : Int) - 1 = (m : Int) := by omega
        have e2 : m < l := by omega
        have e3 : (m : Int) < (l : Int) := by omega
        obtain ⟨y, hy⟩ : ∃ y, L[m]? = some y := ⟨_, List.getElem?_eq_getElem (by rw [HL.out]; exact e2)⟩
        obtain ⟨b', off', hob', _, z0, z1, z2, z3⟩ := HS.out.at_ m y hy
        cases hob'
        have HY := Lib.hid hy
        have HLS := Lib.hid (fun w1 => show Calls Tryd.prog 26 #[y.val, .agg #[.int .i64 xz, .int .i64 xv, .int .i64 xn, .int .i64 xb]] w1 fun e w' => e = .returned (.bool (tlLess y ⟨xz, xv, xn, xb⟩)) ∧ Junk w1 w' from less30_any y ⟨xz, xv, xn, xb⟩ w1)
        clear hx hy hm
        cases hc : tlLess y ⟨xz, xv, xn, xb⟩ with
        | false =>
          rw [hc] at HLS
          have HE := Lib.hid (show T = false by rw [HT.out]; exact right_bad2 HX.out HY.out HM.out hc)
          clear hc
          go_wp2
          refine wp_region_junk (by kernel_rfl) (by kernel_rfl) ?_; (repeat (go_big_quiet_step (first | (go_at_call 26; first | with_reducible exact Calls.junk_of5 (HLS.out _) | with_reducible exact Calls.junk_of4 (HLS.out _) | with_reducible exact Calls.junk_of3 (HLS.out _) | with_reducible exact Calls.junk_of2 (HLS.out _) | with_reducible exact Calls.junk_of (HLS.out _))))); refine wpQuiet_nil ?_; rintro _ ⟨⟨osq, dq⟩, rfl⟩
          go_wp2
          go_ret
          exact ⟨by rw [HE.out]; rfl, by (first | ((repeat (first | with_reducible exact Junk.refl _ | with_reducible exact Junk.app _ _ _ _ _ | with_reducible apply Junk.alloc | with_reducible apply Junk.junk | with_reducible apply Junk.drew | with_reducible apply Junk.drewN)); done) | ((try simp only [World.junk_junk, Array.append_assoc]); (repeat (first | with_reducible exact Junk.refl _ | with_reducible exact Junk.app _ _ _ _ _ | with_reducible exact Junk.app2 _ _ _ _ _ _ | with_reducible exact Junk.app3 _ _ _ _ _ _ _ | with_reducible exact Junk.app4 _ _ _ _ _ _ _ _ | with_reducible exact Junk.app5 _ _ _ _ _ _ _ _ _ | with_reducible apply Junk.alloc | with_reducible apply Junk.junk | with_reducible apply Junk.drew | with_reducible apply Junk.drewN))))⟩
        | true =>
          rw [hc] at HLS
          have HN2 := Lib.hid (show TlGood L (k + 1) from good_next hN.out HX.out HOK.out fun m' y' hm' hy' => by
            have := HM.out
            obtain rfl : m' = m := by omega
            rw [HY.out] at hy'
            cases hy'
            exact hc)
          clear hc
          go_wp2
          refine wp_region_junk (by kernel_rfl) (by kernel_rfl) ?_; (repeat (go_big_quiet_step (first | (go_at_call 26; first | with_reducible exact Calls.junk_of5 (HLS.out _) | with_reducible exact Calls.junk_of4 (HLS.out _) | with_reducible exact Calls.junk_of3 (HLS.out _) | with_reducible exact Calls.junk_of2 (HLS.out _) | with_reducible exact Calls.junk_of (HLS.out _))))); refine wpQuiet_nil ?_; rintro _ ⟨⟨osq, dq⟩, rfl⟩
          go_wp2
          exact ⟨⟨k + 1, by go_num, by (first | ((repeat (first | with_reducible exact Junk.refl _ | with_reducible exact Junk.app _ _ _ _ _ | with_reducible apply Junk.alloc | with_reducible apply Junk.junk | with_reducible apply Junk.drew | with_reducible apply Junk.drewN)); done) | ((try simp only [World.junk_junk, Array.append_assoc]); (repeat (first | with_reducible exact Junk.refl _ | with_reducible exact Junk.app _ _ _ _ _ | with_reducible exact Junk.app2 _ _ _ _ _ _ | with_reducible exact Junk.app3 _ _ _ _ _ _ _ | with_reducible exact Junk.app4 _ _ _ _ _ _ _ _ | with_reducible exact Junk.app5 _ _ _ _ _ _ _ _ _ | with_reducible apply Junk.alloc | with_reducible apply Junk.junk | with_reducible apply Junk.drew | with_reducible apply Junk.drewN)))), by omega, HN2⟩, by simp [intOf]; omega⟩
      · have q5' : ¬ (0 : Int) < (k : Int) := by omega
        have q5d : decide ((0 : Int) < (k : Int)) = false := by simpa using q5'
        have HN2 := Lib.hid (show TlGood L (k + 1) from good_next hN.out HX.out HOK.out fun m' y' hm' hy' => by omega)
        clear hx
        go_wp2
        refine wp_region_junk (by kernel_rfl) (by kernel_rfl) ?_; (repeat (go_big_quiet_step (first | fail))); refine wpQuiet_nil ?_; rintro _ ⟨⟨osq, dq⟩, rfl⟩
        go_wp2
        exact ⟨⟨k + 1, by go_num, by (first | ((repeat (first | with_reducible exact Junk.refl _ | with_reducible exact Junk.app _ _ _ _ _ | with_reducible apply Junk.alloc | with_reducible apply Junk.junk | with_reducible apply Junk.drew | with_reducible apply Junk.drewN)); done) | ((try simp only [World.junk_junk, Array.append_assoc]); (repeat (first | with_reducible exact Junk.refl _ | with_reducible exact Junk.app _ _ _ _ _ | with_reducible exact Junk.app2 _ _ _ _ _ _ | with_reducible exact Junk.app3 _ _ _ _ _ _ _ | with_reducible exact Junk.app4 _ _ _ _ _ _ _ _ | with_reducible exact Junk.app5 _ _ _ _ _ _ _ _ _ | with_reducible apply Junk.alloc | with_reducible apply Junk.junk | with_reducible apply Junk.drew | with_reducible apply Junk.drewN)))), by omega, HN2⟩, by simp [intOf]; omega⟩
    · have hk2 : ¬ (k : Int) < (l : Int) := by omega
      obtain rfl : k = l := by omega
      have HE := Lib.hid (show T = true by rw [HT.out]; exact right_good (by rw [HL.out]; exact hN.out))
      go_wp2
      go_ret
      exact ⟨by rw [HE.out]; rfl, by (first | ((repeat (first | with_reducible exact Junk.refl _ | with_reducible exact Junk.app _ _ _ _ _ | with_reducible apply Junk.alloc | with_reducible apply Junk.junk | with_reducible apply Junk.drew | with_reducible apply Junk.drewN)); done) | ((try simp only [World.junk_junk, Array.append_assoc]); (repeat (first | with_reducible exact Junk.refl _ | with_reducible exact Junk.app _ _ _ _ _ | with_reducible exact Junk.app2 _ _ _ _ _ _ | with_reducible exact Junk.app3 _ _ _ _ _ _ _ | with_reducible exact Junk.app4 _ _ _ _ _ _ _ _ | with_reducible exact Junk.app5 _ _ _ _ _ _ _ _ _ | with_reducible apply Junk.alloc | with_reducible apply Junk.junk | with_reducible apply Junk.drew | with_reducible apply Junk.drewN))))⟩
end Go.Proofs.YteoommoolmddaaaDoor
