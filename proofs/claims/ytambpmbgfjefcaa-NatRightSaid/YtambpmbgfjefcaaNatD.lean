/- nat.Right. -/
import Derived.Test.YtambpmbgfjefcaaNatC
set_option linter.unusedVariables false
set_option maxRecDepth 100000
set_option linter.unusedSimpArgs false
namespace Go.Proofs.Ytambpmbgfjefcaa
open Go.RowKit
def lnOk (lo hi : Int) (L : List Ln) (i : Nat) (x : Ln) : Bool :=
  namedB x && withinB x.port lo hi && ((L.take i).findIdx? (outerB x)).isNone && ((L.take i).findIdx? (innerB x)).isNone
def natRight (lo hi : Int) (L : List Ln) : Bool := rightB lo hi && decide (∀ i, i < L.length → ∀ x, L[i]? = some x → lnOk lo hi L i x = true)
theorem idxI_none {o : Option Nat} : ¬ 0 ≤ idxI o ↔ o.isNone = true := by cases o <;> simp [idxI]
theorem idxI_some {o : Option Nat} : 0 ≤ idxI o ↔ o.isNone = false := by cases o <;> simp [idxI]
theorem natRight_bad {lo hi : Int} {L : List Ln} {i : Nat} {x : Ln} (hx : L[i]? = some x) (h : lnOk lo hi L i x = false) : natRight lo hi L = false := by
  unfold natRight
  simp only [Bool.and_eq_false_iff, decide_eq_false_iff_not]
  right
  intro ha
  have := ha i (List.getElem?_eq_some_iff.1 hx).1 x hx
  rw [h] at this
  cases this
set_option maxHeartbeats 4000000 in
theorem natRight_any (lo hi : Int) (oa : Option Addr) (l c : Nat) (L : List Ln) (w : World) (hl : l ≤ 1000000) (hlc : l ≤ c) (hL : L.length = l) (hS : LsAt w oa L) :
    Calls Try.prog 19 #[.slice oa l c, .int .i64 lo, .int .i64 hi] w fun e w' => e = .returned (.bool (natRight lo hi L)) ∧ Junk w w' := by
  have HS := Lib.hid hS
  have HL := Lib.hid hL
  clear hS hL
  obtain ⟨T, hT⟩ : ∃ T, T = natRight lo hi L := ⟨_, rfl⟩
  have HT := Lib.hid hT
  rw [← hT]
  clear hT
  cases hr : rightB lo hi with
  | false =>
    have HE := Lib.hid (show T = false by rw [HT.out]; unfold natRight; rw [hr]; rfl)
    go_enter Try.func19, Try.ntmps19
    go_wp2_with (first | (go_at_call 14; refine (right_any lo hi _).mono ?_; rintro e w' ⟨rfl, rfl⟩; rw [hr]))
    go_ret
    exact ⟨by rw [HE.out]; rfl, by ((try simp only [World.junk_junk, Array.append_assoc]); (repeat (first | with_reducible exact Junk.refl _ | with_reducible exact Junk.app _ _ _ _ _ | with_reducible exact Junk.app2 _ _ _ _ _ _ | with_reducible exact Junk.app3 _ _ _ _ _ _ _ | with_reducible exact Junk.app4 _ _ _ _ _ _ _ _ | with_reducible exact Junk.app5 _ _ _ _ _ _ _ _ _ | with_reducible apply Junk.alloc | with_reducible apply Junk.junk | with_reducible apply Junk.drew | with_reducible apply Junk.drewN)))⟩
  | true =>
    have HR := Lib.hid hr
    clear hr
    go_enter Try.func19, Try.ntmps19
    go_wp2_with (first | (go_at_call 14; refine (right_any lo hi _).mono ?_; rintro e w' ⟨rfl, rfl⟩; rw [HR.out]))
    go_loopw [15] (fun i wr => ∃ k : Nat, i = .int .i64 (k : Int) ∧ Junk w wr ∧ k ≤ l ∧ Hid (∀ j, j < k → ∀ y, L[j]? = some y → lnOk lo hi L j y = true)) (fun i _ => l + 1 - (intOf i).toNat)
    case atStart => exact ⟨0, rfl, by ((try simp only [World.junk_junk, Array.append_assoc]); (repeat (first | with_reducible exact Junk.refl _ | with_reducible exact Junk.app _ _ _ _ _ | with_reducible exact Junk.app2 _ _ _ _ _ _ | with_reducible exact Junk.app3 _ _ _ _ _ _ _ | with_reducible exact Junk.app4 _ _ _ _ _ _ _ _ | with_reducible exact Junk.app5 _ _ _ _ _ _ _ _ _ | with_reducible apply Junk.alloc | with_reducible apply Junk.junk | with_reducible apply Junk.drew | with_reducible apply Junk.drewN))), by omega, Lib.hid (fun j hj => by omega)⟩
    case round =>
      obtain ⟨k, rfl, ⟨os, d, rfl⟩, hk, hN⟩ := hrel
      by_cases hkl : k < l
      · have hk2 : (k : Int) < (l : Int) := by omega
        have hk3 : (k : Int) ≤ (c : Int) := by omega
        have hk4 : k ≤ c := by omega
        obtain ⟨x, hx⟩ : ∃ x, L[k]? = some x := ⟨_, List.getElem?_eq_getElem (by rw [HL.out]; exact hkl)⟩
        have HP := Lib.hid (HS.out.take k)
        have HPL := Lib.hid (show (L.take k).length = k by rw [List.length_take, HL.out]; omega)
        obtain ⟨b, off, rfl, hb, c0, c1, c2, c3, c4⟩ := HS.out k x hx
        have HX := Lib.hid hx
        obtain ⟨i3, hi3⟩ : ∃ i3, i3 = idxI ((L.take k).findIdx? (outerB x)) := ⟨_, rfl⟩
        obtain ⟨i4, hi4⟩ : ∃ i4, i4 = idxI ((L.take k).findIdx? (innerB x)) := ⟨_, rfl⟩
        have H3 := Lib.hid hi3
        have H4 := Lib.hid hi4
        obtain ⟨C1, hC1⟩ : ∃ C1, C1 = namedB x := ⟨_, rfl⟩
        obtain ⟨C2, hC2⟩ : ∃ C2, C2 = withinB x.port lo hi := ⟨_, rfl⟩
        have HC1 := Lib.hid hC1
        have HC2 := Lib.hid hC2
        have fn1 : ∀ w1, Calls Try.prog 34 #[x.val] w1 fun e w' => e = .returned (.bool C1) ∧ Junk w1 w' := fun w1 => by rw [hC1]; exact named_any x w1
        have fn2 : ∀ w1, Calls Try.prog 35 #[.int .i64 x.port, .int .i64 lo, .int .i64 hi] w1 fun e w' => e = .returned (.bool C2) ∧ w1 = w' := fun w1 => by rw [hC2]; exact within_any _ _ _ w1
        have fn3 : ∀ w1, LsAt w1 (some ⟨b, off, none⟩) (L.take k) → Calls Try.prog 36 #[.slice (some ⟨b, off, none⟩) k c, x.val, .func (.func 37) #[] #[]] w1 fun e w' => e = .returned (.int .i64 i3) ∧ Junk w1 w' := fun w1 h1 => by rw [hi3]; exact find_outer x _ k c _ w1 (by omega) HPL.out h1
        have fn4 : ∀ w1, LsAt w1 (some ⟨b, off, none⟩) (L.take k) → Calls Try.prog 36 #[.slice (some ⟨b, off, none⟩) k c, x.val, .func (.func 38) #[] #[]] w1 fun e w' => e = .returned (.int .i64 i4) ∧ Junk w1 w' := fun w1 h1 => by rw [hi4]; exact find_inner x _ k c _ w1 (by omega) HPL.out h1
        clear hx hi3 hi4 hC1 hC2
        obtain ⟨xp, xi, xn, xo, xt⟩ := x
        have F1 := Lib.hid fn1
        have F2 := Lib.hid fn2
        have F3 := Lib.hid fn3
        have F4 := Lib.hid fn4
        clear fn1 fn2 fn3 fn4
        go_wp2
        cases C1 with
        | false =>
          have HE := Lib.hid (show T = false by rw [HT.out]; exact natRight_bad HX.out (by unfold lnOk; rw [← HC1.out]; rfl))
          refine wp_region_junk (by kernel_rfl) (by kernel_rfl) ?_; (repeat (refine wpQuiet_step (fun K hK => ?_); (go_simp; try go_bits); first | (refine hK _ ?_; clear hK K) | (apply Exists.intro; refine ⟨fun _ => ?_, hK _ ?_⟩; (first | (go_at_call 34; exact Calls.junk_of (F1.out _)) | (go_at_call 35; exact Calls.junk_of (Calls.junk_of_same (F2.out _))) | (go_at_call 36; first | with_reducible exact Calls.junk_of (F3.out _ (HP.out.on (by ((try simp only [World.junk_junk, Array.append_assoc]); (repeat (first | with_reducible exact Junk.refl _ | with_reducible exact Junk.app _ _ _ _ _ | with_reducible exact Junk.app2 _ _ _ _ _ _ | with_reducible exact Junk.app3 _ _ _ _ _ _ _ | with_reducible exact Junk.app4 _ _ _ _ _ _ _ _ | with_reducible exact Junk.app5 _ _ _ _ _ _ _ _ _ | with_reducible apply Junk.alloc | with_reducible apply Junk.junk | with_reducible apply Junk.drew | with_reducible apply Junk.drewN)))))) | with_reducible exact Calls.junk_of (F4.out _ (HP.out.on (by ((try simp only [World.junk_junk, Array.append_assoc]); (repeat (first | with_reducible exact Junk.refl _ | with_reducible exact Junk.app _ _ _ _ _ | with_reducible exact Junk.app2 _ _ _ _ _ _ | with_reducible exact Junk.app3 _ _ _ _ _ _ _ | with_reducible exact Junk.app4 _ _ _ _ _ _ _ _ | with_reducible exact Junk.app5 _ _ _ _ _ _ _ _ _ | with_reducible apply Junk.alloc | with_reducible apply Junk.junk | with_reducible apply Junk.drew | with_reducible apply Junk.drewN)))))))); clear hK K))); refine wpQuiet_nil ?_; rintro _ ⟨⟨osq, dq⟩, rfl⟩
          go_wp2
          go_ret
          exact ⟨by rw [HE.out]; rfl, by ((try simp only [World.junk_junk, Array.append_assoc]); (repeat (first | with_reducible exact Junk.refl _ | with_reducible exact Junk.app _ _ _ _ _ | with_reducible exact Junk.app2 _ _ _ _ _ _ | with_reducible exact Junk.app3 _ _ _ _ _ _ _ | with_reducible exact Junk.app4 _ _ _ _ _ _ _ _ | with_reducible exact Junk.app5 _ _ _ _ _ _ _ _ _ | with_reducible apply Junk.alloc | with_reducible apply Junk.junk | with_reducible apply Junk.drew | with_reducible apply Junk.drewN)))⟩
        | true =>
        cases C2 with
        | false =>
          have HE := Lib.hid (show T = false by rw [HT.out]; exact natRight_bad HX.out (by unfold lnOk; rw [← HC2.out]; simp))
          refine wp_region_junk (by kernel_rfl) (by kernel_rfl) ?_; (repeat (refine wpQuiet_step (fun K hK => ?_); (go_simp; try go_bits); first | (refine hK _ ?_; clear hK K) | (apply Exists.intro; refine ⟨fun _ => ?_, hK _ ?_⟩; (first | (go_at_call 34; exact Calls.junk_of (F1.out _)) | (go_at_call 35; exact Calls.junk_of (Calls.junk_of_same (F2.out _))) | (go_at_call 36; first | with_reducible exact Calls.junk_of (F3.out _ (HP.out.on (by ((try simp only [World.junk_junk, Array.append_assoc]); (repeat (first | with_reducible exact Junk.refl _ | with_reducible exact Junk.app _ _ _ _ _ | with_reducible exact Junk.app2 _ _ _ _ _ _ | with_reducible exact Junk.app3 _ _ _ _ _ _ _ | with_reducible exact Junk.app4 _ _ _ _ _ _ _ _ | with_reducible exact Junk.app5 _ _ _ _ _ _ _ _ _ | with_reducible apply Junk.alloc | with_reducible apply Junk.junk | with_reducible apply Junk.drew | with_reducible apply Junk.drewN)))))) | with_reducible exact Calls.junk_of (F4.out _ (HP.out.on (by ((try simp only [World.junk_junk, Array.append_assoc]); (repeat (first | with_reducible exact Junk.refl _ | with_reducible exact Junk.app _ _ _ _ _ | with_reducible exact Junk.app2 _ _ _ _ _ _ | with_reducible exact Junk.app3 _ _ _ _ _ _ _ | with_reducible exact Junk.app4 _ _ _ _ _ _ _ _ | with_reducible exact Junk.app5 _ _ _ _ _ _ _ _ _ | with_reducible apply Junk.alloc | with_reducible apply Junk.junk | with_reducible apply Junk.drew | with_reducible apply Junk.drewN)))))))); clear hK K))); refine wpQuiet_nil ?_; rintro _ ⟨⟨osq, dq⟩, rfl⟩
          go_wp2
          go_ret
          exact ⟨by rw [HE.out]; rfl, by ((try simp only [World.junk_junk, Array.append_assoc]); (repeat (first | with_reducible exact Junk.refl _ | with_reducible exact Junk.app _ _ _ _ _ | with_reducible exact Junk.app2 _ _ _ _ _ _ | with_reducible exact Junk.app3 _ _ _ _ _ _ _ | with_reducible exact Junk.app4 _ _ _ _ _ _ _ _ | with_reducible exact Junk.app5 _ _ _ _ _ _ _ _ _ | with_reducible apply Junk.alloc | with_reducible apply Junk.junk | with_reducible apply Junk.drew | with_reducible apply Junk.drewN)))⟩
        | true =>
        by_cases h3 : 0 ≤ i3
        · have HE := Lib.hid (show T = false by rw [HT.out]; rw [H3.out, idxI_some] at h3; exact natRight_bad HX.out (by unfold lnOk; rw [h3]; simp))
          refine wp_region_junk (by kernel_rfl) (by kernel_rfl) ?_; (repeat (refine wpQuiet_step (fun K hK => ?_); (go_simp; try go_bits); first | (refine hK _ ?_; clear hK K) | (apply Exists.intro; refine ⟨fun _ => ?_, hK _ ?_⟩; (first | (go_at_call 34; exact Calls.junk_of (F1.out _)) | (go_at_call 35; exact Calls.junk_of (Calls.junk_of_same (F2.out _))) | (go_at_call 36; first | with_reducible exact Calls.junk_of (F3.out _ (HP.out.on (by ((try simp only [World.junk_junk, Array.append_assoc]); (repeat (first | with_reducible exact Junk.refl _ | with_reducible exact Junk.app _ _ _ _ _ | with_reducible exact Junk.app2 _ _ _ _ _ _ | with_reducible exact Junk.app3 _ _ _ _ _ _ _ | with_reducible exact Junk.app4 _ _ _ _ _ _ _ _ | with_reducible exact Junk.app5 _ _ _ _ _ _ _ _ _ | with_reducible apply Junk.alloc | with_reducible apply Junk.junk | with_reducible apply Junk.drew | with_reducible apply Junk.drewN)))))) | with_reducible exact Calls.junk_of (F4.out _ (HP.out.on (by ((try simp only [World.junk_junk, Array.append_assoc]); (repeat (first | with_reducible exact Junk.refl _ | with_reducible exact Junk.app _ _ _ _ _ | with_reducible exact Junk.app2 _ _ _ _ _ _ | with_reducible exact Junk.app3 _ _ _ _ _ _ _ | with_reducible exact Junk.app4 _ _ _ _ _ _ _ _ | with_reducible exact Junk.app5 _ _ _ _ _ _ _ _ _ | with_reducible apply Junk.alloc | with_reducible apply Junk.junk | with_reducible apply Junk.drew | with_reducible apply Junk.drewN)))))))); clear hK K))); refine wpQuiet_nil ?_; rintro _ ⟨⟨osq, dq⟩, rfl⟩
          go_wp2
          go_ret
          exact ⟨by rw [HE.out]; rfl, by ((try simp only [World.junk_junk, Array.append_assoc]); (repeat (first | with_reducible exact Junk.refl _ | with_reducible exact Junk.app _ _ _ _ _ | with_reducible exact Junk.app2 _ _ _ _ _ _ | with_reducible exact Junk.app3 _ _ _ _ _ _ _ | with_reducible exact Junk.app4 _ _ _ _ _ _ _ _ | with_reducible exact Junk.app5 _ _ _ _ _ _ _ _ _ | with_reducible apply Junk.alloc | with_reducible apply Junk.junk | with_reducible apply Junk.drew | with_reducible apply Junk.drewN)))⟩
        by_cases h4 : 0 ≤ i4
        · have HE := Lib.hid (show T = false by rw [HT.out]; rw [H4.out, idxI_some] at h4; exact natRight_bad HX.out (by unfold lnOk; rw [h4]; simp))
          refine wp_region_junk (by kernel_rfl) (by kernel_rfl) ?_; (repeat (refine wpQuiet_step (fun K hK => ?_); (go_simp; try go_bits); first | (refine hK _ ?_; clear hK K) | (apply Exists.intro; refine ⟨fun _ => ?_, hK _ ?_⟩; (first | (go_at_call 34; exact Calls.junk_of (F1.out _)) | (go_at_call 35; exact Calls.junk_of (Calls.junk_of_same (F2.out _))) | (go_at_call 36; first | with_reducible exact Calls.junk_of (F3.out _ (HP.out.on (by ((try simp only [World.junk_junk, Array.append_assoc]); (repeat (first | with_reducible exact Junk.refl _ | with_reducible exact Junk.app _ _ _ _ _ | with_reducible exact Junk.app2 _ _ _ _ _ _ | with_reducible exact Junk.app3 _ _ _ _ _ _ _ | with_reducible exact Junk.app4 _ _ _ _ _ _ _ _ | with_reducible exact Junk.app5 _ _ _ _ _ _ _ _ _ | with_reducible apply Junk.alloc | with_reducible apply Junk.junk | with_reducible apply Junk.drew | with_reducible apply Junk.drewN)))))) | with_reducible exact Calls.junk_of (F4.out _ (HP.out.on (by ((try simp only [World.junk_junk, Array.append_assoc]); (repeat (first | with_reducible exact Junk.refl _ | with_reducible exact Junk.app _ _ _ _ _ | with_reducible exact Junk.app2 _ _ _ _ _ _ | with_reducible exact Junk.app3 _ _ _ _ _ _ _ | with_reducible exact Junk.app4 _ _ _ _ _ _ _ _ | with_reducible exact Junk.app5 _ _ _ _ _ _ _ _ _ | with_reducible apply Junk.alloc | with_reducible apply Junk.junk | with_reducible apply Junk.drew | with_reducible apply Junk.drewN)))))))); clear hK K))); refine wpQuiet_nil ?_; rintro _ ⟨⟨osq, dq⟩, rfl⟩
          go_wp2
          go_ret
          exact ⟨by rw [HE.out]; rfl, by ((try simp only [World.junk_junk, Array.append_assoc]); (repeat (first | with_reducible exact Junk.refl _ | with_reducible exact Junk.app _ _ _ _ _ | with_reducible exact Junk.app2 _ _ _ _ _ _ | with_reducible exact Junk.app3 _ _ _ _ _ _ _ | with_reducible exact Junk.app4 _ _ _ _ _ _ _ _ | with_reducible exact Junk.app5 _ _ _ _ _ _ _ _ _ | with_reducible apply Junk.alloc | with_reducible apply Junk.junk | with_reducible apply Junk.drew | with_reducible apply Junk.drewN)))⟩
        · have HN2 := Lib.hid (show ∀ j, j < k + 1 → ∀ y, L[j]? = some y → lnOk lo hi L j y = true from fun j hj y hy => by
            by_cases h : j = k
            · subst h
              rw [HX.out] at hy
              cases hy
              rw [H3.out, idxI_none] at h3
              rw [H4.out, idxI_none] at h4
              unfold lnOk
              rw [h3, h4, ← HC1.out, ← HC2.out]
              rfl
            · exact hN.out j (by omega) y hy)
          refine wp_region_junk (by kernel_rfl) (by kernel_rfl) ?_; (repeat (refine wpQuiet_step (fun K hK => ?_); (go_simp; try go_bits); first | (refine hK _ ?_; clear hK K) | (apply Exists.intro; refine ⟨fun _ => ?_, hK _ ?_⟩; (first | (go_at_call 34; exact Calls.junk_of (F1.out _)) | (go_at_call 35; exact Calls.junk_of (Calls.junk_of_same (F2.out _))) | (go_at_call 36; first | with_reducible exact Calls.junk_of (F3.out _ (HP.out.on (by ((try simp only [World.junk_junk, Array.append_assoc]); (repeat (first | with_reducible exact Junk.refl _ | with_reducible exact Junk.app _ _ _ _ _ | with_reducible exact Junk.app2 _ _ _ _ _ _ | with_reducible exact Junk.app3 _ _ _ _ _ _ _ | with_reducible exact Junk.app4 _ _ _ _ _ _ _ _ | with_reducible exact Junk.app5 _ _ _ _ _ _ _ _ _ | with_reducible apply Junk.alloc | with_reducible apply Junk.junk | with_reducible apply Junk.drew | with_reducible apply Junk.drewN)))))) | with_reducible exact Calls.junk_of (F4.out _ (HP.out.on (by ((try simp only [World.junk_junk, Array.append_assoc]); (repeat (first | with_reducible exact Junk.refl _ | with_reducible exact Junk.app _ _ _ _ _ | with_reducible exact Junk.app2 _ _ _ _ _ _ | with_reducible exact Junk.app3 _ _ _ _ _ _ _ | with_reducible exact Junk.app4 _ _ _ _ _ _ _ _ | with_reducible exact Junk.app5 _ _ _ _ _ _ _ _ _ | with_reducible apply Junk.alloc | with_reducible apply Junk.junk | with_reducible apply Junk.drew | with_reducible apply Junk.drewN)))))))); clear hK K))); refine wpQuiet_nil ?_; rintro _ ⟨⟨osq, dq⟩, rfl⟩
          go_wp2
          exact ⟨⟨k + 1, by go_num, by ((try simp only [World.junk_junk, Array.append_assoc]); (repeat (first | with_reducible exact Junk.refl _ | with_reducible exact Junk.app _ _ _ _ _ | with_reducible exact Junk.app2 _ _ _ _ _ _ | with_reducible exact Junk.app3 _ _ _ _ _ _ _ | with_reducible exact Junk.app4 _ _ _ _ _ _ _ _ | with_reducible exact Junk.app5 _ _ _ _ _ _ _ _ _ | with_reducible apply Junk.alloc | with_reducible apply Junk.junk | with_reducible apply Junk.drew | with_reducible apply Junk.drewN))), by omega, HN2⟩, by simp [intOf]; omega⟩
      · have hk2 : ¬ (k : Int) < (l : Int) := by omega
        obtain rfl : k = l := by omega
        have HE := Lib.hid (show T = true by rw [HT.out]; unfold natRight; rw [HR.out]; simp only [Bool.true_and, decide_eq_true_eq]; rw [HL.out]; exact hN.out)
        go_wp2
        go_ret
        exact ⟨by rw [HE.out]; rfl, by ((try simp only [World.junk_junk, Array.append_assoc]); (repeat (first | with_reducible exact Junk.refl _ | with_reducible exact Junk.app _ _ _ _ _ | with_reducible exact Junk.app2 _ _ _ _ _ _ | with_reducible exact Junk.app3 _ _ _ _ _ _ _ | with_reducible exact Junk.app4 _ _ _ _ _ _ _ _ | with_reducible exact Junk.app5 _ _ _ _ _ _ _ _ _ | with_reducible apply Junk.alloc | with_reducible apply Junk.junk | with_reducible apply Junk.drew | with_reducible apply Junk.drewN)))⟩
end Go.Proofs.Ytambpmbgfjefcaa
