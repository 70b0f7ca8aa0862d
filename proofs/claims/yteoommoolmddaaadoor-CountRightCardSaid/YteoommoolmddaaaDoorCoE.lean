/- slices.BinarySearchFunc over tallies. -/
import Derived.Test.YteoommoolmddaaaDoorCoC
set_option linter.unusedVariables false
set_option maxRecDepth 100000
set_option linter.unusedSimpArgs false
namespace Go.Proofs.YteoommoolmddaaaDoor
open Go.RowKit
def foundB (L : List Tl) (t : Tl) (k : Nat) : Bool := match L[k]? with
  | some x => decide (ordI x t = 0)
  | none => false
def LowL (L : List Tl) (t : Tl) (i : Nat) : Prop := ∀ m, m < i → ∀ x, L[m]? = some x → tlLess x t = true
def HighL (L : List Tl) (t : Tl) (j : Nat) : Prop := ∀ m, j ≤ m → ∀ x, L[m]? = some x → tlLess x t = false
theorem low_to {L : List Tl} {t x : Tl} {h : Nat} (hs : TlSorted L) (hx : L[h]? = some x) (hl : tlLess x t = true) : LowL L t (h + 1) := fun m hm y hy => by
  by_cases e : m = h
  · subst e; rw [hx] at hy; cases hy; exact hl
  · exact tlLess_trans (hs m h y x (by omega) hy hx) hl
theorem high_to {L : List Tl} {t x : Tl} {h : Nat} (hs : TlSorted L) (hx : L[h]? = some x) (hl : tlLess x t = false) : HighL L t h := fun m hm y hy => by
  by_cases e : m = h
  · subst e; rw [hx] at hy; cases hy; exact hl
  · cases hc : tlLess y t with
    | false => rfl
    | true => have := tlLess_trans (hs h m x y (by omega) hx hy) hc; rw [hl] at this; cases this
set_option maxHeartbeats 4000000 in
theorem bsearch_any (oa : Option Addr) (l c : Nat) (L : List Tl) (t : Tl) (w : World) (hl : l ≤ 1000000) (hS : TsB w oa l c L) (hs : TlSorted L) :
    Calls Tryd.prog 29 #[.slice oa l c, t.val, .func (.func 24) #[] #[]] w fun e w' => ∃ k : Nat, e = .returned (.tuple #[.int .i64 k, .bool (foundB L t k)]) ∧ Junk w w' ∧ TlPos L t k := by
  have HS := Lib.hid hS
  have HL := Lib.hid hS.len
  have HSO := Lib.hid hs
  clear hS hs
  obtain ⟨tz, tv, tn, tb⟩ := t
  go_enter Tryd.func29, Tryd.ntmps29
  go_wp2
  go_loopw [9, 10] (fun i j wr => ∃ a b : Nat, i = .int .i64 (a : Int) ∧ j = .int .i64 (b : Int) ∧ Junk (w.alloc (.cells #[.int .i64 tz, .int .i64 tv, .int .i64 tn, .int .i64 tb] 28)) wr ∧ a ≤ b ∧ b ≤ l ∧ Hid (LowL L ⟨tz, tv, tn, tb⟩ a) ∧ Hid (HighL L ⟨tz, tv, tn, tb⟩ b)) (fun i j _ => (intOf j).toNat - (intOf i).toNat)
  case atStart => exact ⟨0, l, rfl, rfl, by (first | ((repeat (first | with_reducible exact Junk.refl _ | with_reducible exact Junk.app _ _ _ _ _ | with_reducible apply Junk.alloc | with_reducible apply Junk.junk | with_reducible apply Junk.drew | with_reducible apply Junk.drewN)); done) | ((try simp only [World.junk_junk, Array.append_assoc]); (repeat (first | with_reducible exact Junk.refl _ | with_reducible exact Junk.app _ _ _ _ _ | with_reducible exact Junk.app2 _ _ _ _ _ _ | with_reducible exact Junk.app3 _ _ _ _ _ _ _ | with_reducible exact Junk.app4 _ _ _ _ _ _ _ _ | with_reducible exact Junk.app5 _ _ _ _ _ _ _ _ _ | with_reducible apply Junk.alloc | with_reducible apply Junk.junk | with_reducible apply Junk.drew | with_reducible apply Junk.drewN)))), by omega, by omega, Lib.hid (fun m hm => by omega), Lib.hid (fun m hm x hx => by have := (List.getElem?_eq_some_iff.1 hx).1; rw [HL.out] at this; omega)⟩
  case round =>
    obtain ⟨a, b, rfl, rfl, ⟨os, d, rfl⟩, hab, hbl, hA, hB⟩ := hrel
    by_cases hlt : a < b
    · have h1 : (a : Int) < (b : Int) := by omega
      obtain ⟨H, hH⟩ : ∃ H, H = (a + b) / 2 := ⟨_, rfl⟩
      have e1 : ((a : Int) + (b : Int)) / 2 = (H : Int) := by omega
      have e2 : H < l := by omega
      have e3 : (H : Int) < (l : Int) := by omega
      have e4 : a ≤ H ∧ H < b := by omega
      clear hH
      obtain ⟨x, hx⟩ : ∃ x, L[H]? = some x := ⟨_, List.getElem?_eq_getElem (by rw [HL.out]; exact e2)⟩
      obtain ⟨bb, off, hob, _, z0, z1, z2, z3⟩ := HS.out.at_ H x hx
      subst hob
      have hbb := ‹_›
      have HX := Lib.hid hx
      obtain ⟨R, hR⟩ : ∃ R, ordI x ⟨tz, tv, tn, tb⟩ = R := ⟨_, rfl⟩
      have HR := Lib.hid hR
      have HO := Lib.hid (fun w1 => show Calls Tryd.prog 24 #[x.val, .agg #[.int .i64 tz, .int .i64 tv, .int .i64 tn, .int .i64 tb]] w1 fun e w' => e = .returned (.int .i64 R) ∧ Junk w1 w' by rw [← HR.out]; exact order_any x ⟨tz, tv, tn, tb⟩ w1)
      clear hx hR
      by_cases q : R < 0
      · have HA2 := Lib.hid (low_to HSO.out HX.out ((ordI_neg _ _).1 (by rw [HR.out]; exact q)))
        go_wp2
        refine wp_region_junk (by kernel_rfl) (by kernel_rfl) ?_; (repeat (go_big_quiet_step (first | (go_at_call 24; first | with_reducible exact Calls.junk_of5 (HO.out _) | with_reducible exact Calls.junk_of4 (HO.out _) | with_reducible exact Calls.junk_of3 (HO.out _) | with_reducible exact Calls.junk_of2 (HO.out _) | with_reducible exact Calls.junk_of (HO.out _))))); refine wpQuiet_nil ?_; rintro _ ⟨⟨osq, dq⟩, rfl⟩
        go_wp2
        exact ⟨⟨H + 1, b, by go_num, rfl, by (first | ((repeat (first | with_reducible exact Junk.refl _ | with_reducible exact Junk.app _ _ _ _ _ | with_reducible apply Junk.alloc | with_reducible apply Junk.junk | with_reducible apply Junk.drew | with_reducible apply Junk.drewN)); done) | ((try simp only [World.junk_junk, Array.append_assoc]); (repeat (first | with_reducible exact Junk.refl _ | with_reducible exact Junk.app _ _ _ _ _ | with_reducible exact Junk.app2 _ _ _ _ _ _ | with_reducible exact Junk.app3 _ _ _ _ _ _ _ | with_reducible exact Junk.app4 _ _ _ _ _ _ _ _ | with_reducible exact Junk.app5 _ _ _ _ _ _ _ _ _ | with_reducible apply Junk.alloc | with_reducible apply Junk.junk | with_reducible apply Junk.drew | with_reducible apply Junk.drewN)))), by omega, by omega, HA2, hB⟩, by simp [intOf]; omega⟩
      · have HB2 := Lib.hid (high_to HSO.out HX.out (by
          cases hc : tlLess x ⟨tz, tv, tn, tb⟩ with
          | false => rfl
          | true => have := (ordI_neg _ _).2 hc; rw [HR.out] at this; omega))
        go_wp2
        refine wp_region_junk (by kernel_rfl) (by kernel_rfl) ?_; (repeat (go_big_quiet_step (first | (go_at_call 24; first | with_reducible exact Calls.junk_of5 (HO.out _) | with_reducible exact Calls.junk_of4 (HO.out _) | with_reducible exact Calls.junk_of3 (HO.out _) | with_reducible exact Calls.junk_of2 (HO.out _) | with_reducible exact Calls.junk_of (HO.out _))))); refine wpQuiet_nil ?_; rintro _ ⟨⟨osq, dq⟩, rfl⟩
        go_wp2
        exact ⟨⟨a, H, rfl, by go_num, by (first | ((repeat (first | with_reducible exact Junk.refl _ | with_reducible exact Junk.app _ _ _ _ _ | with_reducible apply Junk.alloc | with_reducible apply Junk.junk | with_reducible apply Junk.drew | with_reducible apply Junk.drewN)); done) | ((try simp only [World.junk_junk, Array.append_assoc]); (repeat (first | with_reducible exact Junk.refl _ | with_reducible exact Junk.app _ _ _ _ _ | with_reducible exact Junk.app2 _ _ _ _ _ _ | with_reducible exact Junk.app3 _ _ _ _ _ _ _ | with_reducible exact Junk.app4 _ _ _ _ _ _ _ _ | with_reducible exact Junk.app5 _ _ _ _ _ _ _ _ _ | with_reducible apply Junk.alloc | with_reducible apply Junk.junk | with_reducible apply Junk.drew | with_reducible apply Junk.drewN)))), by omega, by omega, hA, HB2⟩, by simp [intOf]; omega⟩
    · obtain rfl : a = b := by omega
      have h1 : ¬ (a : Int) < (a : Int) := by omega
      have HP := Lib.hid (show TlPos L ⟨tz, tv, tn, tb⟩ a from ⟨by rw [HL.out]; exact hbl, hA.out, hB.out⟩)
      by_cases hal : a < l
      · have h2 : (a : Int) < (l : Int) := by omega
        obtain ⟨x, hx⟩ : ∃ x, L[a]? = some x := ⟨_, List.getElem?_eq_getElem (by rw [HL.out]; exact hal)⟩
        obtain ⟨bb, off, hob, _, z0, z1, z2, z3⟩ := HS.out.at_ a x hx
        subst hob
        have hbb := ‹_›
        have HF : foundB L ⟨tz, tv, tn, tb⟩ a = decide (ordI x ⟨tz, tv, tn, tb⟩ = 0) := by unfold foundB; rw [hx]
        obtain ⟨R, hR⟩ : ∃ R, ordI x ⟨tz, tv, tn, tb⟩ = R := ⟨_, rfl⟩
        rw [hR] at HF
        have HO := Lib.hid (fun w1 => show Calls Tryd.prog 24 #[x.val, .agg #[.int .i64 tz, .int .i64 tv, .int .i64 tn, .int .i64 tb]] w1 fun e w' => e = .returned (.int .i64 R) ∧ Junk w1 w' by rw [← hR]; exact order_any x ⟨tz, tv, tn, tb⟩ w1)
        have HF := Lib.hid HF
        clear hx hR
        cases q : (R == 0) with
        | true =>
          have HF2 := Lib.hid (show foundB L ⟨tz, tv, tn, tb⟩ a = true by rw [HF.out]; simpa using q)
          go_wp2
          refine wp_region_junk (by kernel_rfl) (by kernel_rfl) ?_; (repeat (go_big_quiet_step (first | (go_at_call 24; first | with_reducible exact Calls.junk_of5 (HO.out _) | with_reducible exact Calls.junk_of4 (HO.out _) | with_reducible exact Calls.junk_of3 (HO.out _) | with_reducible exact Calls.junk_of2 (HO.out _) | with_reducible exact Calls.junk_of (HO.out _))))); refine wpQuiet_nil ?_; rintro _ ⟨⟨osq, dq⟩, rfl⟩
          go_wp2
          go_returns
          exact ⟨a, by rw [HF2.out]; rfl, by (first | ((repeat (first | with_reducible exact Junk.refl _ | with_reducible exact Junk.app _ _ _ _ _ | with_reducible apply Junk.alloc | with_reducible apply Junk.junk | with_reducible apply Junk.drew | with_reducible apply Junk.drewN)); done) | ((try simp only [World.junk_junk, Array.append_assoc]); (repeat (first | with_reducible exact Junk.refl _ | with_reducible exact Junk.app _ _ _ _ _ | with_reducible exact Junk.app2 _ _ _ _ _ _ | with_reducible exact Junk.app3 _ _ _ _ _ _ _ | with_reducible exact Junk.app4 _ _ _ _ _ _ _ _ | with_reducible exact Junk.app5 _ _ _ _ _ _ _ _ _ | with_reducible apply Junk.alloc | with_reducible apply Junk.junk | with_reducible apply Junk.drew | with_reducible apply Junk.drewN)))), HP.out⟩
        | false =>
          have HF2 := Lib.hid (show foundB L ⟨tz, tv, tn, tb⟩ a = false by rw [HF.out]; simpa using q)
          go_wp2
          refine wp_region_junk (by kernel_rfl) (by kernel_rfl) ?_; (repeat (go_big_quiet_step (first | (go_at_call 24; first | with_reducible exact Calls.junk_of5 (HO.out _) | with_reducible exact Calls.junk_of4 (HO.out _) | with_reducible exact Calls.junk_of3 (HO.out _) | with_reducible exact Calls.junk_of2 (HO.out _) | with_reducible exact Calls.junk_of (HO.out _))))); refine wpQuiet_nil ?_; rintro _ ⟨⟨osq, dq⟩, rfl⟩
          go_wp2
          go_returns
          exact ⟨a, by rw [HF2.out]; rfl, by (first | ((repeat (first | with_reducible exact Junk.refl _ | with_reducible exact Junk.app _ _ _ _ _ | with_reducible apply Junk.alloc | with_reducible apply Junk.junk | with_reducible apply Junk.drew | with_reducible apply Junk.drewN)); done) | ((try simp only [World.junk_junk, Array.append_assoc]); (repeat (first | with_reducible exact Junk.refl _ | with_reducible exact Junk.app _ _ _ _ _ | with_reducible exact Junk.app2 _ _ _ _ _ _ | with_reducible exact Junk.app3 _ _ _ _ _ _ _ | with_reducible exact Junk.app4 _ _ _ _ _ _ _ _ | with_reducible exact Junk.app5 _ _ _ _ _ _ _ _ _ | with_reducible apply Junk.alloc | with_reducible apply Junk.junk | with_reducible apply Junk.drew | with_reducible apply Junk.drewN)))), HP.out⟩
      · have h2 : ¬ (a : Int) < (l : Int) := by omega
        have HF2 := Lib.hid (show foundB L ⟨tz, tv, tn, tb⟩ a = false by unfold foundB; rw [List.getElem?_eq_none (by rw [HL.out]; omega)])
        go_wp2
        refine wp_region_junk (by kernel_rfl) (by kernel_rfl) ?_; (repeat (go_big_quiet_step (first | fail))); refine wpQuiet_nil ?_; rintro _ ⟨⟨osq, dq⟩, rfl⟩
        go_wp2
        go_returns
        exact ⟨a, by rw [HF2.out]; rfl, by (first | ((repeat (first | with_reducible exact Junk.refl _ | with_reducible exact Junk.app _ _ _ _ _ | with_reducible apply Junk.alloc | with_reducible apply Junk.junk | with_reducible apply Junk.drew | with_reducible apply Junk.drewN)); done) | ((try simp only [World.junk_junk, Array.append_assoc]); (repeat (first | with_reducible exact Junk.refl _ | with_reducible exact Junk.app _ _ _ _ _ | with_reducible exact Junk.app2 _ _ _ _ _ _ | with_reducible exact Junk.app3 _ _ _ _ _ _ _ | with_reducible exact Junk.app4 _ _ _ _ _ _ _ _ | with_reducible exact Junk.app5 _ _ _ _ _ _ _ _ _ | with_reducible apply Junk.alloc | with_reducible apply Junk.junk | with_reducible apply Junk.drew | with_reducible apply Junk.drewN)))), HP.out⟩
end Go.Proofs.YteoommoolmddaaaDoor
