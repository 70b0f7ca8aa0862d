/- Right routes, right rules. -/
import Derived.Test.YtcnhlbkdhhjmiaaGreatDoorCfN
set_option linter.unusedVariables false
set_option maxRecDepth 100000
set_option linter.unusedSimpArgs false
namespace Go.Proofs.YtcnhlbkdhhjmiaaGreatDoor
open Go.RowKit
variable {L L' : Nat → Prop} {w w' w'' : World}
/-- Propositions as answers. -/
noncomputable def propB (p : Prop) : Bool := @decide p (Classical.propDecidable p)
theorem propB_true {p : Prop} (h : p) : propB p = true := by unfold propB; exact @decide_eq_true p (Classical.propDecidable p) h
theorem propB_false {p : Prop} (h : ¬ p) : propB p = false := by unfold propB; exact @decide_eq_false p (Classical.propDecidable p) h
theorem propB_iff {p : Prop} : propB p = true ↔ p := by unfold propB; exact @decide_eq_true_iff p (Classical.propDecidable p)
theorem rcont_any (oa : Option Addr) (l c : Nat) (M : List Ro) (a : Nat) (b z m : Int) (g : Nat) (w : World) (hl : l ≤ 1000000) (hL : M.length = l) (hS : RosAt w oa M) (h0 : w.cell? ⟨g, 0, none⟩ = some (.int .u32 a)) (h1 : w.cell? ⟨g, 1, none⟩ = some (.int .i64 b)) :
    Calls Tryz.prog 43 #[.slice oa l c, .func (.func 44) #[] #[.pointer (some ⟨g, 0, none⟩)]] w fun e w' => e = .returned (.bool (M.any fun y => rtSame y ⟨a, b, z, m⟩)) ∧ Junk w w' := by
  refine ro_contains oa l c M _ _ w hl hL hS (fun w1 hj x _ => ?_)
  have t : Tch (fun _ => False) w w1 := Tch.of_junk hj
  obtain ⟨xa, xb, xz, xm⟩ := x
  exact rsame_any13 xa xb xz xm a b z m g w1 (t.cell h0 (fun e => e)) (t.cell h1 (fun e => e))
set_option maxHeartbeats 4000000 in
theorem rright_any13 (oa : Option Addr) (l c : Nat) (M : List Ro) (w : World) (hl : l ≤ 1000000) (hL : M.length = l) (hc : l ≤ c) (hS : RosAt w oa M) :
    Calls Tryz.prog 24 #[.slice oa l c] w fun e w' => e = .returned (.bool (propB (rtsP M))) ∧ Junk w w' := by
  obtain ⟨V, hV⟩ : ∃ V, propB (rtsP M) = V := ⟨_, rfl⟩
  rw [hV]
  have HV := Lib.hid hV
  clear hV
  have HS := Lib.hid hS
  have HL := Lib.hid hL
  have hmf : ∀ (fn : Fn) (first cap : Array Value) (w : World), (Instr.makeFunc fn first cap).run Tryz.prog w = .ok (.func fn first cap) w := fun _ _ _ _ => rfl
  clear hS hL
  by_cases h64 : l ≤ 64
  case neg =>
    have h64i : (64 : Int) < (l : Int) := by omega
    go_enter Tryz.func24, Tryz.ntmps24
    go_wp2
    go_ret
    have he : V = false := by rw [← HV.out]; exact propB_false (fun h => by have := h.1; rw [HL.out] at this; exact h64 this)
    exact ⟨by rw [he] <;> rfl, by (exact jkc)⟩
  have h64i : ¬ (64 : Int) < (l : Int) := by omega
  go_enter Tryz.func24, Tryz.ntmps24
  go_wp2
  go_loopw [3, 4, 10] (fun v3 v4 v10 wr => ∃ i : Nat, v10 = .int .i64 (i : Int) ∧ Junk w wr ∧ i ≤ l ∧ Hid (∀ j, j < i → ∀ r, M[j]? = some r → rtMay r = true ∧ ∀ k x, k < j → M[k]? = some x → rtSame x r = false)) (fun _ _ v _ => l + 1 - (intOf v).toNat)
  case atStart => exact ⟨0, rfl, by (exact jkc), by omega, Lib.hid (fun j hj => by omega)⟩
  case round =>
    obtain ⟨i, rfl, ⟨os, d, rfl⟩, hi, hN⟩ := hrel
    by_cases hil : i < l
    case neg =>
      have hi2 : ¬ (i : Int) < (l : Int) := by omega
      obtain rfl : i = l := by omega
      go_wp2
      go_ret
      have he : V = true := by rw [← HV.out]; exact propB_true ⟨by rw [HL.out]; exact h64, fun j r hj => hN.out j (by rw [← HL.out]; exact (List.getElem?_eq_some_iff.1 hj).1) r hj⟩
      exact ⟨by rw [he] <;> rfl, by (exact jkc)⟩
    have hi2 : (i : Int) < (l : Int) := by omega
    have hic : (i : Int) ≤ (c : Int) := by omega
    obtain ⟨r, hr⟩ : ∃ r, M[i]? = some r := ⟨_, List.getElem?_eq_getElem (by rw [HL.out]; exact hil)⟩
    obtain ⟨b, off, rfl, hb, c0, c1, c2, c3⟩ := HS.out i r hr
    have HR := Lib.hid hr
    clear hr
    obtain ⟨xa, xb, xz, xm⟩ := r
    dsimp only at c0 c1 c2 c3
    have HT := Lib.hid (show (M.take i).length = i by rw [List.length_take, HL.out]; omega)
    cases hm : rtMay ⟨xa, xb, xz, xm⟩ with
    | false =>
      have HM := Lib.hid hm
      go_wp2_with (go_at_call 42; (refine (rmay_any13 _ _ _ _ _).mono ?_; rintro e w1 ⟨rfl, ⟨os1, d1, rfl⟩⟩); rw [HM.out])
      go_ret
      have he : V = false := by rw [← HV.out]; exact propB_false (fun h => by have := (h.2 i _ HR.out).1; rw [HM.out] at this; cases this)
      exact ⟨by rw [he] <;> rfl, by (exact jkc)⟩
    | true =>
      have HM := Lib.hid hm
      cases ha : (M.take i).any (fun y => rtSame y ⟨xa, xb, xz, xm⟩) with
      | true =>
        have HA := Lib.hid ha
        go_wp2_with (first
          | (go_at_call 42; (refine (rmay_any13 _ _ _ _ _).mono ?_; rintro e w1 ⟨rfl, ⟨os1, d1, rfl⟩⟩); rw [HM.out])
          | (go_at_call 43; (refine (rcont_any _ i c (M.take i) xa xb xz xm _ _ (by omega) HT.out ((HS.out.on (by (exact jkc))).take i) (by simp [go_sem]) (by simp [go_sem])).mono ?_; rintro e w2 ⟨rfl, ⟨os2, d2, rfl⟩⟩); rw [HA.out]))
        go_ret
        have he : V = false := by
          rw [← HV.out]
          refine propB_false (fun h => ?_)
          obtain ⟨y, hy, hy2⟩ := List.any_eq_true.1 HA.out
          obtain ⟨k, hk⟩ := List.mem_iff_getElem?.1 hy
          have hki : k < i := by have := (List.getElem?_eq_some_iff.1 hk).1; rw [HT.out] at this; exact this
          rw [List.getElem?_take_of_lt hki] at hk
          have := (h.2 i _ HR.out).2 k y hki hk
          rw [this] at hy2
          cases hy2
        exact ⟨by rw [he] <;> rfl, by (exact jkc)⟩
      | false =>
        have HA := Lib.hid ha
        have HN2 := Lib.hid (show ∀ j, j < i + 1 → ∀ r, M[j]? = some r → rtMay r = true ∧ ∀ k x, k < j → M[k]? = some x → rtSame x r = false from fun j hj r hr => by
          by_cases h : j = i
          · subst h
            rw [HR.out] at hr
            cases hr
            refine ⟨HM.out, fun k x hk hx => ?_⟩
            have := List.any_eq_false.1 HA.out x (List.mem_of_getElem? (i := k) (by rw [List.getElem?_take_of_lt hk]; exact hx))
            simpa using this
          · exact hN.out j (by omega) r hr)
        go_wp2_with (first
          | (go_at_call 42; (refine (rmay_any13 _ _ _ _ _).mono ?_; rintro e w1 ⟨rfl, ⟨os1, d1, rfl⟩⟩); rw [HM.out])
          | (go_at_call 43; (refine (rcont_any _ i c (M.take i) xa xb xz xm _ _ (by omega) HT.out ((HS.out.on (by (exact jkc))).take i) (by simp [go_sem]) (by simp [go_sem])).mono ?_; rintro e w2 ⟨rfl, ⟨os2, d2, rfl⟩⟩); rw [HA.out]))
        exact ⟨⟨i + 1, by go_num, by (exact jkc), by omega, HN2⟩, by simp [intOf]; omega⟩
set_option maxHeartbeats 2000000 in
theorem uright_any14 (oa : Option Addr) (l c : Nat) (M : List Ru) (w : World) (hl : l ≤ 1000000) (hL : M.length = l) (hS : RusAt w oa M) :
    Calls Tryz.prog 25 #[.slice oa l c] w fun e w' => e = .returned (.bool (propB (rusP M))) ∧ Junk w w' := by
  obtain ⟨V, hV⟩ : ∃ V, propB (rusP M) = V := ⟨_, rfl⟩
  rw [hV]
  have HV := Lib.hid hV
  clear hV
  have HC := Lib.hid (fun w1 (hj : Junk w w1) => ru_contains oa l c M (fun r => !ruMay r) w1 hl hL (hS.on hj) (fun w2 _ x _ => unot_any14 x w2))
  have HL := Lib.hid hL
  clear hS hL
  by_cases h64 : l ≤ 64
  case neg =>
    have h64i : ¬ (l : Int) ≤ 64 := by omega
    go_enter Tryz.func25, Tryz.ntmps25
    go_wp2
    go_ret
    have he : V = false := by rw [← HV.out]; exact propB_false (fun h => by have := h.1; rw [HL.out] at this; exact h64 this)
    exact ⟨by rw [he] <;> rfl, by (exact jkc)⟩
  have h64i : (l : Int) ≤ 64 := by omega
  go_enter Tryz.func25, Tryz.ntmps25
  go_wp2_with (go_at_call 45; (refine (HC.out _ (by (exact jkc))).mono ?_; rintro e w2 ⟨rfl, ⟨os2, d2, rfl⟩⟩))
  go_ret
  have he : V = !(M.any fun r => !ruMay r) := by
    rw [← HV.out, Bool.eq_iff_iff, propB_iff, Bool.not_eq_true', List.any_eq_false]
    constructor
    · intro h r hr
      rw [h.2 r hr]
      decide
    · intro h
      exact ⟨by rw [HL.out]; exact h64, fun r hr => by simpa using h r hr⟩
  exact ⟨by rw [he] <;> rfl, by (exact jkc)⟩
end Go.Proofs.YtcnhlbkdhhjmiaaGreatDoor
