/- nat.find: slices.IndexFunc with a closure. -/
import Derived.Test.YtambpmbgfjefcaaNatA
set_option linter.unusedVariables false
set_option maxRecDepth 100000
set_option linter.unusedSimpArgs false
namespace Go.Proofs.Ytambpmbgfjefcaa
open Go.RowKit
/-- What the closure of find holds. -/
structure FindCap (w : World) (g1 g2 : Nat) (F : Nat) (x : Ln) : Prop where
  l1 : g1 < w.heap.size
  l2 : g2 < w.heap.size
  c1 : w.cell? ⟨g1, 0, none⟩ = some (.func (.func F) #[] #[])
  x0 : w.cell? ⟨g2, 0, none⟩ = some (.int .i64 x.proto)
  x1 : w.cell? ⟨g2, 1, none⟩ = some (.int .u32 x.inn)
  x2 : w.cell? ⟨g2, 2, none⟩ = some (.int .i64 x.inport)
  x3 : w.cell? ⟨g2, 3, none⟩ = some (.int .i64 x.port)
  x4 : w.cell? ⟨g2, 4, none⟩ = some (.int .i64 x.till)
theorem FindCap.on {w w' : World} {g1 g2 F : Nat} {x : Ln} (h : FindCap w g1 g2 F x) (hj : Junk w w') : FindCap w' g1 g2 F x := by
  have hb := hj.below (Nat.le_refl _)
  have k1 : ∀ i v, w.cell? ⟨g1, i, none⟩ = some v → w'.cell? ⟨g1, i, none⟩ = some v := fun i v hv => (hb.cell (p := ⟨g1, _, none⟩) h.l1).trans hv
  have k2 : ∀ i v, w.cell? ⟨g2, i, none⟩ = some v → w'.cell? ⟨g2, i, none⟩ = some v := fun i v hv => (hb.cell (p := ⟨g2, _, none⟩) h.l2).trans hv
  exact ⟨Nat.lt_of_lt_of_le h.l1 hb.size, Nat.lt_of_lt_of_le h.l2 hb.size, k1 _ _ h.c1, k2 _ _ h.x0, k2 _ _ h.x1, k2 _ _ h.x2, k2 _ _ h.x3, k2 _ _ h.x4⟩
theorem find1_outer (x y : Ln) (g1 g2 : Nat) (w : World) (h : FindCap w g1 g2 37 x) :
    Calls Try.prog 46 #[y.val, .pointer (some ⟨g1, 0, none⟩), .pointer (some ⟨g2, 0, none⟩)] w fun e w' => e = .returned (.bool (outerB x y)) ∧ Junk w w' := by
  obtain ⟨l1, l2, c1, x0, x1, x2, x3, x4⟩ := h
  go_enter Try.func46, Try.ntmps46
  go_wp2_with (first | (go_at_call 37; refine (outer_any x y _).mono ?_; rintro e w' ⟨rfl, ⟨osj, dj, rfl⟩⟩))
  go_ret
  exact ⟨rfl, by (repeat (first | with_reducible exact Junk.refl _ | with_reducible exact Junk.app _ _ _ _ _ | with_reducible apply Junk.alloc | with_reducible apply Junk.junk | with_reducible apply Junk.drew | with_reducible apply Junk.drewN))⟩
theorem find1_inner (x y : Ln) (g1 g2 : Nat) (w : World) (h : FindCap w g1 g2 38 x) :
    Calls Try.prog 46 #[y.val, .pointer (some ⟨g1, 0, none⟩), .pointer (some ⟨g2, 0, none⟩)] w fun e w' => e = .returned (.bool (innerB x y)) ∧ Junk w w' := by
  obtain ⟨l1, l2, c1, x0, x1, x2, x3, x4⟩ := h
  go_enter Try.func46, Try.ntmps46
  go_wp2_with (first | (go_at_call 38; refine (inner_any x y _).mono ?_; rintro e w' ⟨rfl, ⟨osj, dj, rfl⟩⟩))
  go_ret
  exact ⟨rfl, by (repeat (first | with_reducible exact Junk.refl _ | with_reducible exact Junk.app _ _ _ _ _ | with_reducible apply Junk.alloc | with_reducible apply Junk.junk | with_reducible apply Junk.drew | with_reducible apply Junk.drewN))⟩
def idxI : Option Nat → Int
  | some i => (i : Int)
  | none => -1
theorem findIdx_at {α : Type} {L : List α} {pr : α → Bool} {k : Nat} {x : α} (h : ∀ j, j < k → ∀ y, L[j]? = some y → pr y = false) (hx : L[k]? = some x) (hp : pr x = true) : L.findIdx? pr = some k := by
  have hk : k < L.length := (List.getElem?_eq_some_iff.1 hx).1
  rw [List.findIdx?_eq_some_iff_getElem]
  refine ⟨hk, ?_, fun j hj => ?_⟩
  · rw [List.getElem?_eq_getElem hk] at hx
    cases hx
    exact hp
  · have := h j hj _ (List.getElem?_eq_getElem (by omega))
    simp [this]
theorem findIdx_no {α : Type} {L : List α} {pr : α → Bool} (h : ∀ j, j < L.length → ∀ y, L[j]? = some y → pr y = false) : L.findIdx? pr = none := by
  rw [List.findIdx?_eq_none_iff]
  intro x hx
  obtain ⟨j, hj, rfl⟩ := List.getElem_of_mem hx
  exact h j hj _ (List.getElem?_eq_getElem hj)
theorem indexF_any (oa : Option Addr) (l c : Nat) (L : List Ln) (pr : Ln → Bool) (v1 v2 : Value) (w : World) (hl : l ≤ 1000000) (hL : L.length = l) (hS : LsAt w oa L)
    (hf : ∀ w1, Junk w w1 → ∀ x, Calls Try.prog 46 #[x.val, v1, v2] w1 fun e w' => e = .returned (.bool (pr x)) ∧ Junk w1 w') :
    Calls Try.prog 45 #[.slice oa l c, .func (.func 46) #[] #[v1, v2]] w fun e w' => e = .returned (.int .i64 (idxI (L.findIdx? pr))) ∧ Junk w w' := by
  have HS := Lib.hid hS
  have HF := Lib.hid hf
  clear hS hf
  obtain ⟨T, hT⟩ : ∃ T, T = idxI (L.findIdx? pr) := ⟨_, rfl⟩
  rw [← hT]
  have HT := Lib.hid hT
  have HL := Lib.hid hL
  clear hT hL
  go_enter Try.func45, Try.ntmps45
  go_wp2
  go_loopw [8] (fun i wr => ∃ k : Nat, i = .int .i64 (k : Int) ∧ Junk w wr ∧ k ≤ l ∧ Hid (∀ j, j < k → ∀ y, L[j]? = some y → pr y = false)) (fun i _ => l + 1 - (intOf i).toNat)
  case atStart => exact ⟨0, rfl, by ((try simp only [World.junk_junk, Array.append_assoc]); (repeat (first | with_reducible exact Junk.refl _ | with_reducible exact Junk.app _ _ _ _ _ | with_reducible exact Junk.app2 _ _ _ _ _ _ | with_reducible exact Junk.app3 _ _ _ _ _ _ _ | with_reducible exact Junk.app4 _ _ _ _ _ _ _ _ | with_reducible exact Junk.app5 _ _ _ _ _ _ _ _ _ | with_reducible apply Junk.alloc | with_reducible apply Junk.junk | with_reducible apply Junk.drew | with_reducible apply Junk.drewN))), by omega, Lib.hid (fun j hj => by omega)⟩
  case round =>
    obtain ⟨k, rfl, ⟨os, d, rfl⟩, hk, hN⟩ := hrel
    by_cases hkl : k < l
    · have hk2 : (k : Int) < (l : Int) := by omega
      obtain ⟨x, hx⟩ : ∃ x, L[k]? = some x := ⟨_, List.getElem?_eq_getElem (by rw [HL.out]; exact hkl)⟩
      obtain ⟨b, off, rfl, hb, c0, c1, c2, c3, c4⟩ := HS.out k x hx
      have HX := Lib.hid hx
      clear hx
      cases hp : pr x with
      | true =>
        have HE := Lib.hid (show T = (k : Int) by rw [HT.out, findIdx_at hN.out HX.out hp]; rfl)
        go_wp2_with (first | (go_at_call 46; refine (HF.out _ (by ((try simp only [World.junk_junk, Array.append_assoc]); (repeat (first | with_reducible exact Junk.refl _ | with_reducible exact Junk.app _ _ _ _ _ | with_reducible exact Junk.app2 _ _ _ _ _ _ | with_reducible exact Junk.app3 _ _ _ _ _ _ _ | with_reducible exact Junk.app4 _ _ _ _ _ _ _ _ | with_reducible exact Junk.app5 _ _ _ _ _ _ _ _ _ | with_reducible apply Junk.alloc | with_reducible apply Junk.junk | with_reducible apply Junk.drew | with_reducible apply Junk.drewN)))) x).mono ?_; rintro e w' ⟨rfl, ⟨osj, dj, rfl⟩⟩; rw [hp]))
        go_ret
        exact ⟨by rw [HE.out]; rfl, by ((try simp only [World.junk_junk, Array.append_assoc]); (repeat (first | with_reducible exact Junk.refl _ | with_reducible exact Junk.app _ _ _ _ _ | with_reducible exact Junk.app2 _ _ _ _ _ _ | with_reducible exact Junk.app3 _ _ _ _ _ _ _ | with_reducible exact Junk.app4 _ _ _ _ _ _ _ _ | with_reducible exact Junk.app5 _ _ _ _ _ _ _ _ _ | with_reducible apply Junk.alloc | with_reducible apply Junk.junk | with_reducible apply Junk.drew | with_reducible apply Junk.drewN)))⟩
      | false =>
        have HN2 := Lib.hid (show ∀ j, j < k + 1 → ∀ y, L[j]? = some y → pr y = false from fun j hj y hy => by
          by_cases h : j = k
          · subst h; rw [HX.out] at hy; cases hy; exact hp
          · exact hN.out j (by omega) y hy)
        go_wp2_with (first | (go_at_call 46; refine (HF.out _ (by ((try simp only [World.junk_junk, Array.append_assoc]); (repeat (first | with_reducible exact Junk.refl _ | with_reducible exact Junk.app _ _ _ _ _ | with_reducible exact Junk.app2 _ _ _ _ _ _ | with_reducible exact Junk.app3 _ _ _ _ _ _ _ | with_reducible exact Junk.app4 _ _ _ _ _ _ _ _ | with_reducible exact Junk.app5 _ _ _ _ _ _ _ _ _ | with_reducible apply Junk.alloc | with_reducible apply Junk.junk | with_reducible apply Junk.drew | with_reducible apply Junk.drewN)))) x).mono ?_; rintro e w' ⟨rfl, ⟨osj, dj, rfl⟩⟩; rw [hp]))
        exact ⟨⟨k + 1, by go_num, by ((try simp only [World.junk_junk, Array.append_assoc]); (repeat (first | with_reducible exact Junk.refl _ | with_reducible exact Junk.app _ _ _ _ _ | with_reducible exact Junk.app2 _ _ _ _ _ _ | with_reducible exact Junk.app3 _ _ _ _ _ _ _ | with_reducible exact Junk.app4 _ _ _ _ _ _ _ _ | with_reducible exact Junk.app5 _ _ _ _ _ _ _ _ _ | with_reducible apply Junk.alloc | with_reducible apply Junk.junk | with_reducible apply Junk.drew | with_reducible apply Junk.drewN))), by omega, HN2⟩, by simp [intOf]; omega⟩
    · have hk2 : ¬ (k : Int) < (l : Int) := by omega
      obtain rfl : k = l := by omega
      have HE := Lib.hid (show T = -1 by rw [HT.out, findIdx_no (by rw [HL.out]; exact hN.out)]; rfl)
      go_wp2
      go_ret
      exact ⟨by rw [HE.out]; rfl, by ((try simp only [World.junk_junk, Array.append_assoc]); (repeat (first | with_reducible exact Junk.refl _ | with_reducible exact Junk.app _ _ _ _ _ | with_reducible exact Junk.app2 _ _ _ _ _ _ | with_reducible exact Junk.app3 _ _ _ _ _ _ _ | with_reducible exact Junk.app4 _ _ _ _ _ _ _ _ | with_reducible exact Junk.app5 _ _ _ _ _ _ _ _ _ | with_reducible apply Junk.alloc | with_reducible apply Junk.junk | with_reducible apply Junk.drew | with_reducible apply Junk.drewN)))⟩
end Go.Proofs.Ytambpmbgfjefcaa
