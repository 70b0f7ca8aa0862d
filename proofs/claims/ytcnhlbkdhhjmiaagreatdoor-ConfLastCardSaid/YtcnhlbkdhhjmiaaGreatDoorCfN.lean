/- Lists of routes, rules and forwards in memory; what slices.ContainsFunc finds in them. -/
import Derived.Test.YtcnhlbkdhhjmiaaGreatDoorCfM
set_option linter.unusedVariables false
set_option maxRecDepth 100000
set_option linter.unusedSimpArgs false
namespace Go.Proofs.YtcnhlbkdhhjmiaaGreatDoor
open Go.RowKit
variable {L L' : Nat → Prop} {w w' w'' : World}
theorem any_at {α : Type} {M : List α} {pr : α → Bool} {k : Nat} {x : α} (hx : M[k]? = some x) (hp : pr x = true) : M.any pr = true := List.any_eq_true.2 ⟨x, List.mem_of_getElem? hx, hp⟩
theorem any_no {α : Type} {M : List α} {pr : α → Bool} (h : ∀ j, j < M.length → ∀ y, M[j]? = some y → pr y = false) : M.any pr = false := by
  rw [List.any_eq_false]
  intro x hx
  obtain ⟨j, hj⟩ := List.mem_iff_getElem?.1 hx
  have := h j (List.getElem?_eq_some_iff.1 hj).1 x hj
  rw [this]
  decide
def RosAt (w : World) (oa : Option Addr) (M : List Ro) : Prop := ∀ i x, M[i]? = some x → ∃ b off, oa = some ⟨b, off, none⟩ ∧ b < w.heap.size ∧ w.cell? ⟨b, off + i * 4, none⟩ = some (.int .u32 x.net) ∧ w.cell? ⟨b, off + i * 4 + 1, none⟩ = some (.int .i64 x.bits) ∧ w.cell? ⟨b, off + i * 4 + 2, none⟩ = some (.int .i64 x.zone) ∧ w.cell? ⟨b, off + i * 4 + 3, none⟩ = some (.int .i64 x.mtu)
theorem RosAt.on {oa : Option Addr} {M : List Ro} (h : RosAt w oa M) (hj : Junk w w') : RosAt w' oa M := fun i x hx => by
  obtain ⟨b, off, he, hlt, h0, h1, h2, h3⟩ := h i x hx
  obtain ⟨os, d, rfl⟩ := hj
  refine ⟨b, off, he, Nat.lt_of_lt_of_le hlt (by simp), (by rw [World.cell?_junk _ _ _ _ _ hlt]; exact h0), (by rw [World.cell?_junk _ _ _ _ _ hlt]; exact h1), (by rw [World.cell?_junk _ _ _ _ _ hlt]; exact h2), (by rw [World.cell?_junk _ _ _ _ _ hlt]; exact h3)⟩
theorem RosAt.take {oa : Option Addr} {M : List Ro} (h : RosAt w oa M) (k : Nat) : RosAt w oa (M.take k) := fun i x hx => by
  rw [List.getElem?_take] at hx
  split at hx
  · exact h i x hx
  · cases hx
theorem ro_index (oa : Option Addr) (l c : Nat) (M : List Ro) (pr : Ro → Bool) (v1 : Value) (w : World) (hl : l ≤ 1000000) (hL : M.length = l) (hS : RosAt w oa M)
    (hf : ∀ w1, Junk w w1 → ∀ x, M.any (fun y => decide (y = x)) = true → Calls Tryz.prog 44 #[.agg (Ro.cells x).toArray, v1] w1 fun e w' => e = .returned (.bool (pr x)) ∧ Junk w1 w') :
    Calls Tryz.prog 62 #[.slice oa l c, .func (.func 44) #[] #[v1]] w fun e w' => (∃ k : Int, e = .returned (.int .i64 k) ∧ decide (0 ≤ k) = M.any pr) ∧ Junk w w' := by
  have HS := Lib.hid hS
  have HF := Lib.hid hf
  clear hS hf
  obtain ⟨T, hT⟩ : ∃ T, T = M.any pr := ⟨_, rfl⟩
  rw [← hT]
  have HT := Lib.hid hT
  have HL := Lib.hid hL
  clear hT hL
  go_enter Tryz.func62, Tryz.ntmps62
  go_wp2
  go_loopw [8] (fun i wr => ∃ k : Nat, i = .int .i64 (k : Int) ∧ Junk w wr ∧ k ≤ l ∧ Hid (∀ j, j < k → ∀ y, M[j]? = some y → pr y = false)) (fun i _ => l + 1 - (intOf i).toNat)
  case atStart => exact ⟨0, rfl, by (exact jkc), by omega, Lib.hid (fun j hj => by omega)⟩
  case round =>
    obtain ⟨k, rfl, ⟨os, d, rfl⟩, hk, hN⟩ := hrel
    by_cases hkl : k < l
    · have hk2 : (k : Int) < (l : Int) := by omega
      obtain ⟨x, hx⟩ : ∃ x, M[k]? = some x := ⟨_, List.getElem?_eq_getElem (by rw [HL.out]; exact hkl)⟩
      obtain ⟨b, off, rfl, hb, c0, c1, c2, c3⟩ := HS.out k x hx
      have HX := Lib.hid hx
      have HMM := Lib.hid (show M.any (fun y => decide (y = x)) = true from any_at hx (by simp))
      clear hx
      cases hp : pr x with
      | true =>
        have HE := Lib.hid (show T = true by rw [HT.out]; exact any_at HX.out hp)
        go_wp2_with (first | (go_at_call 44; refine (HF.out _ (by (exact jkc)) x HMM.out).mono ?_; rintro e w' ⟨rfl, ⟨osj, dj, rfl⟩⟩; rw [hp]))
        go_ret
        exact ⟨⟨k, rfl, by rw [HE.out]; exact decide_eq_true (by omega)⟩, by (exact jkc)⟩
      | false =>
        have HN2 := Lib.hid (show ∀ j, j < k + 1 → ∀ y, M[j]? = some y → pr y = false from fun j hj y hy => by
          by_cases h : j = k
          · subst h; rw [HX.out] at hy; cases hy; exact hp
          · exact hN.out j (by omega) y hy)
        go_wp2_with (first | (go_at_call 44; refine (HF.out _ (by (exact jkc)) x HMM.out).mono ?_; rintro e w' ⟨rfl, ⟨osj, dj, rfl⟩⟩; rw [hp]))
        exact ⟨⟨k + 1, by go_num, by (exact jkc), by omega, HN2⟩, by simp [intOf]; omega⟩
    · have hk2 : ¬ (k : Int) < (l : Int) := by omega
      obtain rfl : k = l := by omega
      have HE := Lib.hid (show T = false by rw [HT.out]; exact any_no (by rw [HL.out]; exact hN.out))
      go_wp2
      go_ret
      exact ⟨⟨-1, rfl, by rw [HE.out]; decide⟩, by (exact jkc)⟩
theorem ro_contains (oa : Option Addr) (l c : Nat) (M : List Ro) (pr : Ro → Bool) (v1 : Value) (w : World) (hl : l ≤ 1000000) (hL : M.length = l) (hS : RosAt w oa M)
    (hf : ∀ w1, Junk w w1 → ∀ x, M.any (fun y => decide (y = x)) = true → Calls Tryz.prog 44 #[.agg (Ro.cells x).toArray, v1] w1 fun e w' => e = .returned (.bool (pr x)) ∧ Junk w1 w') :
    Calls Tryz.prog 43 #[.slice oa l c, .func (.func 44) #[] #[v1]] w fun e w' => e = .returned (.bool (M.any pr)) ∧ Junk w w' := by
  have HI := Lib.hid (ro_index oa l c M pr v1 w hl hL hS hf)
  clear hS hf hL
  go_enter Tryz.func43, Tryz.ntmps43
  go_wp2_with (go_at_call 62; (refine HI.out.mono ?_; rintro e w1 ⟨⟨k, rfl, hk⟩, ⟨os, d, rfl⟩⟩))
  all_goals go_ret
  all_goals refine ⟨?_, by (exact jkc)⟩
  all_goals (rw [← hk]; first | rfl | (simp; done) | (congr 2; simp; omega) | trace_state)
def RusAt (w : World) (oa : Option Addr) (M : List Ru) : Prop := ∀ i x, M[i]? = some x → ∃ b off, oa = some ⟨b, off, none⟩ ∧ b < w.heap.size ∧ w.cell? ⟨b, off + i * 10, none⟩ = some (.int .i64 x.fr) ∧ w.cell? ⟨b, off + i * 10 + 1, none⟩ = some (.int .i64 x.tt) ∧ w.cell? ⟨b, off + i * 10 + 2, none⟩ = some (.int .i64 x.proto) ∧ w.cell? ⟨b, off + i * 10 + 3, none⟩ = some (.int .u32 x.src) ∧ w.cell? ⟨b, off + i * 10 + 4, none⟩ = some (.int .u32 x.dst) ∧ w.cell? ⟨b, off + i * 10 + 5, none⟩ = some (.int .i64 x.srcBits) ∧ w.cell? ⟨b, off + i * 10 + 6, none⟩ = some (.int .i64 x.dstBits) ∧ w.cell? ⟨b, off + i * 10 + 7, none⟩ = some (.int .i64 x.lo) ∧ w.cell? ⟨b, off + i * 10 + 8, none⟩ = some (.int .i64 x.hi) ∧ w.cell? ⟨b, off + i * 10 + 9, none⟩ = some (.int .i64 x.action)
theorem RusAt.on {oa : Option Addr} {M : List Ru} (h : RusAt w oa M) (hj : Junk w w') : RusAt w' oa M := fun i x hx => by
  obtain ⟨b, off, he, hlt, h0, h1, h2, h3, h4, h5, h6, h7, h8, h9⟩ := h i x hx
  obtain ⟨os, d, rfl⟩ := hj
  refine ⟨b, off, he, Nat.lt_of_lt_of_le hlt (by simp), (by rw [World.cell?_junk _ _ _ _ _ hlt]; exact h0), (by rw [World.cell?_junk _ _ _ _ _ hlt]; exact h1), (by rw [World.cell?_junk _ _ _ _ _ hlt]; exact h2), (by rw [World.cell?_junk _ _ _ _ _ hlt]; exact h3), (by rw [World.cell?_junk _ _ _ _ _ hlt]; exact h4), (by rw [World.cell?_junk _ _ _ _ _ hlt]; exact h5), (by rw [World.cell?_junk _ _ _ _ _ hlt]; exact h6), (by rw [World.cell?_junk _ _ _ _ _ hlt]; exact h7), (by rw [World.cell?_junk _ _ _ _ _ hlt]; exact h8), (by rw [World.cell?_junk _ _ _ _ _ hlt]; exact h9)⟩
theorem RusAt.take {oa : Option Addr} {M : List Ru} (h : RusAt w oa M) (k : Nat) : RusAt w oa (M.take k) := fun i x hx => by
  rw [List.getElem?_take] at hx
  split at hx
  · exact h i x hx
  · cases hx
theorem ru_index (oa : Option Addr) (l c : Nat) (M : List Ru) (pr : Ru → Bool) (w : World) (hl : l ≤ 1000000) (hL : M.length = l) (hS : RusAt w oa M)
    (hf : ∀ w1, Junk w w1 → ∀ x, M.any (fun y => decide (y = x)) = true → Calls Tryz.prog 46 #[.agg (Ru.cells x).toArray] w1 fun e w' => e = .returned (.bool (pr x)) ∧ Junk w1 w') :
    Calls Tryz.prog 63 #[.slice oa l c, .func (.func 46) #[] #[]] w fun e w' => (∃ k : Int, e = .returned (.int .i64 k) ∧ decide (0 ≤ k) = M.any pr) ∧ Junk w w' := by
  have HS := Lib.hid hS
  have HF := Lib.hid hf
  clear hS hf
  obtain ⟨T, hT⟩ : ∃ T, T = M.any pr := ⟨_, rfl⟩
  rw [← hT]
  have HT := Lib.hid hT
  have HL := Lib.hid hL
  clear hT hL
  go_enter Tryz.func63, Tryz.ntmps63
  go_wp2
  go_loopw [8] (fun i wr => ∃ k : Nat, i = .int .i64 (k : Int) ∧ Junk w wr ∧ k ≤ l ∧ Hid (∀ j, j < k → ∀ y, M[j]? = some y → pr y = false)) (fun i _ => l + 1 - (intOf i).toNat)
  case atStart => exact ⟨0, rfl, by (exact jkc), by omega, Lib.hid (fun j hj => by omega)⟩
  case round =>
    obtain ⟨k, rfl, ⟨os, d, rfl⟩, hk, hN⟩ := hrel
    by_cases hkl : k < l
    · have hk2 : (k : Int) < (l : Int) := by omega
      obtain ⟨x, hx⟩ : ∃ x, M[k]? = some x := ⟨_, List.getElem?_eq_getElem (by rw [HL.out]; exact hkl)⟩
      obtain ⟨b, off, rfl, hb, c0, c1, c2, c3, c4, c5, c6, c7, c8, c9⟩ := HS.out k x hx
      have HX := Lib.hid hx
      have HMM := Lib.hid (show M.any (fun y => decide (y = x)) = true from any_at hx (by simp))
      clear hx
      cases hp : pr x with
      | true =>
        have HE := Lib.hid (show T = true by rw [HT.out]; exact any_at HX.out hp)
        go_wp2_with (first | (go_at_call 46; refine (HF.out _ (by (exact jkc)) x HMM.out).mono ?_; rintro e w' ⟨rfl, ⟨osj, dj, rfl⟩⟩; rw [hp]))
        go_ret
        exact ⟨⟨k, rfl, by rw [HE.out]; exact decide_eq_true (by omega)⟩, by (exact jkc)⟩
      | false =>
        have HN2 := Lib.hid (show ∀ j, j < k + 1 → ∀ y, M[j]? = some y → pr y = false from fun j hj y hy => by
          by_cases h : j = k
          · subst h; rw [HX.out] at hy; cases hy; exact hp
          · exact hN.out j (by omega) y hy)
        go_wp2_with (first | (go_at_call 46; refine (HF.out _ (by (exact jkc)) x HMM.out).mono ?_; rintro e w' ⟨rfl, ⟨osj, dj, rfl⟩⟩; rw [hp]))
        exact ⟨⟨k + 1, by go_num, by (exact jkc), by omega, HN2⟩, by simp [intOf]; omega⟩
    · have hk2 : ¬ (k : Int) < (l : Int) := by omega
      obtain rfl : k = l := by omega
      have HE := Lib.hid (show T = false by rw [HT.out]; exact any_no (by rw [HL.out]; exact hN.out))
      go_wp2
      go_ret
      exact ⟨⟨-1, rfl, by rw [HE.out]; decide⟩, by (exact jkc)⟩
theorem ru_contains (oa : Option Addr) (l c : Nat) (M : List Ru) (pr : Ru → Bool) (w : World) (hl : l ≤ 1000000) (hL : M.length = l) (hS : RusAt w oa M)
    (hf : ∀ w1, Junk w w1 → ∀ x, M.any (fun y => decide (y = x)) = true → Calls Tryz.prog 46 #[.agg (Ru.cells x).toArray] w1 fun e w' => e = .returned (.bool (pr x)) ∧ Junk w1 w') :
    Calls Tryz.prog 45 #[.slice oa l c, .func (.func 46) #[] #[]] w fun e w' => e = .returned (.bool (M.any pr)) ∧ Junk w w' := by
  have HI := Lib.hid (ru_index oa l c M pr w hl hL hS hf)
  clear hS hf hL
  go_enter Tryz.func45, Tryz.ntmps45
  go_wp2_with (go_at_call 63; (refine HI.out.mono ?_; rintro e w1 ⟨⟨k, rfl, hk⟩, ⟨os, d, rfl⟩⟩))
  all_goals go_ret
  all_goals refine ⟨?_, by (exact jkc)⟩
  all_goals (rw [← hk]; first | rfl | (simp; done) | (congr 2; simp; omega) | trace_state)
def FosAt (w : World) (oa : Option Addr) (M : List Fo) : Prop := ∀ i x, M[i]? = some x → ∃ b off, oa = some ⟨b, off, none⟩ ∧ b < w.heap.size ∧ w.cell? ⟨b, off + i * 5, none⟩ = some (.int .i64 x.proto) ∧ w.cell? ⟨b, off + i * 5 + 1, none⟩ = some (.int .i64 x.port) ∧ w.cell? ⟨b, off + i * 5 + 2, none⟩ = some (.int .u32 x.addr) ∧ w.cell? ⟨b, off + i * 5 + 3, none⟩ = some (.int .i64 x.tt) ∧ w.cell? ⟨b, off + i * 5 + 4, none⟩ = some (.bool x.proxy)
theorem FosAt.on {oa : Option Addr} {M : List Fo} (h : FosAt w oa M) (hj : Junk w w') : FosAt w' oa M := fun i x hx => by
  obtain ⟨b, off, he, hlt, h0, h1, h2, h3, h4⟩ := h i x hx
  obtain ⟨os, d, rfl⟩ := hj
  refine ⟨b, off, he, Nat.lt_of_lt_of_le hlt (by simp), (by rw [World.cell?_junk _ _ _ _ _ hlt]; exact h0), (by rw [World.cell?_junk _ _ _ _ _ hlt]; exact h1), (by rw [World.cell?_junk _ _ _ _ _ hlt]; exact h2), (by rw [World.cell?_junk _ _ _ _ _ hlt]; exact h3), (by rw [World.cell?_junk _ _ _ _ _ hlt]; exact h4)⟩
theorem FosAt.take {oa : Option Addr} {M : List Fo} (h : FosAt w oa M) (k : Nat) : FosAt w oa (M.take k) := fun i x hx => by
  rw [List.getElem?_take] at hx
  split at hx
  · exact h i x hx
  · cases hx
theorem fo_index (oa : Option Addr) (l c : Nat) (M : List Fo) (pr : Fo → Bool) (v1 : Value) (w : World) (hl : l ≤ 1000000) (hL : M.length = l) (hS : FosAt w oa M)
    (hf : ∀ w1, Junk w w1 → ∀ x, M.any (fun y => decide (y = x)) = true → Calls Tryz.prog 29 #[.agg (Fo.cells x).toArray, v1] w1 fun e w' => e = .returned (.bool (pr x)) ∧ Junk w1 w') :
    Calls Tryz.prog 48 #[.slice oa l c, .func (.func 29) #[] #[v1]] w fun e w' => (∃ k : Int, e = .returned (.int .i64 k) ∧ decide (0 ≤ k) = M.any pr) ∧ Junk w w' := by
  have HS := Lib.hid hS
  have HF := Lib.hid hf
  clear hS hf
  obtain ⟨T, hT⟩ : ∃ T, T = M.any pr := ⟨_, rfl⟩
  rw [← hT]
  have HT := Lib.hid hT
  have HL := Lib.hid hL
  clear hT hL
  go_enter Tryz.func48, Tryz.ntmps48
  go_wp2
  go_loopw [8] (fun i wr => ∃ k : Nat, i = .int .i64 (k : Int) ∧ Junk w wr ∧ k ≤ l ∧ Hid (∀ j, j < k → ∀ y, M[j]? = some y → pr y = false)) (fun i _ => l + 1 - (intOf i).toNat)
  case atStart => exact ⟨0, rfl, by (exact jkc), by omega, Lib.hid (fun j hj => by omega)⟩
  case round =>
    obtain ⟨k, rfl, ⟨os, d, rfl⟩, hk, hN⟩ := hrel
    by_cases hkl : k < l
    · have hk2 : (k : Int) < (l : Int) := by omega
      obtain ⟨x, hx⟩ : ∃ x, M[k]? = some x := ⟨_, List.getElem?_eq_getElem (by rw [HL.out]; exact hkl)⟩
      obtain ⟨b, off, rfl, hb, c0, c1, c2, c3, c4⟩ := HS.out k x hx
      have HX := Lib.hid hx
      have HMM := Lib.hid (show M.any (fun y => decide (y = x)) = true from any_at hx (by simp))
      clear hx
      cases hp : pr x with
      | true =>
        have HE := Lib.hid (show T = true by rw [HT.out]; exact any_at HX.out hp)
        go_wp2_with (first | (go_at_call 29; refine (HF.out _ (by (exact jkc)) x HMM.out).mono ?_; rintro e w' ⟨rfl, ⟨osj, dj, rfl⟩⟩; rw [hp]))
        go_ret
        exact ⟨⟨k, rfl, by rw [HE.out]; exact decide_eq_true (by omega)⟩, by (exact jkc)⟩
      | false =>
        have HN2 := Lib.hid (show ∀ j, j < k + 1 → ∀ y, M[j]? = some y → pr y = false from fun j hj y hy => by
          by_cases h : j = k
          · subst h; rw [HX.out] at hy; cases hy; exact hp
          · exact hN.out j (by omega) y hy)
        go_wp2_with (first | (go_at_call 29; refine (HF.out _ (by (exact jkc)) x HMM.out).mono ?_; rintro e w' ⟨rfl, ⟨osj, dj, rfl⟩⟩; rw [hp]))
        exact ⟨⟨k + 1, by go_num, by (exact jkc), by omega, HN2⟩, by simp [intOf]; omega⟩
    · have hk2 : ¬ (k : Int) < (l : Int) := by omega
      obtain rfl : k = l := by omega
      have HE := Lib.hid (show T = false by rw [HT.out]; exact any_no (by rw [HL.out]; exact hN.out))
      go_wp2
      go_ret
      exact ⟨⟨-1, rfl, by rw [HE.out]; decide⟩, by (exact jkc)⟩
theorem fo_contains (oa : Option Addr) (l c : Nat) (M : List Fo) (pr : Fo → Bool) (v1 : Value) (w : World) (hl : l ≤ 1000000) (hL : M.length = l) (hS : FosAt w oa M)
    (hf : ∀ w1, Junk w w1 → ∀ x, M.any (fun y => decide (y = x)) = true → Calls Tryz.prog 29 #[.agg (Fo.cells x).toArray, v1] w1 fun e w' => e = .returned (.bool (pr x)) ∧ Junk w1 w') :
    Calls Tryz.prog 28 #[.slice oa l c, .func (.func 29) #[] #[v1]] w fun e w' => e = .returned (.bool (M.any pr)) ∧ Junk w w' := by
  have HI := Lib.hid (fo_index oa l c M pr v1 w hl hL hS hf)
  clear hS hf hL
  go_enter Tryz.func28, Tryz.ntmps28
  go_wp2_with (go_at_call 48; (refine HI.out.mono ?_; rintro e w1 ⟨⟨k, rfl, hk⟩, ⟨os, d, rfl⟩⟩))
  all_goals go_ret
  all_goals refine ⟨?_, by (exact jkc)⟩
  all_goals (rw [← hk]; first | rfl | (simp; done) | (congr 2; simp; omega) | trace_state)
end Go.Proofs.YtcnhlbkdhhjmiaaGreatDoor
