/- nat.Tick: slices.DeleteFunc with a closure. -/
import Derived.Test.YtambpmbgfjefcaaNatI
set_option linter.unusedVariables false
set_option maxRecDepth 100000
set_option linter.unusedSimpArgs false
namespace Go.Proofs.Ytambpmbgfjefcaa
open Go.RowKit
theorem tick1_any (x : Ln) (g : Nat) (now : Int) (w : World) (hg : g < w.heap.size) (hc : w.cell? ⟨g, 0, none⟩ = some (.int .i64 now)) :
    Calls Try.prog 44 #[x.val, .pointer (some ⟨g, 0, none⟩)] w fun e w' => e = .returned (.bool (decide (x.till ≤ now))) ∧ Junk w w' := by
  obtain ⟨xp, xi, xn, xo, xt⟩ := x
  go_enter Try.func44, Try.ntmps44
  go_wp2
  go_ret
  exact ⟨rfl, by (repeat (first | with_reducible exact Junk.refl _ | with_reducible exact Junk.app _ _ _ _ _ | with_reducible apply Junk.alloc | with_reducible apply Junk.junk | with_reducible apply Junk.drew | with_reducible apply Junk.drewN))⟩
theorem indexT_any (oa : Option Addr) (l c : Nat) (L : List Ln) (pr : Ln → Bool) (v1 : Value) (w : World) (hl : l ≤ 1000000) (hL : L.length = l) (hS : LsAt w oa L)
    (hf : ∀ w1, Junk w w1 → ∀ x, Calls Try.prog 44 #[x.val, v1] w1 fun e w' => e = .returned (.bool (pr x)) ∧ Junk w1 w') :
    Calls Try.prog 45 #[.slice oa l c, .func (.func 44) #[] #[v1]] w fun e w' => e = .returned (.int .i64 (idxI (L.findIdx? pr))) ∧ Junk w w' := by
  have HS := Lib.hid hS
  have HF := Lib.hid hf
  clear hS hf
  obtain ⟨T, hT⟩ : ∃ T, T = idxI (L.findIdx? pr) := ⟨_, rfl⟩
  rw [← hT]
  have HT := Lib.hid hT
  have HL := Lib.hid hL
  clear hT hL
  go_enter Try.func45, Try.ntmps45
  go_wp2
  go_loopw [8] (fun i wr => ∃ k : Nat, i = .int .i64 (k : Int) ∧ Junk w wr ∧ k ≤ l ∧ Hid (∀ j, j < k → ∀ y, L[j]? = some y → pr y = false)) (fun i _ => l + 1 - (intOf i).toNat)
  case atStart => exact ⟨0, rfl, by ((try simp only [World.junk_junk, Array.append_assoc]); (repeat (first | with_reducible exact Junk.refl _ | with_reducible exact Junk.app _ _ _ _ _ | with_reducible exact Junk.app2 _ _ _ _ _ _ | with_reducible exact Junk.app3 _ _ _ _ _ _ _ | with_reducible exact Junk.app4 _ _ _ _ _ _ _ _ | with_reducible exact Junk.app5 _ _ _ _ _ _ _ _ _ | with_reducible apply Junk.alloc | with_reducible apply Junk.junk | with_reducible apply Junk.drew | with_reducible apply Junk.drewN))), by omega, Lib.hid (fun j hj => by omega)⟩
  case round =>
    obtain ⟨k, rfl, ⟨os, d, rfl⟩, hk, hN⟩ := hrel
    by_cases hkl : k < l
    · have hk2 : (k : Int) < (l : Int) := by omega
      obtain ⟨x, hx⟩ : ∃ x, L[k]? = some x := ⟨_, List.getElem?_eq_getElem (by rw [HL.out]; exact hkl)⟩
      obtain ⟨b, off, rfl, hb, c0, c1, c2, c3, c4⟩ := HS.out k x hx
      have HX := Lib.hid hx
      clear hx
      cases hp : pr x with
      | true =>
        have HE := Lib.hid (show T = (k : Int) by rw [HT.out, findIdx_at hN.out HX.out hp]; rfl)
        go_wp2_with (first | (go_at_call 44; refine (HF.out _ (by ((try simp only [World.junk_junk, Array.append_assoc]); (repeat (first | with_reducible exact Junk.refl _ | with_reducible exact Junk.app _ _ _ _ _ | with_reducible exact Junk.app2 _ _ _ _ _ _ | with_reducible exact Junk.app3 _ _ _ _ _ _ _ | with_reducible exact Junk.app4 _ _ _ _ _ _ _ _ | with_reducible exact Junk.app5 _ _ _ _ _ _ _ _ _ | with_reducible apply Junk.alloc | with_reducible apply Junk.junk | with_reducible apply Junk.drew | with_reducible apply Junk.drewN)))) x).mono ?_; rintro e w' ⟨rfl, ⟨osj, dj, rfl⟩⟩; rw [hp]))
        go_ret
        exact ⟨by rw [HE.out]; rfl, by ((try simp only [World.junk_junk, Array.append_assoc]); (repeat (first | with_reducible exact Junk.refl _ | with_reducible exact Junk.app _ _ _ _ _ | with_reducible exact Junk.app2 _ _ _ _ _ _ | with_reducible exact Junk.app3 _ _ _ _ _ _ _ | with_reducible exact Junk.app4 _ _ _ _ _ _ _ _ | with_reducible exact Junk.app5 _ _ _ _ _ _ _ _ _ | with_reducible apply Junk.alloc | with_reducible apply Junk.junk | with_reducible apply Junk.drew | with_reducible apply Junk.drewN)))⟩
      | false =>
        have HN2 := Lib.hid (show ∀ j, j < k + 1 → ∀ y, L[j]? = some y → pr y = false from fun j hj y hy => by
          by_cases h : j = k
          · subst h; rw [HX.out] at hy; cases hy; exact hp
          · exact hN.out j (by omega) y hy)
        go_wp2_with (first | (go_at_call 44; refine (HF.out _ (by ((try simp only [World.junk_junk, Array.append_assoc]); (repeat (first | with_reducible exact Junk.refl _ | with_reducible exact Junk.app _ _ _ _ _ | with_reducible exact Junk.app2 _ _ _ _ _ _ | with_reducible exact Junk.app3 _ _ _ _ _ _ _ | with_reducible exact Junk.app4 _ _ _ _ _ _ _ _ | with_reducible exact Junk.app5 _ _ _ _ _ _ _ _ _ | with_reducible apply Junk.alloc | with_reducible apply Junk.junk | with_reducible apply Junk.drew | with_reducible apply Junk.drewN)))) x).mono ?_; rintro e w' ⟨rfl, ⟨osj, dj, rfl⟩⟩; rw [hp]))
        exact ⟨⟨k + 1, by go_num, by ((try simp only [World.junk_junk, Array.append_assoc]); (repeat (first | with_reducible exact Junk.refl _ | with_reducible exact Junk.app _ _ _ _ _ | with_reducible exact Junk.app2 _ _ _ _ _ _ | with_reducible exact Junk.app3 _ _ _ _ _ _ _ | with_reducible exact Junk.app4 _ _ _ _ _ _ _ _ | with_reducible exact Junk.app5 _ _ _ _ _ _ _ _ _ | with_reducible apply Junk.alloc | with_reducible apply Junk.junk | with_reducible apply Junk.drew | with_reducible apply Junk.drewN))), by omega, HN2⟩, by simp [intOf]; omega⟩
    · have hk2 : ¬ (k : Int) < (l : Int) := by omega
      obtain rfl : k = l := by omega
      have HE := Lib.hid (show T = -1 by rw [HT.out, findIdx_no (by rw [HL.out]; exact hN.out)]; rfl)
      go_wp2
      go_ret
      exact ⟨by rw [HE.out]; rfl, by ((try simp only [World.junk_junk, Array.append_assoc]); (repeat (first | with_reducible exact Junk.refl _ | with_reducible exact Junk.app _ _ _ _ _ | with_reducible exact Junk.app2 _ _ _ _ _ _ | with_reducible exact Junk.app3 _ _ _ _ _ _ _ | with_reducible exact Junk.app4 _ _ _ _ _ _ _ _ | with_reducible exact Junk.app5 _ _ _ _ _ _ _ _ _ | with_reducible apply Junk.alloc | with_reducible apply Junk.junk | with_reducible apply Junk.drew | with_reducible apply Junk.drewN)))⟩

theorem own_shrink {B : Nat} {w : World} {e : TypeId} {size g cap n : Nat} {xs : List Value} (h : Own B w e size (some ⟨g, 0, none⟩) cap n xs) (m : Nat) (hm : m ≤ n) : Own B w e size (some ⟨g, 0, none⟩) cap m (xs.take (m * size)) := by
  have hl := h.len
  rcases h.form with ⟨h0, _⟩ | ⟨g', cur, h0, hb, hg, hnc, hcm, hcs, ht⟩
  · cases h0
  · cases h0
    have hms : m * size ≤ n * size := Nat.mul_le_mul_right _ hm
    refine ⟨by rw [List.length_take, hl]; omega, .inr ⟨g, cap, cur, rfl, hb, hg, by omega, hcm, hcs, ?_⟩⟩
    rw [← ht, List.take_take, Nat.min_eq_left hms]
theorem own_setCells {B : Nat} {e : TypeId} {size g cap n : Nat} : ∀ (vs : List Value) (o : Nat) (w : World) (xs : List Value), Own B w e size (some ⟨g, 0, none⟩) cap n xs →
    ∃ ys, Own B (w.setCells g o vs) e size (some ⟨g, 0, none⟩) cap n ys ∧ ys.take o = xs.take o
  | [], o, w, xs, h => ⟨xs, h, rfl⟩
  | v :: r, o, w, xs, h => by
    obtain ⟨ys, h1, h2⟩ := own_setCells r (o + 1) _ _ (own_stored h o v)
    refine ⟨ys, h1, ?_⟩
    have := congrArg (List.take o) h2
    rw [List.take_take, List.take_take, Nat.min_eq_left (by omega), List.take_set_of_le (Nat.le_refl o)] at this
    exact this
theorem lnsL_take (M : List Ln) (m : Nat) : (lnsL M).take (m * 5) = lnsL (M.take m) := by
  induction M generalizing m with
  | nil => simp [lnsL]
  | cons x M ih =>
    cases m with
    | zero => simp [lnsL]
    | succ m =>
      rw [lnsL_cons, List.take_succ_cons, lnsL_cons, List.take_append, Ln.cells_len, show (m + 1) * 5 - 5 = m * 5 by omega, ih, List.take_of_length_le (by rw [Ln.cells_len]; omega)]
theorem lnsL_put {x : Ln} : ∀ {L : List Ln} {k : Nat}, k < L.length → (((((lnsL L).set (k * 5) (.int .i64 x.proto)).set (k * 5 + 1) (.int .u32 x.inn)).set (k * 5 + 2) (.int .i64 x.inport)).set (k * 5 + 3) (.int .i64 x.port)).set (k * 5 + 4) (.int .i64 x.till) = lnsL (L.set k x)
  | [], k, h => by simp at h
  | y :: L, 0, h => by
    rw [lnsL_cons]
    rfl
  | y :: L, k + 1, h => by
    have e : ∀ (l : List Value) (i : Nat) (v : Value), (y.cells ++ l).set ((k + 1) * 5 + i) v = y.cells ++ l.set (k * 5 + i) v := fun l i v => by
      rw [List.set_append_right _ _ (by rw [Ln.cells_len]; omega), Ln.cells_len, show (k + 1) * 5 + i - 5 = k * 5 + i by omega]
    have e0 : ∀ (l : List Value) (v : Value), (y.cells ++ l).set ((k + 1) * 5) v = y.cells ++ l.set (k * 5) v := fun l v => e l 0 v
    rw [lnsL_cons, e0, e, e, e, e, lnsL_put (x := x) (L := L) (k := k) (by simpa using h)]
    rfl
theorem own_put {B : Nat} {w : World} {e : TypeId} {g cap n k : Nat} {M : List Ln} (x : Ln) (h : Own B w e 5 (some ⟨g, 0, none⟩) cap n (lnsL M)) (hk : k < M.length) :
    Own B (((((w.setCell ⟨g, k * 5, none⟩ (.int .i64 x.proto)).setCell ⟨g, k * 5 + 1, none⟩ (.int .u32 x.inn)).setCell ⟨g, k * 5 + 2, none⟩ (.int .i64 x.inport)).setCell ⟨g, k * 5 + 3, none⟩ (.int .i64 x.port)).setCell ⟨g, k * 5 + 4, none⟩ (.int .i64 x.till)) e 5 (some ⟨g, 0, none⟩) cap n (lnsL (M.set k x)) := by
  have := own_stored (own_stored (own_stored (own_stored (own_stored h (k * 5) (.int .i64 x.proto)) (k * 5 + 1) (.int .u32 x.inn)) (k * 5 + 2) (.int .i64 x.inport)) (k * 5 + 3) (.int .i64 x.port)) (k * 5 + 4) (.int .i64 x.till)
  rw [lnsL_put hk] at this
  exact this
/-- How far DeleteFunc has come. -/
structure DelInv (L M : List Ln) (pr : Ln → Bool) (i j : Nat) : Prop where
  len : M.length = L.length
  front : M.take i = (L.take j).filter fun x => !pr x
  back : M.drop j = L.drop j
theorem DelInv.start {L : List Ln} {pr : Ln → Bool} {k : Nat} {x : Ln} (h : L.findIdx? pr = some k) : DelInv L L pr k (k + 1) := by
  obtain ⟨hk, hp, hb⟩ := List.findIdx?_eq_some_iff_getElem.1 h
  refine ⟨rfl, ?_, rfl⟩
  rw [take_succ' (List.getElem?_eq_getElem hk), List.filter_append]
  have e1 : (L.take k).filter (fun x => !pr x) = L.take k := by
    rw [List.filter_eq_self]
    intro y hy
    obtain ⟨j, hj⟩ := List.getElem?_of_mem hy
    rw [List.getElem?_take] at hj
    split at hj
    · rename_i hjk
      rw [List.getElem?_eq_getElem (by omega)] at hj
      cases hj
      simpa using hb j hjk
    · cases hj
  rw [e1]
  simp [List.filter, hp]
theorem DelInv.skip {L M : List Ln} {pr : Ln → Bool} {i j : Nat} {x : Ln} (h : DelInv L M pr i j) (hx : L[j]? = some x) (hp : pr x = true) : DelInv L M pr i (j + 1) := by
  refine ⟨h.len, ?_, ?_⟩
  · rw [h.front, take_succ' hx, List.filter_append]; simp [List.filter, hp]
  · have := congrArg (List.drop 1) h.back
    simpa [List.drop_drop] using this
theorem DelInv.keep {L M : List Ln} {pr : Ln → Bool} {i j : Nat} {x : Ln} (h : DelInv L M pr i j) (hij : i < j) (hx : L[j]? = some x) (hp : pr x = false) : DelInv L (M.set i x) pr (i + 1) (j + 1) := by
  have hj : j < L.length := (List.getElem?_eq_some_iff.1 hx).1
  have hl := h.len
  refine ⟨by rw [List.length_set, h.len], ?_, ?_⟩
  · rw [take_succ' (x := x) (by rw [List.getElem?_set_self (by omega)]), List.take_set_of_le (Nat.le_refl i), h.front, take_succ' hx, List.filter_append]
    simp [List.filter, hp]
  · rw [List.drop_set_of_lt (by omega)]
    have := congrArg (List.drop 1) h.back
    simpa [List.drop_drop] using this
theorem DelInv.at_ {L M : List Ln} {pr : Ln → Bool} {i j : Nat} (h : DelInv L M pr i j) : M[j]? = L[j]? := by
  have := congrArg List.head? h.back
  simpa [List.head?_drop] using this
end Go.Proofs.Ytambpmbgfjefcaa
