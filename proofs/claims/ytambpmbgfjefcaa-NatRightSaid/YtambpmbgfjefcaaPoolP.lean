/- What PoolFree and PoolAll say of a choice, without the program. -/
import Derived.Test.YtambpmbgfjefcaaPoolE
set_option linter.unusedVariables false
set_option maxRecDepth 100000
set_option linter.unusedSimpArgs false
namespace Go.Proofs.Ytambpmbgfjefcaa
open Go.RowKit
theorem portsL_mem {F : Nat → Bool} {step hi : Nat} : ∀ (n p x : Nat), x ∈ portsL F step hi n p → p ≤ x ∧ x ≤ hi ∧ F x = false ∧ (x - p) % step = 0
  | 0, p, x, h => by simp [portsL] at h
  | n + 1, p, x, h => by
    rw [portsL] at h
    have rec_ : x ∈ portsL F step hi n (p + step) → p ≤ x ∧ x ≤ hi ∧ F x = false ∧ (x - p) % step = 0 := fun h => by
      obtain ⟨h1, h2, h3, h4⟩ := portsL_mem n (p + step) x h
      refine ⟨by omega, h2, h3, ?_⟩
      rw [show x - p = (x - (p + step)) + step by omega, Nat.add_mod_right]
      exact h4
    split at h
    · split at h
      · exact rec_ h
      · rename_i hp hF
        rcases List.mem_cons.1 h with rfl | h
        · exact ⟨Nat.le_refl _, hp, by simpa using hF, by simp⟩
        · exact rec_ h
    · cases h
theorem freeL_mem {F : Nat → Bool} {step hi p x : Nat} (h : x ∈ freeL F step hi p) : p ≤ x ∧ x ≤ hi ∧ F x = false ∧ (x - p) % step = 0 := portsL_mem _ _ _ h
/-- By ones every free port from one on is there. -/
theorem freeL_all {F : Nat → Bool} {hi : Nat} : ∀ (n p x : Nat), hi + 1 ≤ n + p → p ≤ x → x ≤ hi → F x = false → x ∈ portsL F 1 hi n p
  | 0, p, x, h, h1, h2, h3 => by omega
  | n + 1, p, x, h, h1, h2, h3 => by
    rw [portsL, if_pos (by omega)]
    by_cases he : x = p
    · subst he
      rw [if_neg (by simp [h3])]
      exact List.mem_cons_self ..
    · have := freeL_all n (p + 1) x (by omega) (by omega) h2 h3
      split
      · exact this
      · exact List.mem_cons_of_mem _ this
theorem getD_mem {L : List Nat} {i : Nat} (h : i < L.length) : L[i]?.getD 0 ∈ L := by
  rw [List.getElem?_eq_getElem h]
  exact List.getElem_mem h
/-- What is chosen is in the span, and free. -/
theorem choose_free {a b l D : Nat} {xs : Nat → Int} {wish : Int} (hr : rightB a b = true) (h : (poolChoose a b xs l wish D).2 = true) :
    ∃ p : Nat, (poolChoose a b xs l wish D).1 = (p : Int) ∧ a ≤ p ∧ p ≤ b ∧ takenB a b xs l p = false := by
  unfold poolChoose poolL at h ⊢
  rw [if_neg (by simp [hr])] at h ⊢
  simp only [Int.toNat_natCast] at h ⊢
  split at h
  · rename_i h1
    rw [if_pos h1]
    exact ⟨wish.toNat, by show wish = _; omega, by omega, by omega, h1.2.2⟩
  · rename_i h1
    rw [if_neg h1]
    split at h
    · rename_i h2
      rw [if_pos h2]
      obtain ⟨m1, m2, m3, _⟩ := freeL_mem (getD_mem (Nat.mod_lt D h2))
      refine ⟨_, rfl, ?_, m2, m3⟩
      have : a ≤ firstP a wish := by unfold firstP; split <;> omega
      omega
    · rename_i h2
      rw [if_neg h2]
      split at h
      · rename_i h3
        rw [if_pos h3]
        obtain ⟨m1, m2, m3, _⟩ := freeL_mem (getD_mem (Nat.mod_lt D h3))
        exact ⟨_, rfl, m1, m2, m3⟩
      · cases h
/-- One is chosen just if one is free. -/
theorem choose_ok {a b l D : Nat} {xs : Nat → Int} {wish : Int} (hr : rightB a b = true) : (poolChoose a b xs l wish D).2 = decide (0 < poolFree a b xs l) := by
  have hF : poolFree a b xs l = (freeL (takenB a b xs l) 1 b a).length := by unfold poolFree poolL; rw [if_pos hr]; simp
  rw [hF]
  by_cases hok : (poolChoose a b xs l wish D).2 = true
  · obtain ⟨p, _, h1, h2, h3⟩ := choose_free hr hok
    have := freeL_all (F := takenB a b xs l) (b + 1) a p (by omega) h1 h2 h3
    rw [hok]
    have h4 : 0 < (freeL (takenB a b xs l) 1 b a).length := List.length_pos_of_mem this
    simp [h4]
  · have hok' : (poolChoose a b xs l wish D).2 = false := by simpa using hok
    rw [hok']
    by_cases h4 : 0 < (freeL (takenB a b xs l) 1 b a).length
    · exfalso
      unfold poolChoose poolL at hok'
      rw [if_neg (by simp [hr])] at hok'
      simp only [Int.toNat_natCast] at hok'
      split at hok'
      · cases hok'
      · split at hok'
        · cases hok'
        · first | cases hok' | (rw [if_pos h4] at hok'; cases hok')
    · simp [h4]
/-- One port more is taken: one fewer is free. -/
theorem free_less {F : Nat → Bool} {hi p : Nat} (hp : p ≤ hi) (hF : F p = false) : ∀ n q, hi + 1 ≤ n + q → (portsL (fun x => F x || x == p) 1 hi n q).length + (if q ≤ p then 1 else 0) = (portsL F 1 hi n q).length
  | 0, q, h => by
    have : ¬ q ≤ p := by omega
    simp [portsL, this]
  | n + 1, q, h => by
    have ih := free_less hp hF n (q + 1) (by omega)
    rw [portsL, portsL]
    by_cases hq : q ≤ hi
    · rw [if_pos hq, if_pos hq]
      by_cases he : q = p
      · subst he
        rw [if_neg (show ¬ q + 1 ≤ q by omega)] at ih
        simp [hF]
        omega
      · have he' : (q == p) = false := by simp [he]
        simp only [he', Bool.or_false]
        have hb : (if q + 1 ≤ p then 1 else 0) = (if q ≤ p then 1 else 0) := by
          by_cases h1 : q ≤ p
          · rw [if_pos h1, if_pos (by omega)]
          · rw [if_neg h1, if_neg (by omega)]
        rw [hb] at ih
        by_cases hb2 : F q = true
        · rw [if_pos hb2, if_pos hb2]; exact ih
        · rw [if_neg hb2, if_neg hb2]
          simp only [List.length_cons]
          omega
    · rw [if_neg hq, if_neg hq, if_neg (by omega)]
      rfl
theorem free_none (hi : Nat) : ∀ n q, hi + 1 ≤ n + q → (portsL (fun _ => false) 1 hi n q).length = hi + 1 - q
  | 0, q, h => by simp [portsL]; omega
  | n + 1, q, h => by
    rw [portsL]
    by_cases hq : q ≤ hi
    · rw [if_pos hq, if_neg (by simp), List.length_cons, free_none hi n (q + 1) (by omega)]
      omega
    · rw [if_neg hq]
      simp
      omega
/-- The list with one port more behind it. -/
theorem poolFree_more {a b l p : Nat} {xs ys : Nat → Int} (hr : rightB a b = true) (h1 : a ≤ p) (h2 : p ≤ b) (hF : takenB a b xs l p = false) (hy : ∀ i, i < l → ys i = xs i) (hp : ys l = (p : Int)) :
    poolFree a b ys (l + 1) + 1 = poolFree a b xs l := by
  have e : ∀ zs k, poolFree a b zs k = (freeL (takenB a b zs k) 1 b a).length := fun zs k => by unfold poolFree poolL; rw [if_pos hr]; simp
  rw [e, e]
  have hc : freeL (takenB a b ys (l + 1)) 1 b a = portsL (fun x => takenB a b xs l x || x == p) 1 b (b + 1) a := by
    unfold freeL
    have hq : ∀ x, a ≤ x → x ≤ b → takenB a b ys (l + 1) x = (takenB a b xs l x || x == p) := fun x ha hx => by
      unfold takenB
      rw [Bool.eq_iff_iff]
      simp only [decide_eq_true_eq, Bool.or_eq_true, beq_iff_eq]
      constructor
      · rintro ⟨g1, g2, i, hi, hx2⟩
        by_cases hl : i = l
        · subst hl; right; omega
        · left; exact ⟨g1, g2, i, by omega, by rw [← hy i (by omega)]; exact hx2⟩
      · rintro (⟨g1, g2, i, hi, hx2⟩ | rfl)
        · exact ⟨g1, g2, i, by omega, by rw [hy i hi]; exact hx2⟩
        · exact ⟨by omega, by omega, l, by omega, hp⟩
    have go : ∀ n q, a ≤ q → portsL (takenB a b ys (l + 1)) 1 b n q = portsL (fun x => takenB a b xs l x || x == p) 1 b n q := by
      intro n
      induction n with
      | zero => intro q _; rfl
      | succ n ih =>
        intro q ha
        rw [portsL, portsL, ih (q + 1) (by omega)]
        by_cases hb : q ≤ b
        · rw [if_pos hb, if_pos hb, hq q ha hb]
        · rw [if_neg hb, if_neg hb]
    exact go _ _ (Nat.le_refl _)
  rw [hc]
  have := free_less (F := takenB a b xs l) (hi := b) (p := p) h2 hF (b + 1) a (by omega)
  rw [if_pos h1] at this
  exact this
theorem poolFree_nil {a b : Nat} {xs : Nat → Int} (hr : rightB a b = true) : poolFree a b xs 0 = b + 1 - a := by
  unfold poolFree poolL
  rw [if_pos hr]
  simp only [Int.toNat_natCast]
  have : takenB a b xs 0 = fun _ => false := by funext x; simp [takenB]
  rw [this]
  exact free_none b (b + 1) a (by omega)
/-- What is free is none of the taken. -/
theorem taken_none {a b l p : Nat} {xs : Nat → Int} (h1 : a ≤ p) (h2 : p ≤ b) (hF : takenB a b xs l p = false) : ∀ i, i < l → xs i ≠ (p : Int) := by
  intro i hi hx
  unfold takenB at hF
  simp only [decide_eq_false_iff_not] at hF
  exact hF ⟨by omega, by omega, i, hi, hx⟩
end Go.Proofs.Ytambpmbgfjefcaa
