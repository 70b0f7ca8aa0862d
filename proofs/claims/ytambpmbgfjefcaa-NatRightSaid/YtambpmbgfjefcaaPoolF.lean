/- What PoolFree says of a choice, without the program. -/
import Derived.Test.YtambpmbgfjefcaaPoolP
import Derived.Test.YtambpmbgfjefcaaPoolDraws
import Derived.Test.YtambpmbgfjefcaaPoolAll
set_option linter.unusedVariables false
set_option maxRecDepth 100000
set_option linter.unusedSimpArgs false
namespace Go.Proofs.Ytambpmbgfjefcaa
open Go.RowKit
theorem portsL_all {F : Nat → Bool} {step hi : Nat} (hs : 0 < step) : ∀ (n p x : Nat), hi + 1 ≤ n + p → p ≤ x → (x - p) % step = 0 → x ≤ hi → F x = false → x ∈ portsL F step hi n p
  | 0, p, x, h, h1, h2, h3, h4 => by omega
  | n + 1, p, x, h, h1, h2, h3, h4 => by
    rw [portsL, if_pos (by omega)]
    by_cases he : x = p
    · subst he
      rw [if_neg (by simp [h4])]
      exact List.mem_cons_self ..
    · have h5 : p + step ≤ x := by
        have := Nat.le_of_dvd (by omega) (Nat.dvd_of_mod_eq_zero h2)
        omega
      have := portsL_all hs n (p + step) x (by omega) h5 (by rw [show x - p = (x - (p + step)) + step by omega, Nat.add_mod_right] at h2; exact h2) h3 h4
      split
      · exact this
      · exact List.mem_cons_of_mem _ this
theorem firstP_par (a : Nat) (wish : Int) : (firstP a wish : Int) % 2 = wish % 2 ∧ a ≤ firstP a wish ∧ firstP a wish ≤ a + 1 := by
  unfold firstP
  split <;> omega
/-- The wished one, if it is free; of the wished parity, if there is a free one of it. -/
theorem choose_par {a b l D q p : Nat} {xs : Nat → Int} {wish : Int} (hr : rightB a b = true) (hc : poolChoose a b xs l wish D = ((p : Int), true)) (h1 : a ≤ q) (h2 : q ≤ b) (hF : takenB a b xs l q = false) :
    ((q : Int) = wish → (p : Int) = wish) ∧ ((q : Int) % 2 = wish % 2 → (p : Int) % 2 = wish % 2) := by
  unfold poolChoose poolL at hc
  rw [if_neg (by simp [hr])] at hc
  simp only [Int.toNat_natCast] at hc
  split at hc
  · injection hc with e _
    subst e
    exact ⟨fun _ => rfl, fun _ => rfl⟩
  · rename_i hw
    refine ⟨fun e => absurd ⟨by omega, by omega, by rw [← e]; exact hF⟩ hw, fun e => ?_⟩
    obtain ⟨f1, f2, f3⟩ := firstP_par a wish
    have hm : q ∈ freeL (takenB a b xs l) 2 b (firstP a wish) := portsL_all (by decide) _ _ _ (by omega) (by omega) (by omega) h2 hF
    rw [if_pos (List.length_pos_of_mem hm)] at hc
    injection hc with e2 _
    obtain ⟨m1, m2, m3, m4⟩ := freeL_mem (getD_mem (Nat.mod_lt D (List.length_pos_of_mem hm)))
    rw [← e2]
    omega
theorem own_mk {B : Nat} (w : World) (e : TypeId) (size cap n : Nat) (cur : Array Value) (hn : n = w.heap.size) (hb : B ≤ w.heap.size) (hm : cap ≤ maxLen) (hs : cur.size = cap * size) : Own B (w.alloc (.cells cur e)) e size (some ⟨n, 0, none⟩) cap 0 [] := by
  subst hn; exact World.ownsRow_made w cur cap hb hm hs
theorem wrap_par (x : Int) : ((wrap64 x).tmod 2 == 0) = (x % 2 == 0) := by
  rw [Bool.eq_iff_iff]
  simp only [beq_iff_eq]
  unfold wrap64
  rw [Int.tmod_eq_emod]
  split <;> omega
theorem poolFree_le (a b l : Nat) (xs : Nat → Int) : poolFree a b xs l ≤ b + 1 := by
  unfold poolFree poolL
  split
  · have := freeL_len (takenB a b xs l) 1 b (b + 1) a
    simpa [freeL] using this
  · omega
theorem wrap64_nat (n : Nat) (h : n ≤ 65536) : wrap64 (n : Int) = (n : Int) := by unfold wrap64; omega
theorem cast_sub1 {F F1 : Nat} (h : F1 = F - 1) (h0 : 0 < F) : (F : Int) - 1 = (F1 : Int) := by omega
theorem nat_sub1 {F F1 : Nat} (h : F1 = F - 1) (h0 : F ≤ 65536) : F1 ≤ 65536 := by omega
theorem nat_sub2 {F G : Nat} (h : G + 1 = F) : G = F - 1 := by omega
theorem choose_no {lo hi : Int} {l D : Nat} {xs : Nat → Int} {wish : Int} (h : (poolChoose lo hi xs l wish D).2 = false) : poolChoose lo hi xs l wish D = (0, false) := by
  unfold poolChoose at h ⊢
  split
  · rfl
  · rename_i h0
    rw [if_neg h0] at h
    split
    · rename_i h1; rw [if_pos h1] at h; cases h
    · rename_i h1
      rw [if_neg h1] at h
      split
      · rename_i h2; rw [if_pos h2] at h; cases h
      · rename_i h2
        rw [if_neg h2] at h
        split
        · rename_i h3; rw [if_pos h3] at h; cases h
        · rfl
end Go.Proofs.Ytambpmbgfjefcaa
