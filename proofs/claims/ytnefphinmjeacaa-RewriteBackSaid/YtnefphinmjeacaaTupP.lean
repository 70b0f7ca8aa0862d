/- Plain laws about tuples: their bytes, their order, their hash. -/
import Derived.Test.YtnefphinmjeacaaBase
import Derived.Lib.BytesEntry
set_option linter.unusedVariables false
set_option maxRecDepth 100000
set_option linter.unusedSimpArgs false
namespace Go.Proofs.Ytnefphinmjeacaa
open Go.RowKit
/-- A tuple. -/
structure Tup where
  proto : Int
  src : Int
  sport : Int
  dst : Int
  dport : Int
deriving DecidableEq
structure TupWf (t : Tup) : Prop where
  src : 0 ≤ t.src ∧ t.src ≤ 4294967295
  dst : 0 ≤ t.dst ∧ t.dst ≤ 4294967295
def portB (n : Int) : Bool := decide (0 ≤ n) && decide (n ≤ 65535)
def tupRight (t : Tup) : Bool := decide (0 ≤ t.proto) && decide (t.proto ≤ 255) && portB t.sport && portB t.dport
def tupTurn (t : Tup) : Tup := ⟨t.proto, t.dst, t.dport, t.src, t.sport⟩
/-- The six bytes of a side. -/
def sideL (a p : Int) : List Int := [a / 16777216, a / 65536 % 256, a / 256 % 256, a % 256, p / 256 % 256, p % 256]
def tupRaw (t : Tup) : List Int := t.proto % 256 :: (sideL t.src t.sport ++ sideL t.dst t.dport)
/-- The numbers of a tuple. -/
def tupNums (t : Tup) : List Int := [t.proto % 256, t.src, t.sport % 65536, t.dst, t.dport % 65536]
/-- Does a list stand ahead of another one (as long)? -/
def lexL : List Int → List Int → Bool
  | [], _ => false
  | _ :: _, [] => false
  | x :: xs, y :: ys => if x = y then lexL xs ys else decide (x < y)
def tupLess (a b : Tup) : Bool := lexL (tupNums a) (tupNums b)
theorem tupRaw_byte {t : Tup} (h : TupWf t) : ∀ x ∈ tupRaw t, 0 ≤ x ∧ x ≤ 255 := by
  intro x hx
  have h1 := h.src
  have h2 := h.dst
  simp only [tupRaw, sideL, List.cons_append, List.nil_append, List.mem_cons, List.not_mem_nil, or_false] at hx
  omega
theorem cmp_lex : ∀ (xs ys : List Int), xs.length = ys.length → (∀ x ∈ xs, 0 ≤ x ∧ x ≤ 255) → (∀ y ∈ ys, 0 ≤ y ∧ y ≤ 255) → decide (Lib.compareBytes (Lib.bytesOf xs) (Lib.bytesOf ys) < 0) = lexL xs ys
  | [], [], _, _, _ => rfl
  | [], _ :: _, h, _, _ => by simp at h
  | _ :: _, [], h, _, _ => by simp at h
  | x :: xs, y :: ys, h, hx, hy => by
    have ih := cmp_lex xs ys (by simpa using h) (fun z hz => hx z (List.mem_cons_of_mem _ hz)) (fun z hz => hy z (List.mem_cons_of_mem _ hz))
    have bx := hx x (List.mem_cons_self ..)
    have by' := hy y (List.mem_cons_self ..)
    have e : ∀ z : Int, 0 ≤ z ∧ z ≤ 255 → z.toNat.toUInt8.toNat = z.toNat := fun z hz => by
      show z.toNat % 256 = z.toNat
      omega
    have l1 : (x.toNat.toUInt8 < y.toNat.toUInt8) ↔ x < y := by rw [UInt8.lt_iff_toNat_lt, e x bx, e y by']; omega
    have l2 : (y.toNat.toUInt8 < x.toNat.toUInt8) ↔ y < x := by rw [UInt8.lt_iff_toNat_lt, e x bx, e y by']; omega
    show decide (Lib.compareBytes (x.toNat.toUInt8 :: Lib.bytesOf xs) (y.toNat.toUInt8 :: Lib.bytesOf ys) < 0) = _
    unfold Lib.compareBytes lexL
    by_cases h1 : x < y
    · rw [if_pos (l1.2 h1), if_neg (by omega)]; simp [h1]
    · rw [if_neg (fun hc => h1 (l1.1 hc))]
      by_cases h2 : y < x
      · rw [if_pos (l2.2 h2), if_neg (by omega)]; simp [h1]
      · rw [if_neg (fun hc => h2 (l2.1 hc)), if_pos (by omega)]; exact ih
theorem lex_side {a p b q : Int} (ha : 0 ≤ a ∧ a ≤ 4294967295) (hb : 0 ≤ b ∧ b ≤ 4294967295) (xs ys : List Int) :
    lexL (sideL a p ++ xs) (sideL b q ++ ys) = lexL (a :: p % 65536 :: xs) (b :: q % 65536 :: ys) := by
  simp only [sideL, List.cons_append, List.nil_append, lexL]
  generalize lexL xs ys = r
  split <;> (try split) <;> (try split) <;> (try split) <;> (try split) <;> (try split) <;> (try split) <;> (try split) <;> first | rfl | omega | (rw [Bool.eq_iff_iff]; simp only [decide_eq_true_eq]; omega)
theorem raw_lex {a b : Tup} (ha : TupWf a) (hb : TupWf b) : lexL (tupRaw a) (tupRaw b) = tupLess a b := by
  unfold tupLess tupRaw tupNums
  rw [← List.append_nil (sideL a.dst a.dport), ← List.append_nil (sideL b.dst b.dport)]
  show (if a.proto % 256 = b.proto % 256 then lexL (sideL a.src a.sport ++ (sideL a.dst a.dport ++ [])) (sideL b.src b.sport ++ (sideL b.dst b.dport ++ [])) else decide (a.proto % 256 < b.proto % 256)) = _
  rw [lex_side ha.src hb.src]
  conv => rhs; unfold lexL
  congr 1
  conv => lhs; unfold lexL
  conv => rhs; unfold lexL
  congr 1
  conv => lhs; unfold lexL
  conv => rhs; unfold lexL
  congr 1
  exact lex_side ha.dst hb.dst [] []
/-- The order. -/
theorem lexL_irr : ∀ xs : List Int, lexL xs xs = false
  | [] => rfl
  | x :: xs => by unfold lexL; rw [if_pos rfl]; exact lexL_irr xs
theorem lexL_asym : ∀ xs ys : List Int, lexL xs ys = true → lexL ys xs = false
  | [], _, h => by cases h
  | _ :: _, [], h => by cases h
  | x :: xs, y :: ys, h => by
    unfold lexL at h ⊢
    split at h
    · rename_i e; rw [if_pos e.symm]; exact lexL_asym xs ys h
    · rename_i e; rw [if_neg (fun hc => e hc.symm)]; simp at h ⊢; omega
theorem lexL_total : ∀ xs ys : List Int, xs.length = ys.length → xs ≠ ys → lexL xs ys = true ∨ lexL ys xs = true
  | [], [], _, h => absurd rfl h
  | [], _ :: _, h, _ => by simp at h
  | _ :: _, [], h, _ => by simp at h
  | x :: xs, y :: ys, h, hne => by
    unfold lexL
    by_cases e : x = y
    · subst e
      rw [if_pos rfl, if_pos rfl]
      exact lexL_total xs ys (by simpa using h) (fun hc => hne (by rw [hc]))
    · rw [if_neg e, if_neg (fun hc => e hc.symm)]; simp; omega
theorem lexL_trans : ∀ xs ys zs : List Int, lexL xs ys = true → lexL ys zs = true → lexL xs zs = true
  | [], _, _, h, _ => by cases h
  | _ :: _, [], _, h, _ => by cases h
  | _ :: _, _ :: _, [], _, h => by cases h
  | x :: xs, y :: ys, z :: zs, h, k => by
    unfold lexL at h k ⊢
    split at h
    · rename_i e
      subst e
      split at k
      · rename_i e2; rw [if_pos e2]; exact lexL_trans xs ys zs h k
      · rename_i e2; rw [if_neg e2]; exact k
    · rename_i e
      simp at h
      split at k
      · rename_i e2; subst e2; rw [if_neg e]; simpa using h
      · rename_i e2; simp at k; rw [if_neg (by omega)]; simp; omega
theorem tupRight_of {t : Tup} (h : tupRight t = true) : (0 ≤ t.proto ∧ t.proto ≤ 255) ∧ (0 ≤ t.sport ∧ t.sport ≤ 65535) ∧ (0 ≤ t.dport ∧ t.dport ≤ 65535) := by
  unfold tupRight portB at h
  simp only [Bool.and_eq_true, decide_eq_true_eq] at h
  omega
theorem nums_inj {a b : Tup} (ha : tupRight a = true) (hb : tupRight b = true) (h : tupNums a = tupNums b) : a = b := by
  have h1 := tupRight_of ha
  have h2 := tupRight_of hb
  obtain ⟨p, s, sp, d, dp⟩ := a
  obtain ⟨p', s', sp', d', dp'⟩ := b
  simp only [tupNums, List.cons.injEq, and_true] at h
  simp only at h1 h2
  simp only [Tup.mk.injEq]
  omega
/-- One step of the hash. -/
def hashStep (h c : Int) : Int := ((h.toNat ^^^ c.toNat : Nat) : Int) * 16777619 % 4294967296
def tupHash (t : Tup) (seed : Int) : Int := (tupRaw t).foldl hashStep ((2166136261 ^^^ seed.toNat : Nat) : Int)
end Go.Proofs.Ytnefphinmjeacaa
