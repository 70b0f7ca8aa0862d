/- Tallies in memory; their order. -/
import Derived.Test.YteoommoolmddaaaDoorOwn
import Derived.Test.YteoommoolmddaaaDoorOwn2
import Derived.Test.YteoommoolmddaaaDoorLift2
import Derived.Test.YteoommoolmddaaaDoorBits
import Derived.Test.YteoommoolmddaaaDoorMix
set_option linter.unusedVariables false
set_option maxRecDepth 100000
set_option linter.unusedSimpArgs false
namespace Go.Proofs.YteoommoolmddaaaDoor
open Go.RowKit
/-- A tally. -/
structure Tl where
  zone : Int
  ver : Int
  n : Int
  b : Int
deriving DecidableEq
def Tl.cells (x : Tl) : List Value := [.int .i64 x.zone, .int .i64 x.ver, .int .i64 x.n, .int .i64 x.b]
abbrev Tl.val (x : Tl) : Value := .agg #[.int .i64 x.zone, .int .i64 x.ver, .int .i64 x.n, .int .i64 x.b]
/-- Tallies in memory. -/
def TsAt (w : World) (oa : Option Addr) (L : List Tl) : Prop := ∀ i x, L[i]? = some x → ∃ b off, oa = some ⟨b, off, none⟩ ∧ b < w.heap.size ∧
  w.cell? ⟨b, off + i * 4, none⟩ = some (.int .i64 x.zone) ∧ w.cell? ⟨b, off + i * 4 + 1, none⟩ = some (.int .i64 x.ver) ∧ w.cell? ⟨b, off + i * 4 + 2, none⟩ = some (.int .i64 x.n) ∧ w.cell? ⟨b, off + i * 4 + 3, none⟩ = some (.int .i64 x.b)
theorem TsAt.on {w w' : World} {oa : Option Addr} {L : List Tl} (h : TsAt w oa L) (hj : Junk w w') : TsAt w' oa L := fun i x hx => by
  obtain ⟨b, off, he, hlt, h0, h1, h2, h3⟩ := h i x hx
  have hb := hj.below (Nat.le_refl _)
  exact ⟨b, off, he, Nat.lt_of_lt_of_le hlt hb.size, (hb.cell (p := ⟨b, _, none⟩) hlt).trans h0, (hb.cell (p := ⟨b, _, none⟩) hlt).trans h1, (hb.cell (p := ⟨b, _, none⟩) hlt).trans h2, (hb.cell (p := ⟨b, _, none⟩) hlt).trans h3⟩
theorem TsAt.take {w : World} {oa : Option Addr} {L : List Tl} (h : TsAt w oa L) (k : Nat) : TsAt w oa (L.take k) := fun i x hx => h i x (by
  rw [List.getElem?_take] at hx
  split at hx
  · exact hx
  · cases hx)
theorem TsAt.nil (w : World) (oa : Option Addr) : TsAt w oa [] := fun i x hx => by simp at hx
def tlsL (L : List Tl) : List Value := (L.map Tl.cells).flatten
theorem Tl.cells_len (x : Tl) : x.cells.length = 4 := rfl
theorem tlsL_nil : tlsL [] = [] := rfl
theorem tlsL_cons (x : Tl) (L : List Tl) : tlsL (x :: L) = x.cells ++ tlsL L := rfl
theorem tlsL_app (L M : List Tl) : tlsL (L ++ M) = tlsL L ++ tlsL M := by unfold tlsL; rw [List.map_append, List.flatten_append]
theorem tlsL_len : ∀ L : List Tl, (tlsL L).length = L.length * 4
  | [] => rfl
  | x :: L => by rw [tlsL_cons, List.length_append, tlsL_len L, Tl.cells_len, List.length_cons]; omega
theorem tlsL_one (L : List Tl) (x : Tl) : tlsL L ++ x.cells = tlsL (L ++ [x]) := by rw [tlsL_app]; rw [tlsL_cons, tlsL_nil, List.append_nil]
theorem tlsL_get : ∀ (L : List Tl) (i : Nat) (x : Tl), L[i]? = some x → ∀ j, j < 4 → (tlsL L)[i * 4 + j]? = x.cells[j]?
  | [], i, x, h, _, _ => by simp at h
  | g :: L, 0, x, h, j, hj => by
    simp only [List.getElem?_cons_zero, Option.some.injEq] at h
    subst h
    rw [tlsL_cons, Nat.zero_mul, Nat.zero_add, List.getElem?_append_left (by rw [Tl.cells_len]; exact hj)]
  | g :: L, i + 1, x, h, j, hj => by
    rw [List.getElem?_cons_succ] at h
    rw [tlsL_cons, List.getElem?_append_right (by rw [Tl.cells_len]; omega), Tl.cells_len, show (i + 1) * 4 + j - 4 = i * 4 + j by omega]
    exact tlsL_get L i x h j hj
theorem tlsL_take (M : List Tl) (m : Nat) : (tlsL M).take (m * 4) = tlsL (M.take m) := by
  by_cases h : m ≤ M.length
  · conv => lhs; rw [← List.take_append_drop m M, tlsL_app]
    rw [List.take_append_of_le_length (by rw [tlsL_len, List.length_take]; omega), List.take_of_length_le (by rw [tlsL_len, List.length_take]; omega)]
  · rw [List.take_of_length_le (by rw [tlsL_len]; omega), List.take_of_length_le (by omega)]
theorem own_ts {B : Nat} {w : World} {e : TypeId} {oa : Option Addr} {cap n : Nat} {L : List Tl} (h : Own B w e 4 oa cap n (tlsL L)) : TsAt w oa L := fun i x hx => by
  have hk : ∀ k v, k < 4 → x.cells[k]? = some v → ∃ g, oa = some ⟨g, 0, none⟩ ∧ g < w.heap.size ∧ w.cell? ⟨g, 0 + i * 4 + k, none⟩ = some v := fun k v hk hv => by
    obtain ⟨g', h1, _, h3, h2, _⟩ := h.cells (i * 4 + k) v (by rw [tlsL_get L i x hx k hk]; exact hv)
    exact ⟨g', h1, h3, by rw [Nat.zero_add]; exact h2⟩
  obtain ⟨g, h1, h2, c0⟩ := hk 0 _ (by decide) rfl
  obtain ⟨g1, e1, _, c1⟩ := hk 1 _ (by decide) rfl
  obtain ⟨g2, e2, _, c2⟩ := hk 2 _ (by decide) rfl
  obtain ⟨g3, e3, _, c3⟩ := hk 3 _ (by decide) rfl
  rw [h1] at e1 e2 e3
  cases e1; cases e2; cases e3
  exact ⟨g, 0, h1, h2, c0, c1, c2, c3⟩
theorem Tl.one (x : Tl) : ∀ u ∈ x.cells, u.oneCell' = true := by intro u hu; simp only [Tl.cells, List.mem_cons, List.not_mem_nil, or_false] at hu; rcases hu with rfl | rfl | rfl | rfl <;> rfl
theorem tlsL_one' (L : List Tl) : ∀ u ∈ tlsL L, u.oneCell' = true := by
  intro u hu
  simp only [tlsL, List.mem_flatten, List.mem_map] at hu
  obtain ⟨l, ⟨x, _, rfl⟩, hu⟩ := hu
  exact x.one u hu
/-- The cells of tallies, as a source. -/
theorem TsAt.src {w : World} {oa : Option Addr} {L : List Tl} (h : TsAt w oa L) : ∀ ad, oa = some ad → ∀ j u, (tlsL L)[j]? = some u → w.cell? (ad.add j) = some u := by
  intro ad had j u hu
  have hj : j < L.length * 4 := by rw [← tlsL_len]; exact (List.getElem?_eq_some_iff.1 hu).1
  obtain ⟨i, k, hk, rfl⟩ : ∃ i k, k < 4 ∧ j = i * 4 + k := ⟨j / 4, j % 4, by omega, by omega⟩
  have hi : i < L.length := by omega
  have hx : L[i]? = some L[i] := List.getElem?_eq_getElem hi
  rw [tlsL_get L i _ hx k hk] at hu
  obtain ⟨b, off, he, _, h0, h1, h2, h3⟩ := h i _ hx
  rw [had] at he
  cases he
  rw [Addr.add_lit]
  rw [← Nat.add_assoc]
  rcases k with _ | _ | _ | _ | k
  · simp [Tl.cells] at hu; rw [← hu]; exact h0
  · simp [Tl.cells] at hu; rw [← hu]; exact h1
  · simp [Tl.cells] at hu; rw [← hu]; exact h2
  · simp [Tl.cells] at hu; rw [← hu]; exact h3
  · omega
/-! ### The order. -/
def cmpI (x y : Int) : Int := if x < y then -1 else if y < x then 1 else 0
def ordI (a b : Tl) : Int := if cmpI a.zone b.zone ≠ 0 then cmpI a.zone b.zone else cmpI a.ver b.ver
def tlLess (a b : Tl) : Bool := decide (a.zone < b.zone ∨ (a.zone = b.zone ∧ a.ver < b.ver))
theorem ordI_neg (a b : Tl) : ordI a b < 0 ↔ tlLess a b = true := by
  unfold ordI cmpI tlLess
  rw [decide_eq_true_eq]
  repeat' split
  all_goals omega
theorem ordI_zero (a b : Tl) : ordI a b = 0 ↔ a.zone = b.zone ∧ a.ver = b.ver := by
  unfold ordI cmpI
  repeat' split
  all_goals omega
theorem ordI_cases (a b : Tl) : ordI a b = -1 ∨ ordI a b = 0 ∨ ordI a b = 1 := by
  unfold ordI cmpI
  repeat' split
  all_goals omega
theorem tlLess_trans {a b c : Tl} (h1 : tlLess a b = true) (h2 : tlLess b c = true) : tlLess a c = true := by
  unfold tlLess at *
  rw [decide_eq_true_eq] at *
  omega
theorem tlLess_irr (a : Tl) : tlLess a a = false := by
  unfold tlLess
  rw [decide_eq_false_iff_not]
  omega
theorem tlLess_not {a b : Tl} (h : tlLess a b = true) : tlLess b a = false := by
  unfold tlLess at *
  rw [decide_eq_true_eq] at h
  rw [decide_eq_false_iff_not]
  omega
/-- Tallies in their order. -/
def TlSorted (L : List Tl) : Prop := ∀ (i j : Nat) (x y : Tl), i < j → L[i]? = some x → L[j]? = some y → tlLess x y = true
def tlOk (x : Tl) : Bool := decide (1 ≤ x.n) && decide (x.n ≤ 1099511627776) && decide (0 ≤ x.b) && decide (x.b ≤ 1099511627776)
def tlRight (L : List Tl) : Bool := decide (∀ i, i < L.length → ∀ x, L[i]? = some x → tlOk x = true ∧ (0 < i → ∀ y, L[i - 1]? = some y → tlLess y x = true))
theorem sorted_of {L : List Tl} (h : tlRight L = true) : TlSorted L := by
  unfold tlRight at h
  rw [decide_eq_true_eq] at h
  intro i j x y hij hx hy
  obtain ⟨d, rfl⟩ : ∃ d, j = i + d + 1 := ⟨j - i - 1, by omega⟩
  clear hij
  induction d generalizing y with
  | zero =>
    have hl := (List.getElem?_eq_some_iff.1 hy).1
    exact (h (i + 0 + 1) hl y hy).2 (by omega) x (by rw [Nat.add_sub_cancel]; exact hx)
  | succ d ih =>
    have hl := (List.getElem?_eq_some_iff.1 hy).1
    have hz : L[i + d + 1]? = some L[i + d + 1] := List.getElem?_eq_getElem (by omega)
    have h1 := ih _ hz
    have h2 := (h (i + (d + 1) + 1) hl y hy).2 (by omega) _ (by rw [show i + (d + 1) + 1 - 1 = i + d + 1 by omega]; exact hz)
    exact tlLess_trans h1 h2
end Go.Proofs.YteoommoolmddaaaDoor
