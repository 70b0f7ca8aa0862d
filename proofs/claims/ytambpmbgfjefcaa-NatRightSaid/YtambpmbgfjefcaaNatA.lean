/- Loans in memory; the small contracts of layer 17. -/
import Derived.Test.YtambpmbgfjefcaaPoolR
set_option linter.unusedVariables false
set_option maxRecDepth 100000
set_option linter.unusedSimpArgs false
namespace Go.Proofs.Ytambpmbgfjefcaa
open Go.RowKit
/-- A loan. -/
structure Ln where
  proto : Int
  inn : Int
  inport : Int
  port : Int
  till : Int
deriving DecidableEq
def Ln.cells (x : Ln) : List Value := [.int .i64 x.proto, .int .u32 x.inn, .int .i64 x.inport, .int .i64 x.port, .int .i64 x.till]
abbrev Ln.val (x : Ln) : Value := .agg #[.int .i64 x.proto, .int .u32 x.inn, .int .i64 x.inport, .int .i64 x.port, .int .i64 x.till]
/-- Loans in memory. -/
def LsAt (w : World) (oa : Option Addr) (L : List Ln) : Prop := ∀ i x, L[i]? = some x → ∃ b off, oa = some ⟨b, off, none⟩ ∧ b < w.heap.size ∧
  w.cell? ⟨b, off + i * 5, none⟩ = some (.int .i64 x.proto) ∧ w.cell? ⟨b, off + i * 5 + 1, none⟩ = some (.int .u32 x.inn) ∧ w.cell? ⟨b, off + i * 5 + 2, none⟩ = some (.int .i64 x.inport) ∧ w.cell? ⟨b, off + i * 5 + 3, none⟩ = some (.int .i64 x.port) ∧ w.cell? ⟨b, off + i * 5 + 4, none⟩ = some (.int .i64 x.till)
theorem LsAt.on {w w' : World} {oa : Option Addr} {L : List Ln} (h : LsAt w oa L) (hj : Junk w w') : LsAt w' oa L := fun i x hx => by
  obtain ⟨b, off, he, hlt, h0, h1, h2, h3, h4⟩ := h i x hx
  have hb := hj.below (Nat.le_refl _)
  exact ⟨b, off, he, Nat.lt_of_lt_of_le hlt hb.size, (hb.cell (p := ⟨b, _, none⟩) hlt).trans h0, (hb.cell (p := ⟨b, _, none⟩) hlt).trans h1, (hb.cell (p := ⟨b, _, none⟩) hlt).trans h2, (hb.cell (p := ⟨b, _, none⟩) hlt).trans h3, (hb.cell (p := ⟨b, _, none⟩) hlt).trans h4⟩
theorem LsAt.take {w : World} {oa : Option Addr} {L : List Ln} (h : LsAt w oa L) (k : Nat) : LsAt w oa (L.take k) := fun i x hx => h i x (by
  rw [List.getElem?_take] at hx
  split at hx
  · exact hx
  · cases hx)
theorem LsAt.nil (w : World) (oa : Option Addr) : LsAt w oa [] := fun i x hx => by simp at hx
def lnsL (L : List Ln) : List Value := (L.map Ln.cells).flatten
theorem Ln.cells_len (x : Ln) : x.cells.length = 5 := rfl
theorem lnsL_cons (x : Ln) (L : List Ln) : lnsL (x :: L) = x.cells ++ lnsL L := rfl
theorem lnsL_len : ∀ L : List Ln, (lnsL L).length = L.length * 5
  | [] => rfl
  | x :: L => by rw [lnsL_cons, List.length_append, lnsL_len L, Ln.cells_len, List.length_cons]; omega
theorem lnsL_one (L : List Ln) (x : Ln) : lnsL L ++ x.cells = lnsL (L ++ [x]) := by unfold lnsL; rw [List.map_append, List.flatten_append]; simp
theorem lnsL_get : ∀ (L : List Ln) (i : Nat) (x : Ln), L[i]? = some x → ∀ j, j < 5 → (lnsL L)[i * 5 + j]? = x.cells[j]?
  | [], i, x, h, _, _ => by simp at h
  | g :: L, 0, x, h, j, hj => by
    simp only [List.getElem?_cons_zero, Option.some.injEq] at h
    subst h
    rw [lnsL_cons, Nat.zero_mul, Nat.zero_add, List.getElem?_append_left (by rw [Ln.cells_len]; exact hj)]
  | g :: L, i + 1, x, h, j, hj => by
    rw [List.getElem?_cons_succ] at h
    rw [lnsL_cons, List.getElem?_append_right (by rw [Ln.cells_len]; omega), Ln.cells_len, show (i + 1) * 5 + j - 5 = i * 5 + j by omega]
    exact lnsL_get L i x h j hj
theorem own_ls {B : Nat} {w : World} {e : TypeId} {oa : Option Addr} {cap n : Nat} {L : List Ln} (h : Own B w e 5 oa cap n (lnsL L)) : LsAt w oa L := fun i x hx => by
  have hk : ∀ k v, k < 5 → x.cells[k]? = some v → ∃ g, oa = some ⟨g, 0, none⟩ ∧ g < w.heap.size ∧ w.cell? ⟨g, 0 + i * 5 + k, none⟩ = some v := fun k v hk hv => by
    obtain ⟨g', h1, _, h3, h2, _⟩ := h.cells (i * 5 + k) v (by rw [lnsL_get L i x hx k hk]; exact hv)
    exact ⟨g', h1, h3, by rw [Nat.zero_add]; exact h2⟩
  obtain ⟨g, h1, h2, c0⟩ := hk 0 _ (by decide) rfl
  obtain ⟨g1, e1, _, c1⟩ := hk 1 _ (by decide) rfl
  obtain ⟨g2, e2, _, c2⟩ := hk 2 _ (by decide) rfl
  obtain ⟨g3, e3, _, c3⟩ := hk 3 _ (by decide) rfl
  obtain ⟨g4, e4, _, c4⟩ := hk 4 _ (by decide) rfl
  rw [h1] at e1 e2 e3 e4
  cases e1; cases e2; cases e3; cases e4
  exact ⟨g, 0, h1, h2, c0, c1, c2, c3, c4⟩
theorem Ln.one (x : Ln) : ∀ u ∈ x.cells, u.oneCell' = true := by intro u hu; simp only [Ln.cells, List.mem_cons, List.not_mem_nil, or_false] at hu; rcases hu with rfl | rfl | rfl | rfl | rfl <;> rfl
theorem lnsL_one' (L : List Ln) : ∀ u ∈ lnsL L, u.oneCell' = true := by
  intro u hu
  simp only [lnsL, List.mem_flatten, List.mem_map] at hu
  obtain ⟨l, ⟨x, _, rfl⟩, hu⟩ := hu
  exact x.one u hu
/-- The cells of loans, as a source. -/
theorem LsAt.src {w : World} {oa : Option Addr} {L : List Ln} (h : LsAt w oa L) : ∀ ad, oa = some ad → ∀ j u, (lnsL L)[j]? = some u → w.cell? (ad.add j) = some u := by
  intro ad had j u hu
  have hj : j < L.length * 5 := by rw [← lnsL_len]; exact (List.getElem?_eq_some_iff.1 hu).1
  obtain ⟨i, k, hk, rfl⟩ : ∃ i k, k < 5 ∧ j = i * 5 + k := ⟨j / 5, j % 5, by omega, by omega⟩
  have hi : i < L.length := by omega
  have hx : L[i]? = some L[i] := List.getElem?_eq_getElem hi
  rw [lnsL_get L i _ hx k hk] at hu
  obtain ⟨b, off, he, _, h0, h1, h2, h3, h4⟩ := h i _ hx
  rw [had] at he
  cases he
  rw [Addr.add_lit]
  rw [← Nat.add_assoc]
  rcases k with _ | _ | _ | _ | _ | k
  · simp [Ln.cells] at hu; rw [← hu]; exact h0
  · simp [Ln.cells] at hu; rw [← hu]; exact h1
  · simp [Ln.cells] at hu; rw [← hu]; exact h2
  · simp [Ln.cells] at hu; rw [← hu]; exact h3
  · simp [Ln.cells] at hu; rw [← hu]; exact h4
  · omega
def withinB (n lo hi : Int) : Bool := decide (lo ≤ n ∧ n ≤ hi)
theorem within_any (n lo hi : Int) (w : World) : Calls Try.prog 35 #[.int .i64 n, .int .i64 lo, .int .i64 hi] w fun e w' => e = .returned (.bool (withinB n lo hi)) ∧ w = w' := by
  by_cases h1 : lo ≤ n
  · go_enter Try.func35, Try.ntmps35
    go_wp2
    go_ret
    exact ⟨ret_bool (by simp [withinB, h1]), rfl⟩
  · go_enter Try.func35, Try.ntmps35
    go_wp2
    go_ret
    exact ⟨ret_bool (by simp [withinB]; omega), rfl⟩
def namedB (x : Ln) : Bool := withinB x.proto 0 255 && withinB x.inport 0 65535 && withinB x.till 0 1099511627776
theorem named_any (x : Ln) (w : World) : Calls Try.prog 34 #[x.val] w fun e w' => e = .returned (.bool (namedB x)) ∧ Junk w w' := by
  obtain ⟨xp, xi, xn, xo, xt⟩ := x
  cases h1 : withinB xp 0 255 with
  | false =>
    go_enter Try.func34, Try.ntmps34
    go_wp2_with (first | (go_at_call 35; refine (within_any _ _ _ _).mono ?_; rintro e w' ⟨rfl, rfl⟩; (try rw [h1])))
    go_ret
    exact ⟨ret_bool (by simp [namedB, h1]), by (repeat (first | with_reducible exact Junk.refl _ | with_reducible exact Junk.app _ _ _ _ _ | with_reducible apply Junk.alloc | with_reducible apply Junk.junk | with_reducible apply Junk.drew | with_reducible apply Junk.drewN))⟩
  | true =>
    cases h2 : withinB xn 0 65535 with
    | false =>
      go_enter Try.func34, Try.ntmps34
      go_wp2_with (first | (go_at_call 35; refine (within_any _ _ _ _).mono ?_; rintro e w' ⟨rfl, rfl⟩; (try rw [h1]); (try rw [h2])))
      go_ret
      exact ⟨ret_bool (by simp [namedB, h1, h2]), by (repeat (first | with_reducible exact Junk.refl _ | with_reducible exact Junk.app _ _ _ _ _ | with_reducible apply Junk.alloc | with_reducible apply Junk.junk | with_reducible apply Junk.drew | with_reducible apply Junk.drewN))⟩
    | true =>
      go_enter Try.func34, Try.ntmps34
      go_wp2_with (first | (go_at_call 35; refine (within_any _ _ _ _).mono ?_; rintro e w' ⟨rfl, rfl⟩; (try rw [h1]); (try rw [h2])))
      go_ret
      exact ⟨ret_bool (by simp [namedB, h1, h2]), by (repeat (first | with_reducible exact Junk.refl _ | with_reducible exact Junk.app _ _ _ _ _ | with_reducible apply Junk.alloc | with_reducible apply Junk.junk | with_reducible apply Junk.drew | with_reducible apply Junk.drewN))⟩
def outerB (x y : Ln) : Bool := x.proto == y.proto && x.port == y.port
def innerB (x y : Ln) : Bool := x.proto == y.proto && x.inn == y.inn && x.inport == y.inport
theorem outer_any (x y : Ln) (w : World) : Calls Try.prog 37 #[x.val, y.val] w fun e w' => e = .returned (.bool (outerB x y)) ∧ Junk w w' := by
  cases h1 : x.proto == y.proto with
  | false =>
    go_enter Try.func37, Try.ntmps37
    go_wp2
    go_ret
    exact ⟨ret_bool (by simp [outerB, h1]), by (repeat (first | with_reducible exact Junk.refl _ | with_reducible exact Junk.app _ _ _ _ _ | with_reducible apply Junk.alloc | with_reducible apply Junk.junk | with_reducible apply Junk.drew | with_reducible apply Junk.drewN))⟩
  | true =>
    go_enter Try.func37, Try.ntmps37
    go_wp2
    go_ret
    exact ⟨ret_bool (by simp [outerB, h1]), by (repeat (first | with_reducible exact Junk.refl _ | with_reducible exact Junk.app _ _ _ _ _ | with_reducible apply Junk.alloc | with_reducible apply Junk.junk | with_reducible apply Junk.drew | with_reducible apply Junk.drewN))⟩
theorem inner_any (x y : Ln) (w : World) : Calls Try.prog 38 #[x.val, y.val] w fun e w' => e = .returned (.bool (innerB x y)) ∧ Junk w w' := by
  cases h1 : x.proto == y.proto with
  | false =>
    go_enter Try.func38, Try.ntmps38
    go_wp2
    go_ret
    exact ⟨ret_bool (by simp [innerB, h1]), by (repeat (first | with_reducible exact Junk.refl _ | with_reducible exact Junk.app _ _ _ _ _ | with_reducible apply Junk.alloc | with_reducible apply Junk.junk | with_reducible apply Junk.drew | with_reducible apply Junk.drewN))⟩
  | true =>
    cases h2 : x.inn == y.inn with
    | false =>
      go_enter Try.func38, Try.ntmps38
      go_wp2
      go_ret
      exact ⟨ret_bool (by simp [innerB, h1, h2]), by (repeat (first | with_reducible exact Junk.refl _ | with_reducible exact Junk.app _ _ _ _ _ | with_reducible apply Junk.alloc | with_reducible apply Junk.junk | with_reducible apply Junk.drew | with_reducible apply Junk.drewN))⟩
    | true =>
      go_enter Try.func38, Try.ntmps38
      go_wp2
      go_ret
      exact ⟨ret_bool (by simp [innerB, h1, h2]), by (repeat (first | with_reducible exact Junk.refl _ | with_reducible exact Junk.app _ _ _ _ _ | with_reducible apply Junk.alloc | with_reducible apply Junk.junk | with_reducible apply Junk.drew | with_reducible apply Junk.drewN))⟩
end Go.Proofs.Ytambpmbgfjefcaa
