/- Slices that the call itself has made: appended to, and read. -/
import Derived.Test.YtcnhlbkdhhjmiaaGreatDoorBase
import Derived.Laws.AppendOwnNone
set_option linter.unusedVariables false
set_option maxRecDepth 100000
namespace Go
open RowKit
/-- The slice ⟨oa, n, cap⟩ is the call's own: its block is one from 'B' on; its elements hold 'xs'. -/
def Own (B : Nat) (w : World) (e : TypeId) (size : Nat) (oa : Option Addr) (cap n : Nat) (xs : List Value) : Prop := w.ownsRow B e size (.slice oa n cap) n xs
section
variable {B : Nat} {w w' W0 : World} {e : TypeId} {size : Nat} {oa : Option Addr} {cap n : Nat} {xs : List Value}
theorem Own.nil (B : Nat) (w : World) (e : TypeId) (size : Nat) : Own B w e size none 0 0 [] := World.ownsRow_nil _ _ _ _
theorem Own.len (h : Own B w e size oa cap n xs) : xs.length = n * size := h.1
theorem Own.form (h : Own B w e size oa cap n xs) : (oa = none ∧ n = 0 ∧ cap = 0) ∨ ∃ g cur, oa = some ⟨g, 0, none⟩ ∧ B ≤ g ∧ w.heap[g]? = some (.cells cur e (0, 0)) ∧ n ≤ cap ∧ cap ≤ maxLen ∧ cur.size = cap * size ∧ cur.toList.take (n * size) = xs := by
  rcases h.2 with ⟨h1, h2⟩ | ⟨g, cap', cur, h1, hr⟩
  · simp only [Value.slice.injEq] at h1; exact .inl ⟨h1.1, h2, h1.2.2⟩
  · simp only [Value.slice.injEq, true_and] at h1; obtain ⟨h1, rfl⟩ := h1; exact .inr ⟨g, cur, h1, hr⟩
theorem Own.on (h : Own B w e size oa cap n xs) (hj : Junk w w') : Own B w' e size oa cap n xs := by
  obtain ⟨os, d, rfl⟩ := hj
  refine ⟨h.1, ?_⟩
  rcases h.2 with hn | ⟨g, cap', cur, h1, hb, hg, hr⟩
  · exact .inl hn
  · refine .inr ⟨g, cap', cur, h1, hb, ?_, hr⟩
    rw [World.heap_junk w os d (Array.getElem?_eq_some_iff.1 hg).1]
    exact hg
theorem Own.lower {B' : Nat} (h : Own B w e size oa cap n xs) (hB : B' ≤ B) : Own B' w e size oa cap n xs := by
  refine ⟨h.1, ?_⟩
  rcases h.2 with hn | ⟨g, cap', cur, h1, hb, hg, hr⟩
  · exact .inl hn
  · exact .inr ⟨g, cap', cur, h1, Nat.le_trans hB hb, hg, hr⟩
theorem Own.cells (h : Own B w e size oa cap n xs) : ∀ j u, xs[j]? = some u → ∃ g, oa = some ⟨g, 0, none⟩ ∧ B ≤ g ∧ g < w.heap.size ∧ w.cell? ⟨g, j, none⟩ = some u ∧ w.frozen? ⟨g, j, none⟩ = false := by
  intro j u hu
  rcases h.form with ⟨_, rfl, _⟩ | ⟨g, cur, rfl, hb, hg, _, _, _, ht⟩
  · have := h.len; simp at this; subst this; simp at hu
  · refine ⟨g, rfl, hb, (Array.getElem?_eq_some_iff.1 hg).1, ?_, ?_⟩
    · rw [cell_of_row w g j cur e (0, 0) hg]
      rw [← ht, List.getElem?_take] at hu
      split at hu
      · simpa using hu
      · cases hu
    · simp [World.frozen?, hg]
theorem Own.capLe (h : Own B w e size oa cap n xs) : n ≤ cap ∧ cap ≤ maxLen := by
  rcases h.form with ⟨_, rfl, rfl⟩ | ⟨g, cur, _, _, _, h1, h2, _⟩
  · exact ⟨Nat.le_refl _, Nat.zero_le _⟩
  · exact ⟨h1, h2⟩
theorem Own.ints {k : IntKind} {ys : List Int} (h : Own B w e 1 oa cap n (ys.map (Value.int k))) : IntsAt w oa n k (fun i => ys.getD i 0) := fun i hi => by
  have hl := h.len
  simp at hl
  obtain ⟨g, h1, _, h2, h3, _⟩ := h.cells i (.int k (ys.getD i 0)) (by rw [List.getElem?_map, List.getElem?_eq_getElem (by omega)]; simp [List.getD, List.getElem?_eq_getElem (show i < ys.length by omega)])
  exact ⟨g, 0, h1, h2, by simpa using h3⟩
theorem below_of_grown {row : Option Nat} (hj : Junk W0 w) (hg : w.grownBy w' row) (hr : ∀ k, row = some k → W0.heap.size ≤ k) : Junk W0 w' :=
  Junk.of_below ((hj.below (Nat.le_refl _)).grown hg hj.size hr)
/-- 'append(s, x...)', s the call's own. -/
theorem ap_own_wp {P : Program} {o : Oper} {a : Act} {K : Act → World → Prop} {Q : Exit → Act → World → Prop} (s x : Operand) (t : TypeId)
    (ho : o.op = .call { callee := .builtin .append, args := #[s, x], argTypes := #[t, t] })
    (e : TypeId) (z : Value) (size bytes : Nat) (hinfo : (P.info? e).map (fun i => (i.zero, i.size, i.bytes)) = some (some z, size, bytes)) (hzs : z.cells.size = size) (hsz : 0 < size) (ht : P.underlying t = some (.slice e))
    (hj : Junk W0 w) (oa : Option Addr) (cap n : Nat) (xs : List Value) (hs : a.eval s = .slice oa n cap) (hown : Own W0.heap.size w e size oa cap n xs)
    (oc : Option Addr) (m c : Nat) (hx : a.eval x = .slice oc m c) (news : List Value) (hl : news.length = m * size) (hnews : ∀ ad, oc = some ad → ∀ j u, news[j]? = some u → w.cell? (ad.add j) = some u)
    (hnone : oc = none → m = 0 ∧ c = 0) (h1 : ∀ u ∈ news, u.oneCell' = true) (hm : n + m ≤ maxLen) (hb : (n + m) * bytes ≤ 140737488355328)
    (h : ∀ oa' cap' os d, Own W0.heap.size (W0.junk os d) e size oa' cap' (n + m) (xs ++ news) → (oa' = none → oa = none ∧ m = 0) → K (a.put o.dst (.slice oa' (n + m) cap')) (W0.junk os d)) : o.wp P a w K Q := by
  obtain ⟨i, hi, hz0, hz1, hz2⟩ := info_parts hinfo
  cases oc with
  | none =>
    obtain ⟨rfl, rfl⟩ := hnone rfl
    obtain rfl : news = [] := List.eq_nil_of_length_eq_zero (by simpa using hl)
    have hrun := run_append_owned_none (P := P) (w := w) W0.heap.size t o.type e i size ht hi _ n xs hown
    obtain ⟨os, d, rfl⟩ := hj
    have := h oa cap os d (by simpa using hown) (fun h => ⟨h, rfl⟩)
    unfold Oper.wp
    simp only [execOp, ho, resolve, invoke, builtin, hs, hx, List.map_toArray, List.map_cons, List.map_nil, Sem.run_bind, hrun, Sem.run_pure, Result.andThen]
    simpa [Oper.upon] using this
  | some ad =>
    refine wp_append_own w s x t ho W0.heap.size e i z size bytes ht hi hz0 hz1 hz2 hzs hsz _ n xs hs hown ad m c news hx hl (hnews ad rfl) h1 hm hb hj.size ?_
    intro v' w1 hown' hg hiff
    have hj1 : Junk W0 w1 := below_of_grown hj hg (fun k hk => (hown.lt k hk).1)
    obtain ⟨os, d, rfl⟩ := hj1
    rcases hown'.2 with ⟨rfl, h0⟩ | ⟨g, cap', cur, rfl, hr⟩
    · have := h none 0 os d (by unfold Own; rw [h0] at hown' ⊢; exact hown') (fun _ => by have := hiff.1 rfl; simp only [Value.slice.injEq] at this; exact ⟨this.1.1, this.2⟩)
      rw [h0] at this
      exact this
    · exact h _ _ os d hown' (fun h => by cases h)
theorem ap_own {P : Program} {ops : Array Oper} {rest : List Oper} {o : Oper} {a : Act} {Q : Exit → Act → World → Prop} (hgd : o.guard = none) (s x : Operand) (t : TypeId)
    (ho : o.op = .call { callee := .builtin .append, args := #[s, x], argTypes := #[t, t] })
    (e : TypeId) (z : Value) (size bytes : Nat) (hinfo : (P.info? e).map (fun i => (i.zero, i.size, i.bytes)) = some (some z, size, bytes)) (hzs : z.cells.size = size) (hsz : 0 < size) (ht : P.underlying t = some (.slice e))
    (hj : Junk W0 w) (oa : Option Addr) (cap n : Nat) (xs : List Value) (hs : a.eval s = .slice oa n cap) (hown : Own W0.heap.size w e size oa cap n xs)
    (oc : Option Addr) (m c : Nat) (hx : a.eval x = .slice oc m c) (news : List Value) (hl : news.length = m * size) (hnews : ∀ ad, oc = some ad → ∀ j u, news[j]? = some u → w.cell? (ad.add j) = some u)
    (hnone : oc = none → m = 0 ∧ c = 0) (h1 : ∀ u ∈ news, u.oneCell' = true) (hm : n + m ≤ maxLen) (hb : (n + m) * bytes ≤ 140737488355328)
    (h : ∀ oa' cap' os d, Own W0.heap.size (W0.junk os d) e size oa' cap' (n + m) (xs ++ news) → (oa' = none → oa = none ∧ m = 0) → wpList P ops Q rest (a.put o.dst (.slice oa' (n + m) cap')) (W0.junk os d)) : wpList P ops Q (o :: rest) a w :=
  wpList_plain hgd fun K hK => ap_own_wp s x t ho e z size bytes hinfo hzs hsz ht hj oa cap n xs hs hown oc m c hx news hl hnews hnone h1 hm hb fun oa' cap' os d h2 h3 => hK _ _ (h oa' cap' os d h2 h3)
/-- The cells of a literal that was just built. -/
theorem built_cells {w : World} {news : List Value} {e : TypeId} {n : Nat} (hn : n = w.heap.size) : ∀ ad : Addr, some (⟨n, 0, none⟩ : Addr) = some ad → ∀ j u, news[j]? = some u → (w.alloc (.cells news.toArray e)).cell? (ad.add j) = some u := by
  subst hn
  intro ad had j u hu
  cases had
  rw [Addr.add_lit, Nat.zero_add, World.cell?_alloc_new]
  simpa using hu
/-- The cells of a slice of integers, as a source. -/
theorem IntsAt.src {k : IntKind} {ys : Nat → Int} {m : Nat} {oc : Option Addr} (h : IntsAt w oc m k ys) : ∀ ad, oc = some ad → ∀ j u, ((List.range m).map fun i => Value.int k (ys i))[j]? = some u → w.cell? (ad.add j) = some u := by
  intro ad had j u hu
  simp only [List.getElem?_map] at hu
  by_cases hj : j < m
  · rw [List.getElem?_range hj] at hu
    simp only [Option.map_some, Option.some.injEq] at hu
    subst hu
    obtain ⟨b, off, ho, _, hc⟩ := h j hj
    rw [had] at ho
    cases ho
    rw [Addr.add_lit]
    exact hc
  · rw [List.getElem?_eq_none (by simpa using hj)] at hu
    cases hu
end
end Go
