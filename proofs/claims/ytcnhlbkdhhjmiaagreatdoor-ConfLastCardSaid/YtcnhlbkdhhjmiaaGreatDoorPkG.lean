/- Appending to a slice of the call's own, with the block that was written. -/
import Derived.Test.YtcnhlbkdhhjmiaaGreatDoorOwn
import Derived.Lib.AppendZeros
set_option linter.unusedVariables false
set_option maxRecDepth 100000
set_option linter.unusedSimpArgs false
namespace Go
open RowKit
section
variable {P : Program}
/-- 'append(s, x...)', s the call's own: and where the slice lies behind it. -/
theorem run_append_own2 (w : World) (base : Nat) (t ty e : TypeId) (i : TypeInfo) (z : Value) (size bytes : Nat) (ht : P.underlying t = some (.slice e)) (hi : P.info? e = some i) (hz : i.zero = some z)
    (hsize : i.size = size) (hby : i.bytes = bytes) (hzs : z.cells.size = size) (hsz : 0 < size)
    (v : Value) (n : Nat) (xs : List Value) (hown : w.ownsRow base e size v n xs)
    (a : Addr) (m c : Nat) (news : List Value) (hl : news.length = m * size) (hnews : ∀ j u, news[j]? = some u → w.cell? (a.add j) = some u) (h1 : ∀ u ∈ news, u.oneCell' = true)
    (h63 : n + m ≤ maxLen) (hbytes : (n + m) * bytes ≤ 140737488355328) (hbase : base ≤ w.heap.size) (hm0 : 0 < m) :
    ∃ v' w', (Builtin.append_ #[t, t] ty #[v, .slice (some a) m c]).run P w = .ok v' w' ∧ w'.ownsRow base e size v' (n + m) (xs ++ news) ∧ w.grownBy w' v.ownBlock ∧
      (v'.ownBlock = v.ownBlock ∨ v'.ownBlock = some w.heap.size) := by
  obtain ⟨v', w', hr, h2, h3, h4⟩ := run_append_own (P := P) w base t ty e i z size bytes ht hi hz hsize hby hzs hsz v n xs hown a m c news hl hnews h1 h63 hbytes hbase
  refine ⟨v', w', hr, h2, h3, ?_⟩
  have hsmall : n + m ≤ 9223372036854775807 := by simp only [maxLen] at h63; omega
  rcases hown.2 with ⟨rfl, rfl⟩ | ⟨g, cap, cur, rfl, hbg, hg, hnc, hcm, hcs, htake⟩
  · have hr2 := run_append_nil (P := P) w t ty e i z ht hi hz a m c news (by rw [hsize]; exact hl) hnews hm0 (by omega) (by rw [hby]; simp only [Nat.zero_add] at hbytes; omega)
    rw [hr2] at hr
    cases hr
    exact .inr rfl
  · by_cases hroom : n + m ≤ cap
    · have hfit : n * i.size + news.length ≤ cur.size := by rw [hl, hcs, hsize, ← Nat.add_mul]; exact Nat.mul_le_mul_right _ hroom
      have hr2 := run_append_room (P := P) w t ty e i ht hi g n cap cur hg a m c news (by rw [hsize]; exact hl) hnews h1 hroom hfit
      rw [hr2] at hr
      cases hr
      exact .inl rfl
    · have holds : ∀ j u, xs[j]? = some u → w.cell? ((⟨g, 0, none⟩ : Addr).add j) = some u := hown.cells (g := g) rfl
      have hr2 := run_append_grow (P := P) w t ty e i z ht hi hz ⟨g, 0, none⟩ n cap xs (by rw [hsize]; exact hown.1) holds a m c news (by rw [hsize]; exact hl) hnews (by omega) (by omega) (by rw [hby]; exact growslice_fits (by omega) hbytes)
      rw [hr2] at hr
      cases hr
      exact .inr rfl
end
/-- No cell of the slice lies in that block. -/
def Off (row : Option Nat) (oa : Option Addr) (l : Nat) : Prop := 0 < l → ∀ a, oa = some a → some a.block ≠ row
theorem Bts.grown {w w' : World} {oa : Option Addr} {l c : Nat} {xs : Nat → Int} {row : Option Nat} (h : Bts w oa l c xs) (hg : w.grownBy w' row) (ho : Off row oa l) : Bts w' oa l c xs := by
  refine ⟨fun i hi => ?_, h.byte, h.nil, h.le, h.cap⟩
  obtain ⟨b, off, he, hlt, hc⟩ := h.at_ i hi
  have hne := ho (by omega) _ he
  exact ⟨b, off, he, Nat.lt_of_lt_of_le hlt hg.size, by rw [← hc]; exact World.cell?_of_block (hg.block b hlt hne)⟩
theorem Bts.below {w : World} {oa : Option Addr} {l c : Nat} {xs : Nat → Int} (h : Bts w oa l c xs) : 0 < l → ∀ a, oa = some a → a.block < w.heap.size := by
  intro hl a ha
  obtain ⟨b, off, he, hlt, hc⟩ := h.at_ 0 hl
  rw [ha] at he
  cases he
  exact hlt
def rowOf (oa : Option Addr) : Option Nat := oa.map (·.block)
theorem ownBlock_slice (oa : Option Addr) (n c : Nat) : (Value.slice oa n c).ownBlock = rowOf oa := by cases oa <;> rfl
/-- The same, in a walk. -/
theorem ap_own2 {P : Program} {W0 w : World} {ops : Array Oper} {rest : List Oper} {o : Oper} {a : Act} {Q : Exit → Act → World → Prop} (hgd : o.guard = none) (s x : Operand) (t : TypeId)
    (ho : o.op = .call { callee := .builtin .append, args := #[s, x], argTypes := #[t, t] })
    (e : TypeId) (z : Value) (size bytes : Nat) (hinfo : (P.info? e).map (fun i => (i.zero, i.size, i.bytes)) = some (some z, size, bytes)) (hzs : z.cells.size = size) (hsz : 0 < size) (ht : P.underlying t = some (.slice e))
    (hj : Junk W0 w) (oa : Option Addr) (cap n : Nat) (xs : List Value) (hs : a.eval s = .slice oa n cap) (hown : Own W0.heap.size w e size oa cap n xs)
    (ad : Addr) (m c : Nat) (hx : a.eval x = .slice (some ad) m c) (news : List Value) (hl : news.length = m * size) (hnews : ∀ j u, news[j]? = some u → w.cell? (ad.add j) = some u)
    (h1 : ∀ u ∈ news, u.oneCell' = true) (hm : n + m ≤ maxLen) (hb : (n + m) * bytes ≤ 140737488355328) (hm0 : 0 < m)
    (h : ∀ oa' cap' os d, Own W0.heap.size (W0.junk os d) e size oa' cap' (n + m) (xs ++ news) → w.grownBy (W0.junk os d) (rowOf oa) → (rowOf oa' = rowOf oa ∨ rowOf oa' = some w.heap.size) → wpList P ops Q rest (a.put o.dst (.slice oa' (n + m) cap')) (W0.junk os d)) : wpList P ops Q (o :: rest) a w := by
  obtain ⟨i, hi, hz0, hz1, hz2⟩ := info_parts hinfo
  obtain ⟨v', w', hr, h2, h3, h4⟩ := run_append_own2 (P := P) w W0.heap.size t o.type e i z size bytes ht hi hz0 hz1 hz2 hzs hsz _ n xs hown ad m c news hl hnews h1 hm hb hj.size hm0
  refine Lib.wpList_append_run w hgd s x t t ho _ _ hs hx _ _ hr ?_
  obtain ⟨os, d, rfl⟩ := below_of_grown hj h3 (fun k hk => (World.ownsRow.lt hown k hk).1)
  rcases h2.2 with ⟨rfl, h0⟩ | ⟨g, cap', cur, rfl, _⟩
  · omega
  · rw [ownBlock_slice] at h3 h4
    rw [ownBlock_slice] at h4
    exact h _ _ os d h2 h3 h4
theorem own_litk {B : Nat} (w : World) (e : TypeId) (size n m : Nat) (cur : Array Value) (hn : n = w.heap.size) (hb : B ≤ w.heap.size) (hm : m * size = cur.size) (hmax : m ≤ maxLen) : Own B (w.alloc (.cells cur e)) e size (some ⟨n, 0, none⟩) m m cur.toList := by
  subst hn
  refine ⟨by simp [hm], .inr ⟨w.heap.size, m, cur, rfl, hb, heap_alloc_new w _, Nat.le_refl _, hmax, by simp [hm], by rw [hm, ← Array.length_toList, List.take_length]⟩⟩
end Go
