/- Lists of packets in memory: their cells; a slice of them that is the call's own. -/
import Derived.Test.YtbijbcpalmepiaaIpSame
import Derived.Lib.AppendZeros
set_option linter.unusedVariables false
set_option maxRecDepth 100000
set_option linter.unusedSimpArgs false
namespace Go
open RowKit
section
variable {P : Program}
/-- 'append(s, x...)', s the call's own: and where the slice lies behind it. -/
theorem run_append_own2 (w : World) (base : Nat) (t ty e : TypeId) (i : TypeInfo) (z : Value) (size bytes : Nat) (ht : P.underlying t = some (.slice e)) (hi : P.info? e = some i) (hz : i.zero = some z)
    (hsize : i.size = size) (hby : i.bytes = bytes) (hzs : z.cells.size = size) (hsz : 0 < size)
    (v : Value) (n : Nat) (xs : List Value) (hown : w.ownsRow base e size v n xs)
    (a : Addr) (m c : Nat) (news : List Value) (hl : news.length = m * size) (hnews : ∀ j u, news[j]? = some u → w.cell? (a.add j) = some u) (h1 : ∀ u ∈ news, u.oneCell' = true)
    (h63 : n + m ≤ maxLen) (hbytes : (n + m) * bytes ≤ 140737488355328) (hbase : base ≤ w.heap.size) (hm0 : 0 < m) :
    ∃ v' w', (Builtin.append_ #[t, t] ty #[v, .slice (some a) m c]).run P w = .ok v' w' ∧ w'.ownsRow base e size v' (n + m) (xs ++ news) ∧ w.grownBy w' v.ownBlock ∧
      (v'.ownBlock = v.ownBlock ∨ v'.ownBlock = some w.heap.size) := by
  obtain ⟨v', w', hr, h2, h3, h4⟩ := run_append_own (P := P) w base t ty e i z size bytes ht hi hz hsize hby hzs hsz v n xs hown a m c news hl hnews h1 h63 hbytes hbase
  refine ⟨v', w', hr, h2, h3, ?_⟩
  have hsmall : n + m ≤ 9223372036854775807 := by simp only [maxLen] at h63; omega
  rcases hown.2 with ⟨rfl, rfl⟩ | ⟨g, cap, cur, rfl, hbg, hg, hnc, hcm, hcs, htake⟩
  · have hr2 := run_append_nil (P := P) w t ty e i z ht hi hz a m c news (by rw [hsize]; exact hl) hnews hm0 (by omega) (by rw [hby]; simp only [Nat.zero_add] at hbytes; omega)
    rw [hr2] at hr
    cases hr
    exact .inr rfl
  · by_cases hroom : n + m ≤ cap
    · have hfit : n * i.size + news.length ≤ cur.size := by rw [hl, hcs, hsize, ← Nat.add_mul]; exact Nat.mul_le_mul_right _ hroom
      have hr2 := run_append_room (P := P) w t ty e i ht hi g n cap cur hg a m c news (by rw [hsize]; exact hl) hnews h1 hroom hfit
      rw [hr2] at hr
      cases hr
      exact .inl rfl
    · have holds : ∀ j u, xs[j]? = some u → w.cell? ((⟨g, 0, none⟩ : Addr).add j) = some u := hown.cells (g := g) rfl
      have hr2 := run_append_grow (P := P) w t ty e i z ht hi hz ⟨g, 0, none⟩ n cap xs (by rw [hsize]; exact hown.1) holds a m c news (by rw [hsize]; exact hl) hnews (by omega) (by omega) (by rw [hby]; exact growslice_fits (by omega) hbytes)
      rw [hr2] at hr
      cases hr
      exact .inr rfl
end
/-- No cell of the slice lies in that block. -/
def Off (row : Option Nat) (oa : Option Addr) (l : Nat) : Prop := 0 < l → ∀ a, oa = some a → some a.block ≠ row
theorem Bts.grown {w w' : World} {oa : Option Addr} {l c : Nat} {xs : Nat → Int} {row : Option Nat} (h : Bts w oa l c xs) (hg : w.grownBy w' row) (ho : Off row oa l) : Bts w' oa l c xs := by
  refine ⟨fun i hi => ?_, h.byte, h.nil, h.le, h.cap⟩
  obtain ⟨b, off, he, hlt, hc⟩ := h.at_ i hi
  have hne := ho (by omega) _ he
  exact ⟨b, off, he, Nat.lt_of_lt_of_le hlt hg.size, by rw [← hc]; exact World.cell?_of_block (hg.block b hlt hne)⟩
theorem Bts.below {w : World} {oa : Option Addr} {l c : Nat} {xs : Nat → Int} (h : Bts w oa l c xs) : 0 < l → ∀ a, oa = some a → a.block < w.heap.size := by
  intro hl a ha
  obtain ⟨b, off, he, hlt, hc⟩ := h.at_ 0 hl
  rw [ha] at he
  cases he
  exact hlt
def rowOf (oa : Option Addr) : Option Nat := oa.map (·.block)
theorem ownBlock_slice (oa : Option Addr) (n c : Nat) : (Value.slice oa n c).ownBlock = rowOf oa := by cases oa <;> rfl
/-- The same, in a walk. -/
theorem ap_own2 {P : Program} {W0 w : World} {ops : Array Oper} {rest : List Oper} {o : Oper} {a : Act} {Q : Exit → Act → World → Prop} (hgd : o.guard = none) (s x : Operand) (t : TypeId)
    (ho : o.op = .call { callee := .builtin .append, args := #[s, x], argTypes := #[t, t] })
    (e : TypeId) (z : Value) (size bytes : Nat) (hinfo : (P.info? e).map (fun i => (i.zero, i.size, i.bytes)) = some (some z, size, bytes)) (hzs : z.cells.size = size) (hsz : 0 < size) (ht : P.underlying t = some (.slice e))
    (hj : Junk W0 w) (oa : Option Addr) (cap n : Nat) (xs : List Value) (hs : a.eval s = .slice oa n cap) (hown : Own W0.heap.size w e size oa cap n xs)
    (ad : Addr) (m c : Nat) (hx : a.eval x = .slice (some ad) m c) (news : List Value) (hl : news.length = m * size) (hnews : ∀ j u, news[j]? = some u → w.cell? (ad.add j) = some u)
    (h1 : ∀ u ∈ news, u.oneCell' = true) (hm : n + m ≤ maxLen) (hb : (n + m) * bytes ≤ 140737488355328) (hm0 : 0 < m)
    (h : ∀ oa' cap' os d, Own W0.heap.size (W0.junk os d) e size oa' cap' (n + m) (xs ++ news) → w.grownBy (W0.junk os d) (rowOf oa) → (rowOf oa' = rowOf oa ∨ rowOf oa' = some w.heap.size) → wpList P ops Q rest (a.put o.dst (.slice oa' (n + m) cap')) (W0.junk os d)) : wpList P ops Q (o :: rest) a w := by
  obtain ⟨i, hi, hz0, hz1, hz2⟩ := info_parts hinfo
  obtain ⟨v', w', hr, h2, h3, h4⟩ := run_append_own2 (P := P) w W0.heap.size t o.type e i z size bytes ht hi hz0 hz1 hz2 hzs hsz _ n xs hown ad m c news hl hnews h1 hm hb hj.size hm0
  refine Lib.wpList_append_run w hgd s x t t ho _ _ hs hx _ _ hr ?_
  obtain ⟨os, d, rfl⟩ := below_of_grown hj h3 (fun k hk => (World.ownsRow.lt hown k hk).1)
  rcases h2.2 with ⟨rfl, h0⟩ | ⟨g, cap', cur, rfl, _⟩
  · omega
  · rw [ownBlock_slice] at h3 h4
    rw [ownBlock_slice] at h4
    exact h _ _ os d h2 h3 h4
theorem own_litk {B : Nat} (w : World) (e : TypeId) (size n m : Nat) (cur : Array Value) (hn : n = w.heap.size) (hb : B ≤ w.heap.size) (hm : m * size = cur.size) (hmax : m ≤ maxLen) : Own B (w.alloc (.cells cur e)) e size (some ⟨n, 0, none⟩) m m cur.toList := by
  subst hn
  refine ⟨by simp [hm], .inr ⟨w.heap.size, m, cur, rfl, hb, heap_alloc_new w _, Nat.le_refl _, hmax, by simp [hm], by rw [hm, ← Array.length_toList, List.take_length]⟩⟩
end Go
namespace Go.Proofs.Ytbijbcpalmepiaa
open Go.RowKit
/-- A packet and where its bytes lie. -/
structure Fr where
  p : Ip
  oo : Option Addr
  oc : Nat
  ob : Option Addr
  bc : Nat
def Fr.cells (f : Fr) : List Value := [.int .i64 f.p.tos, .int .i64 f.p.id, .bool f.p.df, .bool f.p.mf, .int .i64 f.p.off, .int .i64 f.p.ttl, .int .i64 f.p.proto, .int .u32 f.p.src, .int .u32 f.p.dst, .slice f.oo f.p.ol f.oc, .slice f.ob f.p.bl f.bc]
def cellsL (L : List Fr) : List Value := (L.map Fr.cells).flatten
def Fr.At (w : World) (f : Fr) : Prop := IpAt w f.p f.oo f.oc f.ob f.bc
theorem Fr.cells_len (f : Fr) : f.cells.length = 11 := rfl
theorem cellsL_nil : cellsL [] = [] := rfl
theorem cellsL_cons (f : Fr) (L : List Fr) : cellsL (f :: L) = f.cells ++ cellsL L := rfl
theorem cellsL_len : ∀ L : List Fr, (cellsL L).length = L.length * 11
  | [] => rfl
  | f :: L => by rw [cellsL_cons, List.length_append, cellsL_len L, Fr.cells_len, List.length_cons]; omega
theorem cellsL_app : ∀ (L M : List Fr), cellsL (L ++ M) = cellsL L ++ cellsL M := fun L M => by unfold cellsL; rw [List.map_append, List.flatten_append]
theorem cellsL_one (L : List Fr) (f : Fr) : cellsL L ++ f.cells = cellsL (L ++ [f]) := by rw [cellsL_app]; simp [cellsL]
theorem cellsL_get : ∀ (L : List Fr) (i : Nat) (f : Fr), L[i]? = some f → ∀ j, j < 11 → (cellsL L)[i * 11 + j]? = f.cells[j]?
  | [], i, f, h, _, _ => by simp at h
  | g :: L, 0, f, h, j, hj => by
    simp only [List.getElem?_cons_zero, Option.some.injEq] at h
    subst h
    rw [cellsL_cons, Nat.zero_mul, Nat.zero_add, List.getElem?_append_left (by rw [Fr.cells_len]; exact hj)]
  | g :: L, i + 1, f, h, j, hj => by
    rw [List.getElem?_cons_succ] at h
    rw [cellsL_cons, List.getElem?_append_right (by rw [Fr.cells_len]; omega), Fr.cells_len, show (i + 1) * 11 + j - 11 = i * 11 + j by omega]
    exact cellsL_get L i f h j hj
theorem Fr.one (f : Fr) : ∀ u ∈ f.cells, u.oneCell' = true := by intro u hu; simp only [Fr.cells, List.mem_cons, List.not_mem_nil, or_false] at hu; rcases hu with rfl | rfl | rfl | rfl | rfl | rfl | rfl | rfl | rfl | rfl | rfl <;> rfl
theorem Fr.At.on {w w' : World} {f : Fr} (h : f.At w) (hj : Junk w w') : f.At w' := IpAt.on h hj
/-- The packet's bytes lie outside that block. -/
def Fr.Off (row : Option Nat) (f : Fr) : Prop := Go.Off row f.oo f.p.ol ∧ Go.Off row f.ob f.p.bl
theorem Fr.At.grown {w w' : World} {row : Option Nat} {f : Fr} (h : f.At w) (hg : w.grownBy w' row) (ho : f.Off row) : f.At w' := ⟨h.opts.grown hg ho.1, h.body.grown hg ho.2, h.src, h.dst⟩
theorem Fr.At.off {w : World} {f : Fr} {g : Nat} (h : f.At w) (hg : w.heap.size ≤ g) : f.Off (some g) :=
  ⟨fun hl a ha he => by have := h.opts.below hl a ha; cases he; omega, fun hl a ha he => by have := h.body.below hl a ha; cases he; omega⟩
theorem Fresh.off {B : Nat} {oa : Option Addr} {l : Nat} {row : Option Nat} (h : Fresh B oa) (hr : ∀ k, row = some k → k < B) : Go.Off row oa l := fun _ a ha he => by
  have h1 := h a ha
  have h2 := hr _ he.symm
  omega
/-- The loading of one packet of a list. -/
theorem load_fr {P : Program} {w : World} {B : Nat} {e : TypeId} {g cap n : Nat} {L : List Fr} (h : Own B w e 11 (some ⟨g, 0, none⟩) cap n (cellsL L)) (i : Nat) (f : Fr) (hi : L[i]? = some f) :
    (loadCellsFrom ⟨g, i * 11, none⟩ 0 11 #[]).run P w = .ok f.cells.toArray w := by
  have h2 := run_loadCells_list (P := P) (w := w) ⟨g, i * 11, none⟩ f.cells (fun j v hv => by
    rw [Addr.add_lit]
    have hj : j < 11 := by have := (List.getElem?_eq_some_iff.1 hv).1; rw [Fr.cells_len] at this; exact this
    obtain ⟨g', h1, _, _, h2, _⟩ := h.cells (i * 11 + j) v (by rw [cellsL_get L i f hi j hj]; exact hv)
    cases h1
    exact h2)
  rw [Fr.cells_len] at h2
  exact h2
end Go.Proofs.Ytbijbcpalmepiaa
