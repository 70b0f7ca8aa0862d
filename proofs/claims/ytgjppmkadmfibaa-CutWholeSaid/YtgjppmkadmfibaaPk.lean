/- Lists of packets in memory: their cells; a slice of them that is the call's own. -/
import Derived.Test.YtgjppmkadmfibaaIpSame
import Derived.Test.YtgjppmkadmfibaaTcpC
import Derived.Lib.AppendZeros
set_option linter.unusedVariables false
set_option maxRecDepth 100000
set_option linter.unusedSimpArgs false
namespace Go.Proofs.Ytgjppmkadmfibaa
open Go.RowKit
/-- A packet and where its bytes lie. -/
structure Fr where
  p : Ip
  oo : Option Addr
  oc : Nat
  ob : Option Addr
  bc : Nat
def Fr.cells (f : Fr) : List Value := [.int .i64 f.p.tos, .int .i64 f.p.id, .bool f.p.df, .bool f.p.mf, .int .i64 f.p.off, .int .i64 f.p.ttl, .int .i64 f.p.proto, .int .u32 f.p.src, .int .u32 f.p.dst, .slice f.oo f.p.ol f.oc, .slice f.ob f.p.bl f.bc]
def cellsL (L : List Fr) : List Value := (L.map Fr.cells).flatten
def Fr.At (w : World) (f : Fr) : Prop := IpAt w f.p f.oo f.oc f.ob f.bc
theorem Fr.cells_len (f : Fr) : f.cells.length = 11 := rfl
theorem cellsL_nil : cellsL [] = [] := rfl
theorem cellsL_cons (f : Fr) (L : List Fr) : cellsL (f :: L) = f.cells ++ cellsL L := rfl
theorem cellsL_len : ∀ L : List Fr, (cellsL L).length = L.length * 11
  | [] => rfl
  | f :: L => by rw [cellsL_cons, List.length_append, cellsL_len L, Fr.cells_len, List.length_cons]; omega
theorem cellsL_app : ∀ (L M : List Fr), cellsL (L ++ M) = cellsL L ++ cellsL M := fun L M => by unfold cellsL; rw [List.map_append, List.flatten_append]
theorem cellsL_one (L : List Fr) (f : Fr) : cellsL L ++ f.cells = cellsL (L ++ [f]) := by rw [cellsL_app]; simp [cellsL]
theorem cellsL_get : ∀ (L : List Fr) (i : Nat) (f : Fr), L[i]? = some f → ∀ j, j < 11 → (cellsL L)[i * 11 + j]? = f.cells[j]?
  | [], i, f, h, _, _ => by simp at h
  | g :: L, 0, f, h, j, hj => by
    simp only [List.getElem?_cons_zero, Option.some.injEq] at h
    subst h
    rw [cellsL_cons, Nat.zero_mul, Nat.zero_add, List.getElem?_append_left (by rw [Fr.cells_len]; exact hj)]
  | g :: L, i + 1, f, h, j, hj => by
    rw [List.getElem?_cons_succ] at h
    rw [cellsL_cons, List.getElem?_append_right (by rw [Fr.cells_len]; omega), Fr.cells_len, show (i + 1) * 11 + j - 11 = i * 11 + j by omega]
    exact cellsL_get L i f h j hj
theorem Fr.one (f : Fr) : ∀ u ∈ f.cells, u.oneCell' = true := by intro u hu; simp only [Fr.cells, List.mem_cons, List.not_mem_nil, or_false] at hu; rcases hu with rfl | rfl | rfl | rfl | rfl | rfl | rfl | rfl | rfl | rfl | rfl <;> rfl
theorem Fr.At.on {w w' : World} {f : Fr} (h : f.At w) (hj : Junk w w') : f.At w' := IpAt.on h hj
/-- The packet's bytes lie outside that block. -/
def Fr.Off (row : Option Nat) (f : Fr) : Prop := Go.Off row f.oo f.p.ol ∧ Go.Off row f.ob f.p.bl
theorem Fr.At.grown {w w' : World} {row : Option Nat} {f : Fr} (h : f.At w) (hg : w.grownBy w' row) (ho : f.Off row) : f.At w' := ⟨h.opts.grown hg ho.1, h.body.grown hg ho.2, h.src, h.dst⟩
theorem Fr.At.off {w : World} {f : Fr} {g : Nat} (h : f.At w) (hg : w.heap.size ≤ g) : f.Off (some g) :=
  ⟨fun hl a ha he => by have := h.opts.below hl a ha; cases he; omega, fun hl a ha he => by have := h.body.below hl a ha; cases he; omega⟩
theorem Fresh.off {B : Nat} {oa : Option Addr} {l : Nat} {row : Option Nat} (h : Fresh B oa) (hr : ∀ k, row = some k → k < B) : Go.Off row oa l := fun _ a ha he => by
  have h1 := h a ha
  have h2 := hr _ he.symm
  omega
/-- The loading of one packet of a list. -/
theorem load_fr {P : Program} {w : World} {B : Nat} {e : TypeId} {g cap n : Nat} {L : List Fr} (h : Own B w e 11 (some ⟨g, 0, none⟩) cap n (cellsL L)) (i : Nat) (f : Fr) (hi : L[i]? = some f) :
    (loadCellsFrom ⟨g, i * 11, none⟩ 0 11 #[]).run P w = .ok f.cells.toArray w := by
  have h2 := run_loadCells_list (P := P) (w := w) ⟨g, i * 11, none⟩ f.cells (fun j v hv => by
    rw [Addr.add_lit]
    have hj : j < 11 := by have := (List.getElem?_eq_some_iff.1 hv).1; rw [Fr.cells_len] at this; exact this
    obtain ⟨g', h1, _, _, h2, _⟩ := h.cells (i * 11 + j) v (by rw [cellsL_get L i f hi j hj]; exact hv)
    cases h1
    exact h2)
  rw [Fr.cells_len] at h2
  exact h2
end Go.Proofs.Ytgjppmkadmfibaa
