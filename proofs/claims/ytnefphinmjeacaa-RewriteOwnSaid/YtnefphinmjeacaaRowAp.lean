/- Appending bytes in place, to a slice of a block that the call has made and that is known whole; a region over such a block with others on top of it. -/
import Derived.Test.YtnefphinmjeacaaRow
import Derived.Test.YtnefphinmjeacaaMix
import Derived.Laws.CopyRow
set_option linter.unusedVariables false
set_option maxRecDepth 100000
set_option linter.unusedSimpArgs false
namespace Go
open Go.RowKit
section
variable {P : Program}
theorem World.alloc_junk (w : World) (os : Array Obj) (d : Nat) (o : Obj) : (w.junk os d).alloc o = w.junk (os.push o) d := by simp [World.junk, World.alloc]
theorem World.alloc_junk2 (w : World) (os : Array Obj) (d : Nat) (o : Obj) (os' : Array Obj) (d' : Nat) : ((w.junk os d).alloc o).junk os' d' = w.junk (os.push o ++ os') d' := by rw [World.alloc_junk, World.junk_junk]
theorem run_append_at (w : World) (t ty e : TypeId) (i : TypeInfo) (ht : P.underlying t = some (.slice e)) (hi : P.info? e = some i) (hs1 : i.size = 1)
    (g off sLen sCap : Nat) (cur : Array Value) (te : TypeId) (hg : w.heap[g]? = some (.cells cur te (0, 0))) (a : Addr) (m c : Nat) (news : List Value) (hl : news.length = m)
    (hnews : ∀ j u, news[j]? = some u → w.cell? (a.add j) = some u) (h1 : ∀ u ∈ news, u.oneCell' = true) (hroom : sLen + m ≤ sCap) (hfit : off + sLen + m ≤ cur.size) :
    (Builtin.append_ #[t, t] ty #[.slice (some ⟨g, off, none⟩) sLen sCap, .slice (some a) m c]).run P w =
      .ok (.slice (some ⟨g, off, none⟩) (sLen + m) sCap) (w.setRow g (cur.toList.take (off + sLen) ++ news ++ cur.toList.drop (off + sLen + news.length)).toArray) := by
  have hf := run_firstCells_some (P := P) w i.size m a m c news (by rw [hs1, hl, Nat.mul_one]) hnews
  have hst := run_storeCells_at P g (off + sLen) te news 0 cur w hg (by rw [hl]; simpa using hfit) h1
  simp only [Nat.add_zero] at hst
  rw [hs1] at hf
  simp [Builtin.append_, run_underlying ht, sizeOf, typeInfo, hi, Builtin.lenOf, hroom, hf, Addr.add_lit, hs1, hst]
theorem run_append_none (w : World) (t ty e : TypeId) (i : TypeInfo) (ht : P.underlying t = some (.slice e)) (hi : P.info? e = some i) (s : Option Addr) (n cap : Nat) (hn : n ≤ cap) (x : Option Addr) (hx : x = none) (c : Nat) (hc : c = 0) :
    (Builtin.append_ #[t, t] ty #[.slice s n cap, .slice x 0 c]).run P w = .ok (.slice s n cap) w := by
  subst hx hc
  cases s <;> simp [Builtin.append_, run_underlying ht, sizeOf, typeInfo, hi, Builtin.lenOf, Builtin.firstCells, hn, storeCells]
/-- 'append(s, x...)' of bytes, s a slice of the block g, which has room: in place. -/
theorem run_append_row (w Y : World) (t ty e : TypeId) (ht : P.underlying t = some (.slice e)) (hinfo : (P.info? e).map (·.size) = some 1) (G : Array Value → World) (os' : Array Obj) (d' : Nat) (N : Nat) (xs : Nat → Int) (te : TypeId) (g : Nat)
    (hw : w = (G (rowArr N xs)).junk os' d') (hG1 : (G (rowArr N xs)).heap[g]? = some (.cells (rowArr N xs) te (0, 0))) (hG2 : ∀ c, (G (rowArr N xs)).setRow g c = G c)
    (s : Option Addr) (off n cap : Nat) (oc : Option Addr) (m c : Nat) (ys : Nat → Int) (hs : 0 < m → s = some ⟨g, off, none⟩) (hsrc : IntsAt w oc m .u8 ys) (hnil : oc = none → m = 0 ∧ c = 0) (hnc : n + m ≤ cap) (hN : off + n + m ≤ N) :
    (Builtin.append_ #[t, t] ty #[.slice s n cap, .slice oc m c]).run P w = .ok (.slice s (n + m) cap) ((G (rowArr N (putAt xs (off + n) m ys))).junk os' d') := by
  have hgl : g < (G (rowArr N xs)).heap.size := (Array.getElem?_eq_some_iff.1 hG1).1
  have hgw : w.heap[g]? = some (.cells (rowArr N xs) te (0, 0)) := by rw [hw, World.heap_junk _ _ _ hgl]; exact hG1
  have hset : ∀ c, w.setRow g c = (G c).junk os' d' := fun c => by
    rw [hw, ← hG2 c]
    simp only [World.setRow, World.junk]
    congr 1
    apply Array.ext_getElem?
    intro j
    simp only [Array.getElem?_modify, Array.getElem?_append, Array.size_modify]
    by_cases hj : g = j
    · subst hj; simp [hgl]
    · simp [hj]
  cases hi : P.info? e with
  | none => rw [hi] at hinfo; cases hinfo
  | some i =>
    rw [hi] at hinfo
    have hs1 : i.size = 1 := by simpa using hinfo
    cases oc with
    | none =>
      obtain ⟨rfl, rfl⟩ := hnil rfl
      have h := run_append_none (P := P) w t ty e i ht hi s n cap (by omega) none rfl 0 rfl
      rw [h, putAt_nil, ← hw, Nat.add_zero]
    | some ad =>
      by_cases h0 : m = 0
      · subst h0
        have hf := run_firstCells_some (P := P) w i.size 0 ad 0 c [] (by simp) (by simp)
        rw [hs1] at hf
        rw [putAt_nil, ← hw, Nat.add_zero]
        cases s <;> simp [Builtin.append_, run_underlying ht, sizeOf, typeInfo, hi, Builtin.lenOf, hf, hs1, show n ≤ cap by omega, storeCells]
      · obtain rfl := hs (by omega)
        have h := run_append_at (P := P) w t ty e i ht hi hs1 g off n cap (rowArr N xs) te hgw ad m c ((List.range m).map fun i => Value.int .u8 (ys i)) (by simp) (hsrc.src _ rfl) (by simp [Value.oneCell']) hnc (by simpa using hN)
        rw [h, hset]
        congr 3
        have := rowArr_splice (xs := xs) (ys := ys) hN
        rw [← this]
        simp
theorem ap_row_wp {w : World} {o : Oper} {a : Act} {K : Act → World → Prop} {Q : Exit → Act → World → Prop} (s x : Operand) (t : TypeId)
    (ho : o.op = .call { callee := .builtin .append, args := #[s, x], argTypes := #[t, t] }) (e : TypeId) (ht : P.underlying t = some (.slice e)) (hinfo : (P.info? e).map (·.size) = some 1)
    (G : Array Value → World) (os' : Array Obj) (d' : Nat) (N : Nat) (xs : Nat → Int) (te : TypeId) (g : Nat)
    (hw : w = (G (rowArr N xs)).junk os' d') (hG1 : (G (rowArr N xs)).heap[g]? = some (.cells (rowArr N xs) te (0, 0))) (hG2 : ∀ c, (G (rowArr N xs)).setRow g c = G c)
    (sa : Option Addr) (off n cap : Nat) (hse : a.eval s = .slice sa n cap) (oc : Option Addr) (m c : Nat) (hxe : a.eval x = .slice oc m c) (ys : Nat → Int) (hs : 0 < m → sa = some ⟨g, off, none⟩) (hsrc : IntsAt w oc m .u8 ys) (hnil : oc = none → m = 0 ∧ c = 0) (hnc : n + m ≤ cap) (hN : off + n + m ≤ N)
    (h : K (a.put o.dst (.slice sa (n + m) cap)) ((G (rowArr N (putAt xs (off + n) m ys))).junk os' d')) : o.wp P a w K Q := by
  have hrun := run_append_row (P := P) w w t o.type e ht hinfo G os' d' N xs te g hw hG1 hG2 sa off n cap oc m c ys hs hsrc hnil hnc hN
  unfold Oper.wp
  simp only [execOp, ho, resolve, invoke, builtin, hse, hxe, List.map_toArray, List.map_cons, List.map_nil, Sem.run_bind, hrun, Sem.run_pure, Result.andThen]
  simpa [Oper.upon] using h
theorem ap_row {w : World} {ops : Array Oper} {rest : List Oper} {o : Oper} {a : Act} {Q : Exit → Act → World → Prop} (hgd : o.guard = none) (s x : Operand) (t : TypeId)
    (ho : o.op = .call { callee := .builtin .append, args := #[s, x], argTypes := #[t, t] }) (e : TypeId) (ht : P.underlying t = some (.slice e)) (hinfo : (P.info? e).map (·.size) = some 1)
    (G : Array Value → World) (os' : Array Obj) (d' : Nat) (N : Nat) (xs : Nat → Int) (te : TypeId) (g : Nat)
    (hw : w = (G (rowArr N xs)).junk os' d') (hG1 : (G (rowArr N xs)).heap[g]? = some (.cells (rowArr N xs) te (0, 0))) (hG2 : ∀ c, (G (rowArr N xs)).setRow g c = G c)
    (sa : Option Addr) (off n cap : Nat) (hse : a.eval s = .slice sa n cap) (oc : Option Addr) (m c : Nat) (hxe : a.eval x = .slice oc m c) (ys : Nat → Int) (hs : 0 < m → sa = some ⟨g, off, none⟩) (hsrc : IntsAt w oc m .u8 ys) (hnil : oc = none → m = 0 ∧ c = 0) (hnc : n + m ≤ cap) (hN : off + n + m ≤ N)
    (h : wpList P ops Q rest (a.put o.dst (.slice sa (n + m) cap)) ((G (rowArr N (putAt xs (off + n) m ys))).junk os' d')) : wpList P ops Q (o :: rest) a w :=
  wpList_plain hgd fun K hK => ap_row_wp s x t ho e ht hinfo G os' d' N xs te g hw hG1 hG2 sa off n cap hse oc m c hxe ys hs hsrc hnil hnc hN (hK _ _ h)
theorem heap_low (V : World) (c : Array Value) (t : TypeId) (os : Array Obj) (d : Nat) (o : Obj) (g : Nat) (hg : g = V.heap.size) : (((V.alloc (.cells c t)).junk os d).alloc o).heap[g]? = some (.cells c t (0, 0)) := by
  subst hg
  simp only [World.alloc, World.junk]
  rw [Array.getElem?_push, if_neg (by simp; try omega), Array.getElem?_append_left (by simp)]
  simp
theorem set_low (V : World) (c : Array Value) (t : TypeId) (os : Array Obj) (d : Nat) (o : Obj) (g : Nat) (hg : g = V.heap.size) (c' : Array Value) : (((V.alloc (.cells c t)).junk os d).alloc o).setRow g c' = ((V.alloc (.cells c' t)).junk os d).alloc o := by
  subst hg
  simp only [World.setRow, World.alloc, World.junk]
  congr 1
  apply Array.ext_getElem?
  intro j
  simp only [Array.getElem?_modify, Array.getElem?_append, Array.getElem?_push, Array.size_push, Array.size_append]
  by_cases hj : V.heap.size = j
  · subst hj; simp [show ¬ V.heap.size = V.heap.size + 1 + os.size by omega]
  · simp [hj, Ne.symm hj]
theorem heap_top (V : World) (c : Array Value) (t : TypeId) (g : Nat) (hg : g = V.heap.size) : (V.alloc (.cells c t)).heap[g]? = some (.cells c t (0, 0)) := by subst hg; exact heap_alloc_new V _
theorem set_top (V : World) (c : Array Value) (t : TypeId) (g : Nat) (hg : g = V.heap.size) (c' : Array Value) : (V.alloc (.cells c t)).setRow g c' = V.alloc (.cells c' t) := by subst hg; exact setRow_alloc V c c' t
theorem lit2_ints (Y : World) (x y : Int) (t : TypeId) (n : Nat) (hn : n = Y.heap.size) (os : Array Obj) (d : Nat) : IntsAt ((Y.alloc (.cells #[.int .u8 x, .int .u8 y] t)).junk os d) (some ⟨n, 0, none⟩) 2 .u8 (fun j => if j = 0 then x else y) := by
  subst hn
  intro i hi
  refine ⟨_, 0, rfl, by simp; omega, ?_⟩
  rw [World.cell?_junk _ _ _ _ _ (by simp), World.cell?_alloc_new]
  rcases (show i = 0 ∨ i = 1 by omega) with rfl | rfl <;> simp
theorem in_gen {G : Array Value → World} {w1 : World} (cur : Array Value) (h : Junk (G cur) w1) : ∃ x : Jk3, w1 = (G x.cur).junk x.os x.d := by
  obtain ⟨os, d, rfl⟩ := h
  exact ⟨⟨cur, os, d⟩, rfl⟩
theorem wp_region_mixg {id : Nat} {Q : Exit → Act → World → Prop} {a : Act} {w1 : World} {l : List Oper} (G : Array Value → World) (cur : Array Value) (π : List (Nat × Bool)) (hm : P.follows .mixedOrders = true)
    (hB : (Region.noSelect l.toArray && decide (π.length = l.length) && Region.mixB .any l.toArray π (Array.replicate l.length false)) = true) (hj : Junk (G cur) w1)
    (h : wpMix P l.toArray (fun w' => ∃ x : Jk3, w' = (G x.cur).junk x.os x.d) (fun a' w' => Q .normal a' w') π a w1.drew) : (Code.region id l.toArray true).wp P Q a w1 :=
  wp_region_mix _ π hm hB (fun w1 w2 h1 h2 => by
    obtain ⟨x, rfl⟩ := h1
    obtain ⟨os', d', rfl⟩ := h2
    exact ⟨⟨x.cur, x.os ++ os', d'⟩, by simp⟩) (in_gen cur hj.drew) h
end
end Go
