/- 'copy' into a slice of the call's own, of whatever size its elements are; such a slice reached beyond its length. -/
import Derived.Test.YtcnhlbkdhhjmiaaGreatDoorOwn
import Derived.Test.YtcnhlbkdhhjmiaaGreatDoorOwn2
import Derived.Test.YtcnhlbkdhhjmiaaGreatDoorMix2
import Derived.Laws.CopyRow
import Derived.Lib.AppendZerosOnto
import Derived.Lib.Overlaps
set_option linter.unusedVariables false
set_option maxRecDepth 100000
set_option linter.unusedSimpArgs false
namespace Go
open RowKit
theorem run_copy_rowk {P : Program} (w : World) (dT sT ty elem : TypeId) (sz g o dLen dCap n : Nat) (a : Addr) (sLen sCap : Nat) (cur : Array Value) (t : TypeId) (cs : List Value)
    (hu : P.underlying dT = some (.slice elem)) (hs : (P.info? elem).map (·.size) = some sz)
    (hg : w.heap[g]? = some (.cells cur t (0, 0))) (hn : n = Nat.min sLen dLen) (hcs : cs.length = n * sz)
    (hsrc : ∀ j v, cs[j]? = some v → w.cell? (a.add j) = some v) (hfit : o + cs.length ≤ cur.size) (h1 : ∀ v ∈ cs, v.oneCell' = true) :
    (Builtin.copy_ #[dT, sT] ty #[.slice (some ⟨g, o, none⟩) dLen dCap, .slice (some a) sLen sCap]).run P w =
      .ok (goInt n) (w.setRow g (cur.toList.take o ++ cs ++ cur.toList.drop (o + cs.length)).toArray) := by
  have hl := run_loadCells_list (P := P) w a cs hsrc
  have hst := run_storeCells_at P g o t cs 0 cur w hg (by simpa using hfit) h1
  cases hq : P.info? elem with
  | none => simp [hq] at hs
  | some i =>
    have hi : i.size = sz := by simpa [hq] using hs
    rw [hcs] at hl
    simp [Builtin.copy_, run_underlying hu, Builtin.lenOf, Builtin.firstCells, sizeOf, typeInfo, hq, hi, ← hn, hl, hst, hcs]
theorem own_grown {B : Nat} {w w' : World} {e : TypeId} {sz g cap n : Nat} {xs : List Value} {row : Option Nat} (h : Own B w e sz (some ⟨g, 0, none⟩) cap n xs) (hg : w.grownBy w' row) (hne : ∀ k, row = some k → k ≠ g) : Own B w' e sz (some ⟨g, 0, none⟩) cap n xs := by
  refine ⟨h.1, ?_⟩
  rcases h.2 with ⟨hn, _⟩ | ⟨g1, cap', cur, h1, hb, hc, hr⟩
  · cases hn
  · refine .inr ⟨g1, cap', cur, h1, hb, ?_, hr⟩
    cases h1
    have hlt := (Array.getElem?_eq_some_iff.1 hc).1
    rw [← hc]
    exact hg.block g hlt (fun e => hne g e.symm rfl)
theorem run_copy_own {P : Program} (w : World) (dT sT ty e : TypeId) {B sz g cap n : Nat} {xs : List Value} (hown : Own B w e sz (some ⟨g, 0, none⟩) cap n xs) (o dLen dCap m : Nat) (a : Addr) (sLen sCap : Nat) (cs : List Value)
    (hu : P.underlying dT = some (.slice e)) (hs : (P.info? e).map (·.size) = some sz) (hm : m = Nat.min sLen dLen) (hcs : cs.length = m * sz) (hfit : o + cs.length ≤ n * sz)
    (hsrc : ∀ j v, cs[j]? = some v → w.cell? (a.add j) = some v) (h1 : ∀ v ∈ cs, v.oneCell' = true) :
    ∃ w', (Builtin.copy_ #[dT, sT] ty #[.slice (some ⟨g, o, none⟩) dLen dCap, .slice (some a) sLen sCap]).run P w = .ok (goInt m) w' ∧
      Own B w' e sz (some ⟨g, 0, none⟩) cap n (xs.take o ++ cs ++ xs.drop (o + cs.length)) ∧ w.grownBy w' (some g) := by
  have hl := hown.1
  rcases hown.2 with ⟨hn, _⟩ | ⟨g1, cap', cur, h1', hb, hc, hnc, hcm, hsz, htk⟩
  · cases hn
  cases h1'
  have hle : n * sz ≤ cur.size := by rw [hsz]; exact Nat.mul_le_mul_right _ hnc
  refine ⟨_, run_copy_rowk w dT sT ty e sz g o dLen dCap m a sLen sCap cur e cs hu hs hc hm hcs hsrc (by omega) h1, ⟨?_, .inr ⟨g, cap, _, rfl, hb, setRow_heap w g cur _ e _ hc, hnc, hcm, ?_, ?_⟩⟩, ⟨rfl, rfl, rfl, by simp, fun k _ hk => setRow_other w g k _ (fun e => hk (by simp [e]))⟩⟩
  · simp [List.length_take, List.length_drop]; omega
  · simp [List.length_take, List.length_drop]; omega
  · have htk' : cur.toList.take (n * sz) = xs := htk
    rw [← htk']
    show ((cur.toList.take o ++ cs ++ cur.toList.drop (o + cs.length)).toArray.toList).take (n * sz) = _
    rw [List.toList_toArray]
    apply List.ext_getElem?
    intro j
    simp only [List.getElem?_take, List.getElem?_append, List.length_append, List.length_take, List.getElem?_drop, List.length_drop, Array.length_toList]
    have e1 : min o cur.size = o := by omega
    have e2 : min o (n * sz) = o := by omega
    rw [show min o (min (n * sz) cur.size) = o by omega, e1]
    by_cases hj : j < n * sz
    · rw [if_pos hj]
      by_cases h2 : j < o + cs.length
      · rw [if_pos h2, if_pos h2]
        by_cases h3 : j < o
        · rw [if_pos h3, if_pos h3, if_pos h3, if_pos h3, if_pos (by omega)]
        · rw [if_neg h3, if_neg h3]
      · rw [if_neg h2, if_neg h2, if_pos (by omega)]
    · rw [if_neg hj, if_neg (by omega), if_neg (by omega)]
/-- .. as a step of a plain region. -/
theorem cp_own {P : Program} {ops : Array Oper} {rest : List Oper} {o : Oper} {a : Act} {Q : Exit → Act → World → Prop} (hgd : o.guard = none) (d s : Operand) (dT sT : TypeId)
    (ho : o.op = .call { callee := .builtin .copy, args := #[d, s], argTypes := #[dT, sT] }) {v u : Value} (hd : a.eval d = v) (hs' : a.eval s = u) {w : World} {e : TypeId} {B sz g cap n : Nat} {xs : List Value}
    (hown : Own B w e sz (some ⟨g, 0, none⟩) cap n xs) (off dLen dCap m : Nat) (ad : Addr) (sLen sCap : Nat) (cs : List Value) (hv : v = .slice (some ⟨g, off, none⟩) dLen dCap) (huu : u = .slice (some ad) sLen sCap)
    (hu : P.underlying dT = some (.slice e)) (hs : (P.info? e).map (·.size) = some sz) (hm : m = Nat.min sLen dLen) (hcs : cs.length = m * sz) (hfit : off + cs.length ≤ n * sz)
    (hsrc : ∀ j v, cs[j]? = some v → w.cell? (ad.add j) = some v) (h1 : ∀ v ∈ cs, v.oneCell' = true)
    (h : ∀ w', w.grownBy w' (some g) → Own B w' e sz (some ⟨g, 0, none⟩) cap n (xs.take off ++ cs ++ xs.drop (off + cs.length)) → wpList P ops Q rest (a.put o.dst (goInt m)) w') : wpList P ops Q (o :: rest) a w := by
  obtain ⟨w', hr, hO, hg⟩ := run_copy_own (P := P) w dT sT o.type e hown off dLen dCap m ad sLen sCap cs hu hs hm hcs hfit hsrc h1
  refine wpList_plain hgd fun _ hK => ?_
  unfold Oper.wp execOp
  simp only [ho, resolve, invoke, builtin, Sem.run_bind, Sem.run_pure, Result.andThen_ok, List.map_toArray, List.map_cons, List.map_nil, hd, hs', hv, huu, hr]
  exact hK _ _ (h _ hg hO)
theorem cp_own_wp {P : Program} {o : Oper} {a : Act} {K : Act → World → Prop} {Q : Exit → Act → World → Prop} (d s : Operand) (dT sT : TypeId)
    (ho : o.op = .call { callee := .builtin .copy, args := #[d, s], argTypes := #[dT, sT] }) {v u : Value} (hd : a.eval d = v) (hs' : a.eval s = u) {w : World} {e : TypeId} {B sz g cap n : Nat} {xs : List Value}
    (hown : Own B w e sz (some ⟨g, 0, none⟩) cap n xs) (off dLen dCap m : Nat) (ad : Addr) (sLen sCap : Nat) (cs : List Value) (hv : v = .slice (some ⟨g, off, none⟩) dLen dCap) (huu : u = .slice (some ad) sLen sCap)
    (hu : P.underlying dT = some (.slice e)) (hs : (P.info? e).map (·.size) = some sz) (hm : m = Nat.min sLen dLen) (hcs : cs.length = m * sz) (hfit : off + cs.length ≤ n * sz)
    (hsrc : ∀ j v, cs[j]? = some v → w.cell? (ad.add j) = some v) (h1 : ∀ v ∈ cs, v.oneCell' = true)
    (h : ∀ w', w.grownBy w' (some g) → Own B w' e sz (some ⟨g, 0, none⟩) cap n (xs.take off ++ cs ++ xs.drop (off + cs.length)) → K (a.put o.dst (goInt m)) w') : o.wp P a w K Q := by
  obtain ⟨w', hr, hO, hg⟩ := run_copy_own (P := P) w dT sT o.type e hown off dLen dCap m ad sLen sCap cs hu hs hm hcs hfit hsrc h1
  unfold Oper.wp execOp
  simp only [ho, resolve, invoke, builtin, Sem.run_bind, Sem.run_pure, Result.andThen_ok, List.map_toArray, List.map_cons, List.map_nil, hd, hs', hv, huu, hr]
  exact h _ hg hO
theorem wpMixL_last1 {P : Program} {ops : Array Oper} {D : World → Prop} {last : Nat} {Q : Act → World → Prop} {o : Oper} {r : List (Nat × Bool)} {a : Act} {w : World} (ho : ops[last]? = some o) (hg : o.guard = none)
    (h : ∀ os d, ∀ K : Act → World → Prop, (∀ a w', wpMixL P ops D last Q r a w' → K a w') → o.wp P a (w.junk os d) K NoExit) :
    wpMixL P ops D last Q ((last, false) :: r) a w :=
  wpMixL_last ho fun os d K hK => by
    have hw : Region.wanted o (yielded ops a.tmps) = true := by simp [Region.wanted, hg]
    rw [if_pos hw]
    exact h os d K hK
theorem zeroCells_size (z : Array Value) (n : Nat) : (Builtin.zeroCells z n).size = n * z.size := by simp [Builtin.zeroCells]
/-- 'append(s[:k], make(S, m)...)' that grows: a new block; its first k elements are those of s. -/
theorem ap_grow {P : Program} {ops : Array Oper} {rest : List Oper} {o : Oper} {a : Act} {Q : Exit → Act → World → Prop} (hgd : o.guard = none) (s x : Operand) (t tn : TypeId)
    (ho : o.op = .call { callee := .builtin .append, args := #[s, x], argTypes := #[t, tn] })
    (e : TypeId) (z : Value) (sz bytes : Nat) (hinfo : (P.info? e).map (fun i => (i.zero, i.size, i.bytes)) = some (some z, sz, bytes)) (hzs : z.cells.size = sz) (hsz : 0 < sz) (hby : bytes ≤ 1000) (ht : P.underlying t = some (.slice e)) (kn kq : IntKind) (htn : P.underlying tn = some (.int kn))
    {w : World} {B g cap n : Nat} {xs : List Value} (hown : Own B w e sz (some ⟨g, 0, none⟩) cap n xs) (k m : Nat) {vs vx : Value} (hs : a.eval s = vs) (hx : a.eval x = vx) (hvs : vs = .slice (some ⟨g, 0, none⟩) k cap) (hvx : vx = .int kq m)
    (hk : k ≤ n) (hm : 0 < m) (hcap : cap < k + m) (hB : B ≤ w.heap.size) (hbd : k + m ≤ 10000000)
    (h : ∀ g' cap' zs w', Junk w w' → w.heap.size ≤ g' → Own B w' e sz (some ⟨g', 0, none⟩) cap' (k + m) zs → zs.take (k * sz) = xs.take (k * sz) → wpList P ops Q rest (a.put o.dst (.slice (some ⟨g', 0, none⟩) (k + m) cap')) w') : wpList P ops Q (o :: rest) a w := by
  subst hvs hvx
  obtain ⟨i, hi, hz0, hz1, hz2⟩ := info_parts hinfo
  have hxl := hown.len
  have hkl : k * sz ≤ n * sz := Nat.mul_le_mul_right _ hk
  have hol : (xs.take (k * sz)).length = k * sz := by rw [List.length_take]; omega
  have hold : (Builtin.firstCells i.size k (.slice (some ⟨g, 0, none⟩) k cap)).run P w.drew = .ok (xs.take (k * sz)).toArray w.drew :=
    run_firstCells_some (P := P) w.drew i.size k ⟨g, 0, none⟩ k cap (xs.take (k * sz)) (by rw [hz1]; exact hol) (fun j u hu => by
      have hu2 : xs[j]? = some u := by
        rw [List.getElem?_take] at hu
        split at hu
        · exact hu
        · cases hu
      obtain ⟨g1, h1, _, _, h2, _⟩ := hown.cells j u hu2
      cases h1
      rw [Addr.add_lit, Nat.zero_add]
      exact h2)
  have hmb : m * i.bytes ≤ 281474976710656 := by rw [hz2]; exact Nat.le_trans (Nat.mul_le_mul (show m ≤ 10000000 by omega) hby) (by decide)
  have hkb : (k + m) * i.bytes ≤ 140737488355328 := by rw [hz2]; exact Nat.le_trans (Nat.mul_le_mul hbd hby) (by decide)
  have hr := Lib.run_append_grow_zeros (P := P) w t tn o.type e i z kq kn ht htn hi hz0 (some ⟨g, 0, none⟩) k cap (xs.take (k * sz)) hold m hm (by omega) hcap (by omega) hmb (growslice_fits (by omega) hkb)
  refine Lib.wpList_append_run w hgd s x t tn ho _ _ hs hx _ _ hr ?_
  have hge := grownCap_ge w (k + m) cap e
  have hsize : ((xs.take (k * sz)).toArray ++ Builtin.zeroCells z.cells m ++ Builtin.zeroCells z.cells (grownCap w (k + m) cap e - (k + m))).size = grownCap w (k + m) cap e * sz := by
    rw [Array.size_append, Array.size_append, List.size_toArray, hol, zeroCells_size, zeroCells_size, hzs, ← Nat.add_mul, ← Nat.add_mul]
    congr 1
    omega
  refine h w.heap.size _ (((xs.take (k * sz)).toArray ++ Builtin.zeroCells z.cells m ++ Builtin.zeroCells z.cells (grownCap w (k + m) cap e - (k + m))).toList.take ((k + m) * sz)) _ ((Junk.refl w).drew.alloc _) (Nat.le_refl _) ⟨?_, .inr ⟨w.heap.size, _, _, rfl, hB, heap_alloc_new w.drew _, hge, grownCap_le_maxLen w (k + m) cap e (by simp only [maxLen]; omega), hsize, rfl⟩⟩ ?_
  · rw [List.length_take, Array.length_toList, hsize]
    exact Nat.min_eq_left (Nat.mul_le_mul_right _ hge)
  · rw [List.take_take, Nat.min_eq_left (Nat.mul_le_mul_right _ (by omega))]
    simp only [Array.toList_append, List.append_assoc]
    rw [List.take_append_of_le_length (by simp [hol])]
    rw [List.take_of_length_le (by simp [hol])]
/-- A slice of the call's own, one element longer. -/
theorem own_more {B : Nat} {w : World} {e : TypeId} {sz g cap n : Nat} {xs : List Value} (h : Own B w e sz (some ⟨g, 0, none⟩) cap n xs) (hr : n + 1 ≤ cap) : ∃ z, z.length = sz ∧ Own B w e sz (some ⟨g, 0, none⟩) cap (n + 1) (xs ++ z) := by
  have hl := h.1
  rcases h.2 with ⟨hn, _⟩ | ⟨g1, cap', cur, h1', hb, hc, hnc, hcm, hsz, htk⟩
  · cases hn
  cases h1'
  have hle : (n + 1) * sz ≤ cur.size := by rw [hsz]; exact Nat.mul_le_mul_right _ hr
  rw [Nat.add_mul, Nat.one_mul] at hle
  refine ⟨(cur.toList.drop (n * sz)).take sz, by rw [List.length_take, List.length_drop, Array.length_toList]; omega, ?_, .inr ⟨g, cap, cur, rfl, hb, hc, hr, hcm, hsz, ?_⟩⟩
  · rw [List.length_append, hl, List.length_take, List.length_drop, Array.length_toList, Nat.add_mul]; omega
  · rw [Nat.add_mul, Nat.one_mul, List.take_add, show cur.toList.take (n * sz) = xs from htk]
theorem own_cell {B : Nat} {w : World} {e : TypeId} {sz g cap n : Nat} {xs : List Value} (h : Own B w e sz (some ⟨g, 0, none⟩) cap n xs) (o : Nat) : ∀ j v, (xs.drop o)[j]? = some v → w.cell? ((⟨g, o, none⟩ : Addr).add j) = some v := fun j v hv => by
  rw [List.getElem?_drop] at hv
  obtain ⟨g1, h1, _, _, h2, _⟩ := h.cells (o + j) v hv
  cases h1
  rw [Addr.add_lit]
  exact h2
end Go
