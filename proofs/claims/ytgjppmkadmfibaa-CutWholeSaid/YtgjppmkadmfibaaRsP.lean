/- slices.IndexFunc and DeleteFunc over buffers, with a closure that is asked of the list's own buffers. -/
import Derived.Test.YtgjppmkadmfibaaOwn
import Derived.Test.YtgjppmkadmfibaaTcpC
import Derived.Test.YtgjppmkadmfibaaRsB
import Derived.Laws.CopyRow
import Derived.Lib.AppendZerosOnto
import Derived.Lib.Overlaps
import Derived.Deep.WholeRow
import Derived.Test.YtgjppmkadmfibaaRsD
import Derived.Test.YtgjppmkadmfibaaRsF
import Derived.Deep.DeepCutAuto
set_option linter.unusedVariables false
set_option maxRecDepth 100000
set_option linter.unusedSimpArgs false
namespace Go
open RowKit
theorem run_copy_rowk {P : Program} (w : World) (dT sT ty elem : TypeId) (sz g o dLen dCap n : Nat) (a : Addr) (sLen sCap : Nat) (cur : Array Value) (t : TypeId) (cs : List Value)
    (hu : P.underlying dT = some (.slice elem)) (hs : (P.info? elem).map (·.size) = some sz)
    (hg : w.heap[g]? = some (.cells cur t (0, 0))) (hn : n = Nat.min sLen dLen) (hcs : cs.length = n * sz)
    (hsrc : ∀ j v, cs[j]? = some v → w.cell? (a.add j) = some v) (hfit : o + cs.length ≤ cur.size) (h1 : ∀ v ∈ cs, v.oneCell' = true) :
    (Builtin.copy_ #[dT, sT] ty #[.slice (some ⟨g, o, none⟩) dLen dCap, .slice (some a) sLen sCap]).run P w =
      .ok (goInt n) (w.setRow g (cur.toList.take o ++ cs ++ cur.toList.drop (o + cs.length)).toArray) := by
  have hl := run_loadCells_list (P := P) w a cs hsrc
  have hst := run_storeCells_at P g o t cs 0 cur w hg (by simpa using hfit) h1
  cases hq : P.info? elem with
  | none => simp [hq] at hs
  | some i =>
    have hi : i.size = sz := by simpa [hq] using hs
    rw [hcs] at hl
    simp [Builtin.copy_, run_underlying hu, Builtin.lenOf, Builtin.firstCells, sizeOf, typeInfo, hq, hi, ← hn, hl, hst, hcs]
theorem own_grown {B : Nat} {w w' : World} {e : TypeId} {sz g cap n : Nat} {xs : List Value} {row : Option Nat} (h : Own B w e sz (some ⟨g, 0, none⟩) cap n xs) (hg : w.grownBy w' row) (hne : ∀ k, row = some k → k ≠ g) : Own B w' e sz (some ⟨g, 0, none⟩) cap n xs := by
  refine ⟨h.1, ?_⟩
  rcases h.2 with ⟨hn, _⟩ | ⟨g1, cap', cur, h1, hb, hc, hr⟩
  · cases hn
  · refine .inr ⟨g1, cap', cur, h1, hb, ?_, hr⟩
    cases h1
    have hlt := (Array.getElem?_eq_some_iff.1 hc).1
    rw [← hc]
    exact hg.block g hlt (fun e => hne g e.symm rfl)
theorem run_copy_own {P : Program} (w : World) (dT sT ty e : TypeId) {B sz g cap n : Nat} {xs : List Value} (hown : Own B w e sz (some ⟨g, 0, none⟩) cap n xs) (o dLen dCap m : Nat) (a : Addr) (sLen sCap : Nat) (cs : List Value)
    (hu : P.underlying dT = some (.slice e)) (hs : (P.info? e).map (·.size) = some sz) (hm : m = Nat.min sLen dLen) (hcs : cs.length = m * sz) (hfit : o + cs.length ≤ n * sz)
    (hsrc : ∀ j v, cs[j]? = some v → w.cell? (a.add j) = some v) (h1 : ∀ v ∈ cs, v.oneCell' = true) :
    ∃ w', (Builtin.copy_ #[dT, sT] ty #[.slice (some ⟨g, o, none⟩) dLen dCap, .slice (some a) sLen sCap]).run P w = .ok (goInt m) w' ∧
      Own B w' e sz (some ⟨g, 0, none⟩) cap n (xs.take o ++ cs ++ xs.drop (o + cs.length)) ∧ w.grownBy w' (some g) := by
  have hl := hown.1
  rcases hown.2 with ⟨hn, _⟩ | ⟨g1, cap', cur, h1', hb, hc, hnc, hcm, hsz, htk⟩
  · cases hn
  cases h1'
  have hle : n * sz ≤ cur.size := by rw [hsz]; exact Nat.mul_le_mul_right _ hnc
  refine ⟨_, run_copy_rowk w dT sT ty e sz g o dLen dCap m a sLen sCap cur e cs hu hs hc hm hcs hsrc (by omega) h1, ⟨?_, .inr ⟨g, cap, _, rfl, hb, setRow_heap w g cur _ e _ hc, hnc, hcm, ?_, ?_⟩⟩, ⟨rfl, rfl, rfl, by simp, fun k _ hk => setRow_other w g k _ (fun e => hk (by simp [e]))⟩⟩
  · simp [List.length_take, List.length_drop]; omega
  · simp [List.length_take, List.length_drop]; omega
  · have htk' : cur.toList.take (n * sz) = xs := htk
    rw [← htk']
    show ((cur.toList.take o ++ cs ++ cur.toList.drop (o + cs.length)).toArray.toList).take (n * sz) = _
    rw [List.toList_toArray]
    apply List.ext_getElem?
    intro j
    simp only [List.getElem?_take, List.getElem?_append, List.length_append, List.length_take, List.getElem?_drop, List.length_drop, Array.length_toList]
    have e1 : min o cur.size = o := by omega
    have e2 : min o (n * sz) = o := by omega
    rw [show min o (min (n * sz) cur.size) = o by omega, e1]
    by_cases hj : j < n * sz
    · rw [if_pos hj]
      by_cases h2 : j < o + cs.length
      · rw [if_pos h2, if_pos h2]
        by_cases h3 : j < o
        · rw [if_pos h3, if_pos h3, if_pos h3, if_pos h3, if_pos (by omega)]
        · rw [if_neg h3, if_neg h3]
      · rw [if_neg h2, if_neg h2, if_pos (by omega)]
    · rw [if_neg hj, if_neg (by omega), if_neg (by omega)]
/-- .. as a step of a plain region. -/
theorem cp_own {P : Program} {ops : Array Oper} {rest : List Oper} {o : Oper} {a : Act} {Q : Exit → Act → World → Prop} (hgd : o.guard = none) (d s : Operand) (dT sT : TypeId)
    (ho : o.op = .call { callee := .builtin .copy, args := #[d, s], argTypes := #[dT, sT] }) {v u : Value} (hd : a.eval d = v) (hs' : a.eval s = u) {w : World} {e : TypeId} {B sz g cap n : Nat} {xs : List Value}
    (hown : Own B w e sz (some ⟨g, 0, none⟩) cap n xs) (off dLen dCap m : Nat) (ad : Addr) (sLen sCap : Nat) (cs : List Value) (hv : v = .slice (some ⟨g, off, none⟩) dLen dCap) (huu : u = .slice (some ad) sLen sCap)
    (hu : P.underlying dT = some (.slice e)) (hs : (P.info? e).map (·.size) = some sz) (hm : m = Nat.min sLen dLen) (hcs : cs.length = m * sz) (hfit : off + cs.length ≤ n * sz)
    (hsrc : ∀ j v, cs[j]? = some v → w.cell? (ad.add j) = some v) (h1 : ∀ v ∈ cs, v.oneCell' = true)
    (h : ∀ w', w.grownBy w' (some g) → Own B w' e sz (some ⟨g, 0, none⟩) cap n (xs.take off ++ cs ++ xs.drop (off + cs.length)) → wpList P ops Q rest (a.put o.dst (goInt m)) w') : wpList P ops Q (o :: rest) a w := by
  obtain ⟨w', hr, hO, hg⟩ := run_copy_own (P := P) w dT sT o.type e hown off dLen dCap m ad sLen sCap cs hu hs hm hcs hfit hsrc h1
  refine wpList_plain hgd fun _ hK => ?_
  unfold Oper.wp execOp
  simp only [ho, resolve, invoke, builtin, Sem.run_bind, Sem.run_pure, Result.andThen_ok, List.map_toArray, List.map_cons, List.map_nil, hd, hs', hv, huu, hr]
  exact hK _ _ (h _ hg hO)
theorem cp_own_wp {P : Program} {o : Oper} {a : Act} {K : Act → World → Prop} {Q : Exit → Act → World → Prop} (d s : Operand) (dT sT : TypeId)
    (ho : o.op = .call { callee := .builtin .copy, args := #[d, s], argTypes := #[dT, sT] }) {v u : Value} (hd : a.eval d = v) (hs' : a.eval s = u) {w : World} {e : TypeId} {B sz g cap n : Nat} {xs : List Value}
    (hown : Own B w e sz (some ⟨g, 0, none⟩) cap n xs) (off dLen dCap m : Nat) (ad : Addr) (sLen sCap : Nat) (cs : List Value) (hv : v = .slice (some ⟨g, off, none⟩) dLen dCap) (huu : u = .slice (some ad) sLen sCap)
    (hu : P.underlying dT = some (.slice e)) (hs : (P.info? e).map (·.size) = some sz) (hm : m = Nat.min sLen dLen) (hcs : cs.length = m * sz) (hfit : off + cs.length ≤ n * sz)
    (hsrc : ∀ j v, cs[j]? = some v → w.cell? (ad.add j) = some v) (h1 : ∀ v ∈ cs, v.oneCell' = true)
    (h : ∀ w', w.grownBy w' (some g) → Own B w' e sz (some ⟨g, 0, none⟩) cap n (xs.take off ++ cs ++ xs.drop (off + cs.length)) → K (a.put o.dst (goInt m)) w') : o.wp P a w K Q := by
  obtain ⟨w', hr, hO, hg⟩ := run_copy_own (P := P) w dT sT o.type e hown off dLen dCap m ad sLen sCap cs hu hs hm hcs hfit hsrc h1
  unfold Oper.wp execOp
  simp only [ho, resolve, invoke, builtin, Sem.run_bind, Sem.run_pure, Result.andThen_ok, List.map_toArray, List.map_cons, List.map_nil, hd, hs', hv, huu, hr]
  exact h _ hg hO
theorem wpMixL_last1 {P : Program} {ops : Array Oper} {D : World → Prop} {last : Nat} {Q : Act → World → Prop} {o : Oper} {r : List (Nat × Bool)} {a : Act} {w : World} (ho : ops[last]? = some o) (hg : o.guard = none)
    (h : ∀ os d, ∀ K : Act → World → Prop, (∀ a w', wpMixL P ops D last Q r a w' → K a w') → o.wp P a (w.junk os d) K NoExit) :
    wpMixL P ops D last Q ((last, false) :: r) a w :=
  wpMixL_last ho fun os d K hK => by
    have hw : Region.wanted o (yielded ops a.tmps) = true := by simp [Region.wanted, hg]
    rw [if_pos hw]
    exact h os d K hK
theorem zeroCells_size (z : Array Value) (n : Nat) : (Builtin.zeroCells z n).size = n * z.size := by simp [Builtin.zeroCells]
/-- 'append(s[:k], make(S, m)...)' that grows: a new block; its first k elements are those of s. -/
theorem ap_grow {P : Program} {ops : Array Oper} {rest : List Oper} {o : Oper} {a : Act} {Q : Exit → Act → World → Prop} (hgd : o.guard = none) (s x : Operand) (t tn : TypeId)
    (ho : o.op = .call { callee := .builtin .append, args := #[s, x], argTypes := #[t, tn] })
    (e : TypeId) (z : Value) (sz bytes : Nat) (hinfo : (P.info? e).map (fun i => (i.zero, i.size, i.bytes)) = some (some z, sz, bytes)) (hzs : z.cells.size = sz) (hsz : 0 < sz) (hby : bytes ≤ 1000) (ht : P.underlying t = some (.slice e)) (kn kq : IntKind) (htn : P.underlying tn = some (.int kn))
    {w : World} {B g cap n : Nat} {xs : List Value} (hown : Own B w e sz (some ⟨g, 0, none⟩) cap n xs) (k m : Nat) {vs vx : Value} (hs : a.eval s = vs) (hx : a.eval x = vx) (hvs : vs = .slice (some ⟨g, 0, none⟩) k cap) (hvx : vx = .int kq m)
    (hk : k ≤ n) (hm : 0 < m) (hcap : cap < k + m) (hB : B ≤ w.heap.size) (hbd : k + m ≤ 10000000)
    (h : ∀ g' cap' zs w', Junk w w' → w.heap.size ≤ g' → Own B w' e sz (some ⟨g', 0, none⟩) cap' (k + m) zs → zs.take (k * sz) = xs.take (k * sz) → wpList P ops Q rest (a.put o.dst (.slice (some ⟨g', 0, none⟩) (k + m) cap')) w') : wpList P ops Q (o :: rest) a w := by
  subst hvs hvx
  obtain ⟨i, hi, hz0, hz1, hz2⟩ := info_parts hinfo
  have hxl := hown.len
  have hkl : k * sz ≤ n * sz := Nat.mul_le_mul_right _ hk
  have hol : (xs.take (k * sz)).length = k * sz := by rw [List.length_take]; omega
  have hold : (Builtin.firstCells i.size k (.slice (some ⟨g, 0, none⟩) k cap)).run P w.drew = .ok (xs.take (k * sz)).toArray w.drew :=
    run_firstCells_some (P := P) w.drew i.size k ⟨g, 0, none⟩ k cap (xs.take (k * sz)) (by rw [hz1]; exact hol) (fun j u hu => by
      have hu2 : xs[j]? = some u := by
        rw [List.getElem?_take] at hu
        split at hu
        · exact hu
        · cases hu
      obtain ⟨g1, h1, _, _, h2, _⟩ := hown.cells j u hu2
      cases h1
      rw [Addr.add_lit, Nat.zero_add]
      exact h2)
  have hmb : m * i.bytes ≤ 281474976710656 := by rw [hz2]; exact Nat.le_trans (Nat.mul_le_mul (show m ≤ 10000000 by omega) hby) (by decide)
  have hkb : (k + m) * i.bytes ≤ 140737488355328 := by rw [hz2]; exact Nat.le_trans (Nat.mul_le_mul hbd hby) (by decide)
  have hr := Lib.run_append_grow_zeros (P := P) w t tn o.type e i z kq kn ht htn hi hz0 (some ⟨g, 0, none⟩) k cap (xs.take (k * sz)) hold m hm (by omega) hcap (by omega) hmb (growslice_fits (by omega) hkb)
  refine Lib.wpList_append_run w hgd s x t tn ho _ _ hs hx _ _ hr ?_
  have hge := grownCap_ge w (k + m) cap e
  have hsize : ((xs.take (k * sz)).toArray ++ Builtin.zeroCells z.cells m ++ Builtin.zeroCells z.cells (grownCap w (k + m) cap e - (k + m))).size = grownCap w (k + m) cap e * sz := by
    rw [Array.size_append, Array.size_append, List.size_toArray, hol, zeroCells_size, zeroCells_size, hzs, ← Nat.add_mul, ← Nat.add_mul]
    congr 1
    omega
  refine h w.heap.size _ (((xs.take (k * sz)).toArray ++ Builtin.zeroCells z.cells m ++ Builtin.zeroCells z.cells (grownCap w (k + m) cap e - (k + m))).toList.take ((k + m) * sz)) _ ((Junk.refl w).drew.alloc _) (Nat.le_refl _) ⟨?_, .inr ⟨w.heap.size, _, _, rfl, hB, heap_alloc_new w.drew _, hge, grownCap_le_maxLen w (k + m) cap e (by simp only [maxLen]; omega), hsize, rfl⟩⟩ ?_
  · rw [List.length_take, Array.length_toList, hsize]
    exact Nat.min_eq_left (Nat.mul_le_mul_right _ hge)
  · rw [List.take_take, Nat.min_eq_left (Nat.mul_le_mul_right _ (by omega))]
    simp only [Array.toList_append, List.append_assoc]
    rw [List.take_append_of_le_length (by simp [hol])]
    rw [List.take_of_length_le (by simp [hol])]
/-- A slice of the call's own, one element longer. -/
theorem own_more {B : Nat} {w : World} {e : TypeId} {sz g cap n : Nat} {xs : List Value} (h : Own B w e sz (some ⟨g, 0, none⟩) cap n xs) (hr : n + 1 ≤ cap) : ∃ z, z.length = sz ∧ Own B w e sz (some ⟨g, 0, none⟩) cap (n + 1) (xs ++ z) := by
  have hl := h.1
  rcases h.2 with ⟨hn, _⟩ | ⟨g1, cap', cur, h1', hb, hc, hnc, hcm, hsz, htk⟩
  · cases hn
  cases h1'
  have hle : (n + 1) * sz ≤ cur.size := by rw [hsz]; exact Nat.mul_le_mul_right _ hr
  rw [Nat.add_mul, Nat.one_mul] at hle
  refine ⟨(cur.toList.drop (n * sz)).take sz, by rw [List.length_take, List.length_drop, Array.length_toList]; omega, ?_, .inr ⟨g, cap, cur, rfl, hb, hc, hr, hcm, hsz, ?_⟩⟩
  · rw [List.length_append, hl, List.length_take, List.length_drop, Array.length_toList, Nat.add_mul]; omega
  · rw [Nat.add_mul, Nat.one_mul, List.take_add, show cur.toList.take (n * sz) = xs from htk]
theorem own_cell {B : Nat} {w : World} {e : TypeId} {sz g cap n : Nat} {xs : List Value} (h : Own B w e sz (some ⟨g, 0, none⟩) cap n xs) (o : Nat) : ∀ j v, (xs.drop o)[j]? = some v → w.cell? ((⟨g, o, none⟩ : Addr).add j) = some v := fun j v hv => by
  rw [List.getElem?_drop] at hv
  obtain ⟨g1, h1, _, _, h2, _⟩ := h.cells (o + j) v hv
  cases h1
  rw [Addr.add_lit]
  exact h2
end Go
set_option linter.unusedVariables false
set_option maxRecDepth 100000
set_option linter.unusedSimpArgs false
namespace Go
open RowKit
theorem flat_len {sz : Nat} : ∀ {R : List (List Value)}, (∀ r ∈ R, r.length = sz) → R.flatten.length = R.length * sz
  | [], _ => by simp
  | r :: R, h => by
    rw [List.flatten_cons, List.length_append, h r (by simp), flat_len (R := R) (fun x hx => h x (by simp [hx])), List.length_cons, Nat.add_mul]
    omega
theorem flat_take {sz : Nat} : ∀ {R : List (List Value)}, (∀ r ∈ R, r.length = sz) → ∀ k, R.flatten.take (k * sz) = (R.take k).flatten
  | [], _, k => by simp
  | r :: R, h, 0 => by simp
  | r :: R, h, k + 1 => by
    have hr := h r (by simp)
    rw [List.flatten_cons, List.take_append, hr, List.take_succ_cons, List.flatten_cons, List.take_of_length_le (by rw [hr, Nat.add_mul]; omega), show (k + 1) * sz - sz = k * sz by rw [Nat.add_mul]; omega, flat_take (R := R) (fun x hx => h x (by simp [hx])) k]
theorem flat_drop {sz : Nat} : ∀ {R : List (List Value)}, (∀ r ∈ R, r.length = sz) → ∀ k, R.flatten.drop (k * sz) = (R.drop k).flatten
  | [], _, k => by simp
  | r :: R, h, 0 => by simp
  | r :: R, h, k + 1 => by
    have hr := h r (by simp)
    rw [List.flatten_cons, List.drop_append, hr, List.drop_succ_cons, List.drop_eq_nil_of_le (by rw [hr, Nat.add_mul]; omega), show (k + 1) * sz - sz = k * sz by rw [Nat.add_mul]; omega, flat_drop (R := R) (fun x hx => h x (by simp [hx])) k, List.nil_append]
theorem flat_get {sz : Nat} {R : List (List Value)} (h : ∀ r ∈ R, r.length = sz) {i : Nat} {r : List Value} (hr : R[i]? = some r) {j : Nat} (hj : j < sz) : R.flatten[i * sz + j]? = r[j]? := by
  obtain ⟨hi, rfl⟩ := List.getElem?_eq_some_iff.1 hr
  have h1 := flat_drop h i
  rw [← List.getElem?_drop, h1, List.drop_eq_getElem_cons hi, List.flatten_cons, List.getElem?_append_left (by rw [h _ (List.getElem_mem hi)]; exact hj)]
theorem flat_put {sz : Nat} {R : List (List Value)} (h : ∀ r ∈ R, r.length = sz) {i : Nat} (hi : i < R.length) {c : List Value} (hc : c.length = sz) : R.flatten.take (i * sz) ++ c ++ R.flatten.drop (i * sz + c.length) = (R.set i c).flatten := by
  rw [flat_take h, hc, show i * sz + sz = (i + 1) * sz by rw [Nat.add_mul]; omega, flat_drop h, List.set_eq_take_append_cons_drop, if_pos hi, List.flatten_append, List.flatten_cons, List.append_assoc]
theorem flat_set {sz : Nat} {R : List (List Value)} (h : ∀ r ∈ R, r.length = sz) {i : Nat} {r : List Value} (hr : R[i]? = some r) {j : Nat} (hj : j < sz) (v : Value) : R.flatten.set (i * sz + j) v = (R.set i (r.set j v)).flatten := by
  obtain ⟨hi, rfl⟩ := List.getElem?_eq_some_iff.1 hr
  have hl := h _ (List.getElem_mem hi)
  rw [← flat_put h hi (c := R[i].set j v) (by rw [List.length_set, hl])]
  have e : R.flatten = R.flatten.take (i * sz) ++ R[i] ++ R.flatten.drop (i * sz + sz) := by
    have e1 := flat_put h hi hl
    rw [hl] at e1
    rw [e1]
    rw [show R.set i R[i] = R from List.set_getElem_self hi]
  have hlen : (R.flatten.take (i * sz)).length = i * sz := by
    rw [List.length_take, flat_len h]
    exact Nat.min_eq_left (Nat.mul_le_mul_right _ (by omega))
  conv => lhs; rw [e]
  rw [List.append_assoc, List.set_append_right _ _ (by omega), hlen, show i * sz + j - i * sz = j by omega, List.set_append_left _ _ (by omega), List.length_set, hl, List.append_assoc]
/-- Cells that can be read from an address on. -/
def SrcAt (w : World) (oa : Option Addr) (xs : List Value) : Prop := ∀ ad, oa = some ad → ∀ j u, xs[j]? = some u → w.cell? (ad.add j) = some u
theorem SrcAt.on {w w' : World} {oa : Option Addr} {xs : List Value} (h : SrcAt w oa xs) (hj : Junk w w') : SrcAt w' oa xs := fun ad had j u hu => by
  have hc := h ad had j u hu
  have hlt : (ad.add j).block < w.heap.size := by
    unfold World.cell? at hc
    cases hb : w.heap[(ad.add j).block]? with
    | none => simp [hb] at hc
    | some o => exact (Array.getElem?_eq_some_iff.1 hb).1
  exact ((hj.below (Nat.le_refl _)).cell hlt).trans hc
theorem Own.src {B : Nat} {w : World} {e : TypeId} {sz : Nat} {oa : Option Addr} {cap n : Nat} {xs : List Value} (h : Own B w e sz oa cap n xs) : SrcAt w oa xs := fun ad had j u hu => by
  obtain ⟨g, h1, _, _, h2, _⟩ := h.cells j u hu
  rw [had] at h1
  cases h1
  rw [Addr.add_lit, Nat.zero_add]
  exact h2
section
variable {P : Program} {w : World} {B : Nat} {e : TypeId} {sz g cap n : Nat} {xs : List Value}
/-- A whole struct stored into the slice. -/
theorem run_storeOwn (hown : Own B w e sz (some ⟨g, 0, none⟩) cap n xs) (t : TypeId) (o : Nat) (c : Array Value) (hi : (P.info? t).map (·.size) = some c.size) (hfit : o + c.size ≤ n * sz) (h1 : ∀ v ∈ c.toList, v.oneCell' = true) :
    ∃ w', (Instr.storeAt t (.pointer (some ⟨g, o, none⟩)) (.agg c)).run P w = .ok () w' ∧ Own B w' e sz (some ⟨g, 0, none⟩) cap n (xs.take o ++ c.toList ++ xs.drop (o + c.toList.length)) ∧ w.grownBy w' (some g) := by
  have hl := hown.1
  rcases hown.2 with ⟨hn, _⟩ | ⟨g1, cap', cur, h1', hb, hc, hnc, hcm, hsz, htk⟩
  · cases hn
  cases h1'
  have hle : n * sz ≤ cur.size := by rw [hsz]; exact Nat.mul_le_mul_right _ hnc
  have hst := run_storeCells_at P g o e c.toList 0 cur w hc (by simp; omega) h1
  simp only [Nat.add_zero] at hst
  cases hq : P.info? t with
  | none => simp [hq] at hi
  | some i =>
    have hs : c.size = i.size := by simp [hq] at hi; omega
    refine ⟨w.setRow g (cur.toList.take o ++ c.toList ++ cur.toList.drop (o + c.toList.length)).toArray, ?_, ⟨?_, .inr ⟨g, cap, _, rfl, hb, setRow_heap w g cur _ e _ hc, hnc, hcm, ?_, ?_⟩⟩, ⟨rfl, rfl, rfl, by simp, fun k _ hk => setRow_other w g k _ (fun e => hk (by simp [e]))⟩⟩
    · simp [hs] at hst
      simp [Instr.storeAt, Instr.sureAddr, storeVar, sizeOf, typeInfo, hq, hs, Value.cells, hst]
    · simp [List.length_take, List.length_drop]; omega
    · simp [List.length_take, List.length_drop]; omega
    · have htk' : cur.toList.take (n * sz) = xs := htk
      rw [← htk']
      show ((cur.toList.take o ++ c.toList ++ cur.toList.drop (o + c.toList.length)).toArray.toList).take (n * sz) = _
      rw [List.toList_toArray]
      apply List.ext_getElem?
      intro j
      simp only [List.getElem?_take, List.getElem?_append, List.length_append, List.length_take, List.getElem?_drop, List.length_drop, Array.length_toList]
      have e1 : min o cur.size = o := by omega
      rw [show min o (min (n * sz) cur.size) = o by omega, e1]
      by_cases hj : j < n * sz
      · rw [if_pos hj]
        by_cases h2 : j < o + c.size
        · rw [if_pos h2, if_pos h2]
          by_cases h3 : j < o
          · rw [if_pos h3, if_pos h3, if_pos h3, if_pos h3, if_pos (by omega)]
          · rw [if_neg h3, if_neg h3]
        · rw [if_neg h2, if_neg h2, if_pos (by omega)]
      · rw [if_neg hj, if_neg (by omega), if_neg (by omega)]
theorem wpList_storeOwn {ops : Array Oper} {rest : List Oper} {o : Oper} {a : Act} {Q : Exit → Act → World → Prop} (hgd : o.guard = none) (t : TypeId) (x y : Operand) (ho : o.op = .store t x y)
    (hown : Own B w e sz (some ⟨g, 0, none⟩) cap n xs) (off : Nat) (c : Array Value) (hi : (P.info? t).map (·.size) = some c.size) (hx : a.eval x = .pointer (some ⟨g, off, none⟩)) (hy : a.eval y = .agg c) (hfit : off + c.size ≤ n * sz) (h1 : ∀ v ∈ c.toList, v.oneCell' = true)
    (h : ∀ w', w.grownBy w' (some g) → Own B w' e sz (some ⟨g, 0, none⟩) cap n (xs.take off ++ c.toList ++ xs.drop (off + c.toList.length)) → wpList P ops Q rest (a.put o.dst undef) w') : wpList P ops Q (o :: rest) a w := by
  obtain ⟨w', hrun, hO, hg⟩ := run_storeOwn (P := P) hown t off c hi hfit h1
  exact wpList_plain hgd fun K hK => by
    have := hK _ _ (h w' hg hO)
    unfold Oper.wp
    simp only [execOp, ho, hx, hy, hrun, Sem.run_bind, Sem.run_pure, Result.andThen]
    simpa [Oper.upon] using this
/-- .. one cell of it. -/
theorem own_set_grown (hown : Own B w e sz (some ⟨g, 0, none⟩) cap n xs) (o : Nat) (v : Value) : w.grownBy (w.setCell ⟨g, o, none⟩ v) (some g) :=
  ⟨rfl, rfl, rfl, by simp [World.setCell], fun k _ hk => Below.heap_setCell _ _ _ k (fun e => hk (by rw [e]))⟩
end
end Go
set_option linter.unusedVariables false
set_option maxRecDepth 100000
set_option linter.unusedSimpArgs false
namespace Go.Proofs.Ytgjppmkadmfibaa
open Go.RowKit
def bfsL (L : List Bf) : List Value := (L.map Bf.cells).flatten
theorem Bf.cells_len (b : Bf) : b.cells.length = 19 := rfl
theorem bf_rows (L : List Bf) : ∀ r ∈ L.map Bf.cells, r.length = 19 := by
  intro r hr
  obtain ⟨b, _, rfl⟩ := List.mem_map.1 hr
  rfl
theorem ot_rows (L : List Ot) : ∀ r ∈ L.map Ot.cells, r.length = 2 := by
  intro r hr
  obtain ⟨b, _, rfl⟩ := List.mem_map.1 hr
  rfl
theorem Bf.one (b : Bf) : ∀ u ∈ b.cells, u.oneCell' = true := by
  intro u hu
  simp only [Bf.cells, List.mem_cons, List.not_mem_nil, or_false] at hu
  rcases hu with rfl | rfl | rfl | rfl | rfl | rfl | rfl | rfl | rfl | rfl | rfl | rfl | rfl | rfl | rfl | rfl | rfl | rfl | rfl <;> rfl
theorem bfsL_len (L : List Bf) : (bfsL L).length = L.length * 19 := by unfold bfsL; rw [flat_len (bf_rows L), List.length_map]
theorem bfsL_one (L : List Bf) : ∀ u ∈ bfsL L, u.oneCell' = true := by
  intro u hu
  unfold bfsL at hu
  obtain ⟨r, hr, hu⟩ := List.mem_flatten.1 hu
  obtain ⟨b, _, rfl⟩ := List.mem_map.1 hr
  exact b.one u hu
theorem otsL_oneR (L : List Ot) : ∀ u ∈ otsL L, u.oneCell' = true := by
  intro u hu
  unfold otsL at hu
  obtain ⟨r, hr, hu⟩ := List.mem_flatten.1 hu
  obtain ⟨b, _, rfl⟩ := List.mem_map.1 hr
  exact b.one u hu
theorem bfsL_get {L : List Bf} {i : Nat} {b : Bf} (h : L[i]? = some b) {j : Nat} (hj : j < 19) : (bfsL L)[i * 19 + j]? = b.cells[j]? := by
  unfold bfsL
  exact flat_get (bf_rows L) (by rw [List.getElem?_map, h]; rfl) hj
theorem bfsL_split {L : List Bf} {j : Nat} {u : Value} (h : (bfsL L)[j]? = some u) : ∃ b, L[j / 19]? = some b ∧ b.cells[j % 19]? = some u := by
  have hj : j < L.length * 19 := by have := (List.getElem?_eq_some_iff.1 h).1; rw [bfsL_len] at this; exact this
  have hd : j / 19 < L.length := by omega
  refine ⟨L[j / 19], List.getElem?_eq_getElem hd, ?_⟩
  rw [← bfsL_get (List.getElem?_eq_getElem hd) (Nat.mod_lt _ (by decide)), show j / 19 * 19 + j % 19 = j by omega]
  exact h
theorem otsL_split {L : List Ot} {j : Nat} {u : Value} (h : (otsL L)[j]? = some u) : ∃ b, L[j / 2]? = some b ∧ b.cells[j % 2]? = some u := by
  have hj : j < L.length * 2 := by have := (List.getElem?_eq_some_iff.1 h).1; rw [otsL_len] at this; exact this
  have hd : j / 2 < L.length := by omega
  refine ⟨L[j / 2], List.getElem?_eq_getElem hd, ?_⟩
  rw [← otsL_get L _ _ (List.getElem?_eq_getElem hd) _ (Nat.mod_lt _ (by decide)), show j / 2 * 2 + j % 2 = j by omega]
  exact h
theorem PlAt.src {w : World} {oa : Option Addr} {L : List Bf} (h : PlAt w oa L) : SrcAt w oa (bfsL L) := fun ad had j u hu => by
  obtain ⟨b, hb, hc⟩ := bfsL_split hu
  obtain ⟨g, off, he, _, hcs, _⟩ := h _ _ hb
  rw [had] at he
  cases he
  rw [Addr.add_lit, show off + j = off + j / 19 * 19 + j % 19 by omega]
  exact hcs _ _ hc
theorem OsAt.srcR {w : World} {oa : Option Addr} {F : List Ot} (h : OsAt w oa F) : SrcAt w oa (otsL F) := fun ad had j u hu => by
  obtain ⟨f, hf, hc⟩ := otsL_split hu
  obtain ⟨g, off, he, _, h0, h1, _⟩ := h _ _ hf
  rw [had] at he
  cases he
  rw [Addr.add_lit]
  rcases (show j % 2 = 0 ∨ j % 2 = 1 by omega) with hm | hm
  · rw [hm] at hc
    simp only [Ot.cells, List.getElem?_cons_zero, Option.some.injEq] at hc
    rw [show off + j = off + j / 2 * 2 by omega, ← hc]
    exact h0
  · rw [hm] at hc
    simp only [Ot.cells, List.getElem?_cons_succ, List.getElem?_cons_zero, Option.some.injEq] at hc
    rw [show off + j = off + j / 2 * 2 + 1 by omega, ← hc]
    exact h1
theorem own_bf {B : Nat} {w : World} {e : TypeId} {g cap n : Nat} {L : List Bf} (h : Own B w e 19 (some ⟨g, 0, none⟩) cap n (bfsL L)) {i : Nat} {b : Bf} (hb : L[i]? = some b) : ∀ j v, b.cells[j]? = some v → w.cell? ⟨g, i * 19 + j, none⟩ = some v := fun j v hv => by
  have hj : j < 19 := by have := (List.getElem?_eq_some_iff.1 hv).1; rw [Bf.cells_len] at this; exact this
  obtain ⟨g', h1, _, _, h2, _⟩ := h.cells (i * 19 + j) v (by rw [bfsL_get hb hj]; exact hv)
  cases h1
  exact h2
theorem own_plat {B : Nat} {w : World} {e : TypeId} {oa : Option Addr} {cap n : Nat} {L : List Bf} (h : Own B w e 19 oa cap n (bfsL L)) (hA : ∀ b ∈ L, BfIn w b) : PlAt w oa L := fun i b hb => by
  obtain ⟨g, h1, _, h3, _, _⟩ := h.cells (i * 19 + 0) _ (by rw [bfsL_get hb (by decide)]; rfl)
  subst h1
  exact ⟨g, 0, rfl, h3, fun j v hv => by rw [Nat.zero_add]; exact own_bf h hb j v hv, hA b (List.mem_of_getElem? hb)⟩
theorem own_mkR (w : World) (e : TypeId) (sz : Nat) (cur : Array Value) (hs : cur.size = 0) : Own w.heap.size (w.alloc (.cells cur e)) e sz (some ⟨w.heap.size, 0, none⟩) 0 0 [] := own_made w e sz 0 _ cur rfl (Nat.le_refl _) (by simp [maxLen]) (by simp [hs])
set_option maxHeartbeats 1000000 in
theorem cloneB_any (oa : Option Addr) (l c : Nat) (xs : List Value) (w : World) (hl : l ≤ 1000000) (hx : xs.length = l * 19) (hS : SrcAt w oa xs) (h1 : ∀ u ∈ xs, u.oneCell' = true) (hn : oa = none → l = 0 ∧ c = 0) :
    Calls Try.prog 42 #[.slice oa l c] w fun e w' => ∃ ob cap, e = .returned (.slice ob l cap) ∧ Junk w w' ∧ Own w.heap.size w' 45 19 ob cap l xs := by
  have HS := Lib.hid hS
  have HX := Lib.hid hx
  have H1 := Lib.hid h1
  clear hS hx h1
  cases oa with
  | none =>
    obtain ⟨rfl, rfl⟩ := hn rfl
    have hne := fun (w : World) => Lib.run_eql_slice_nil (P := Try.prog) w 29 45 none 0 0 0 0 Try.underlying29
    have HE := Lib.hid (show xs = [] from List.eq_nil_of_length_eq_zero (by rw [HX.out]))
    go_enter Try.func42, Try.ntmps42
    go_wp2
    go_ret
    exact ⟨none, 0, rfl, by (exact jkc), by rw [HE.out]; exact Own.nil _ _ _ _⟩
  | some a =>
    have hne := fun (w : World) => Lib.run_eql_slice_nil (P := Try.prog) w 29 45 (some a) l c 0 0 Try.underlying29
    go_enter Try.func42, Try.ntmps42
    go_wp2_with (first
      | (at_builtin; (refine ap_own (W0 := w) rfl _ _ 29 rfl 45 (.agg #[.int .u32 0, .int .u32 0, .int .i64 0, .int .i64 0, .int .i64 0, .int .i64 0, .int .i64 0, .bool false, .bool false, .int .i64 0, .int .i64 0, .int .i64 0, .int .u32 0, .int .u32 0, .slice none 0 0, .slice none 0 0, .bool false, .int .i64 0, .slice none 0 0]) 19 176 (by kernel_rfl) rfl (by decide) Try.underlying29 (by (exact jkc)) _ 0 0 [] rfl (own_mkR _ _ _ _ (by simp)) (some a) l c rfl xs HX.out (HS.out.on (by (exact jkc))) (fun h => by cases h) H1.out (by simp only [maxLen]; omega) (by omega) ?_; intro oa1 cap1 os1 d1 hown _; rw [List.nil_append, Nat.zero_add] at hown; have Hown := Lib.hid hown; clear hown)))
    go_ret
    exact ⟨oa1, cap1, rfl, by (exact jkc), Hown.out⟩
set_option maxHeartbeats 1000000 in
theorem cloneR_any (oa : Option Addr) (l c : Nat) (xs : List Value) (w : World) (hl : l ≤ 1000000) (hx : xs.length = l * 2) (hS : SrcAt w oa xs) (h1 : ∀ u ∈ xs, u.oneCell' = true) (hn : oa = none → l = 0 ∧ c = 0) :
    Calls Try.prog 43 #[.slice oa l c] w fun e w' => ∃ ob cap, e = .returned (.slice ob l cap) ∧ Junk w w' ∧ Own w.heap.size w' 72 2 ob cap l xs := by
  have HS := Lib.hid hS
  have HX := Lib.hid hx
  have H1 := Lib.hid h1
  clear hS hx h1
  cases oa with
  | none =>
    obtain ⟨rfl, rfl⟩ := hn rfl
    have hne := fun (w : World) => Lib.run_eql_slice_nil (P := Try.prog) w 43 72 none 0 0 0 0 Try.underlying43
    have HE := Lib.hid (show xs = [] from List.eq_nil_of_length_eq_zero (by rw [HX.out]))
    go_enter Try.func43, Try.ntmps43
    go_wp2
    go_ret
    exact ⟨none, 0, rfl, by (exact jkc), by rw [HE.out]; exact Own.nil _ _ _ _⟩
  | some a =>
    have hne := fun (w : World) => Lib.run_eql_slice_nil (P := Try.prog) w 43 72 (some a) l c 0 0 Try.underlying43
    go_enter Try.func43, Try.ntmps43
    go_wp2_with (first
      | (at_builtin; (refine ap_own (W0 := w) rfl _ _ 43 rfl 72 (.agg #[.int .i64 0, .slice none 0 0]) 2 32 (by kernel_rfl) rfl (by decide) Try.underlying43 (by (exact jkc)) _ 0 0 [] rfl (own_mkR _ _ _ _ (by simp)) (some a) l c rfl xs HX.out (HS.out.on (by (exact jkc))) (fun h => by cases h) H1.out (by simp only [maxLen]; omega) (by omega) ?_; intro oa1 cap1 os1 d1 hown _; rw [List.nil_append, Nat.zero_add] at hown; have Hown := Lib.hid hown; clear hown)))
    go_ret
    exact ⟨oa1, cap1, rfl, by (exact jkc), Hown.out⟩
/-- A slice's block lies between two marks. -/
def In (lo hi : Nat) (oa : Option Addr) (l : Nat) : Prop := 0 < l → ∀ a, oa = some a → lo ≤ a.block ∧ a.block < hi
theorem In.mono {lo hi lo' hi' : Nat} {oa : Option Addr} {l : Nat} (h : In lo hi oa l) (h1 : lo' ≤ lo) (h2 : hi ≤ hi') : In lo' hi' oa l := fun hl a ha => ⟨Nat.le_trans h1 (h hl a ha).1, Nat.lt_of_lt_of_le (h hl a ha).2 h2⟩
theorem In.off {lo hi : Nat} {oa : Option Addr} {l : Nat} {row : Option Nat} (h : In lo hi oa l) (hr : ∀ k, row = some k → k < lo ∨ hi ≤ k) : Go.Off row oa l := fun hl a ha he => by
  have h1 := h hl a ha
  have h2 := hr _ he.symm
  omega
theorem bts_in {w : World} {oa : Option Addr} {l c lo : Nat} {xs : Nat → Int} (h : Bts w oa l c xs) (hf : Fresh lo oa) : In lo w.heap.size oa l := fun hl a ha => ⟨hf a ha, by
  have := h.below hl a ha
  exact this⟩
theorem own_grownR {B : Nat} {w w' : World} {e : TypeId} {sz : Nat} {oa : Option Addr} {cap n : Nat} {xs : List Value} {row : Option Nat} (h : Own B w e sz oa cap n xs) (hg : w.grownBy w' row) (hne : ∀ k, row = some k → ∀ a, oa = some a → k ≠ a.block) : Own B w' e sz oa cap n xs := by
  rcases h.form with ⟨rfl, h1, h2⟩ | ⟨g, cur, rfl, _⟩
  · subst h1 h2
    have hl := h.len
    obtain rfl : xs = [] := List.eq_nil_of_length_eq_zero (by rw [hl, Nat.zero_mul])
    exact Own.nil _ _ _ _
  · exact own_grown h hg (fun k hk => hne k hk _ rfl)
/-- A buffer whose slices lie between two marks, its runs in a slice of their own. -/
structure FrB (w : World) (lo hi : Nat) (b : Bf) : Prop where
  opts : Bts w b.ho b.head.ol b.hoc b.head.opts
  optsIn : In lo hi b.ho b.head.ol
  optsOff : Go.Off (rowOf b.ro) b.ho b.head.ol
  own : Own lo w 72 2 b.ro b.rc b.F.length (otsL b.F)
  ownIn : ∀ a, b.ro = some a → a.block < hi
  data : ∀ f ∈ b.F, Bts w f.oa f.l f.c f.xs ∧ In lo hi f.oa f.l ∧ Go.Off (rowOf b.ro) f.oa f.l
theorem FrB.on {w w' : World} {lo hi : Nat} {b : Bf} (h : FrB w lo hi b) (hj : Junk w w') : FrB w' lo hi b :=
  ⟨h.opts.on hj, h.optsIn, h.optsOff, h.own.on hj, h.ownIn, fun f hf => ⟨(h.data f hf).1.on hj, (h.data f hf).2⟩⟩
theorem FrB.grown {w w' : World} {lo hi : Nat} {b : Bf} {row : Option Nat} (h : FrB w lo hi b) (hg : w.grownBy w' row) (hr : ∀ k, row = some k → k < lo ∨ hi ≤ k) : FrB w' lo hi b :=
  ⟨h.opts.grown hg (h.optsIn.off hr), h.optsIn, h.optsOff, own_grownR h.own hg (fun k hk a ha he => by
      have h1 := h.ownIn a ha
      have h2 := own_fresh h.own a ha
      have h3 := hr k hk
      omega), h.ownIn, fun f hf => ⟨(h.data f hf).1.grown hg ((h.data f hf).2.1.off hr), (h.data f hf).2⟩⟩
theorem FrB.bfIn {w : World} {lo hi : Nat} {b : Bf} (h : FrB w lo hi b) (hb : Bts w b.hb b.head.bl b.hbc b.head.body) (hs : 0 ≤ b.head.src ∧ b.head.src ≤ 4294967295) (hd : 0 ≤ b.head.dst ∧ b.head.dst ≤ 4294967295) : BfIn w b := by
  refine ⟨⟨h.opts, hb, hs, hd⟩, own_os h.own (fun f hf => (h.data f hf).1), fun hn => ?_, h.own.capLe.1, h.own.capLe.2⟩
  rcases h.own.form with ⟨_, h1, h2⟩ | ⟨g, cur, h1, _⟩
  · exact ⟨h1, h2⟩
  · rw [hn] at h1; cases h1
/-- The state of the pool's copying. -/
structure CpW (w V : World) (ob : Option Addr) (cap l : Nat) (room life now : Int) (R : List Bf) : Prop where
  box : V.heap[w.heap.size]? = some (.cells #[.int .i64 room, .int .i64 life, .int .i64 now, .slice ob l cap] 31 (0, 0))
  res : V.heap[w.heap.size + 1]? = some (.cells #[.int .i64 0, .int .i64 0, .int .i64 0, .slice none 0 0] 31 (0, 0))
  own : Own (w.heap.size + 2) V 45 19 ob cap l (bfsL R)
  junk : Junk w V
theorem own_geR {B : Nat} {w : World} {e : TypeId} {sz g cap n : Nat} {xs : List Value} (h : Own B w e sz (some ⟨g, 0, none⟩) cap n xs) : B ≤ g ∧ g < w.heap.size := by
  rcases h.form with ⟨h0, _⟩ | ⟨g1, cur, h0, h1, h2, _⟩
  · cases h0
  · cases h0; exact ⟨h1, (Array.getElem?_eq_some_iff.1 h2).1⟩
theorem CpW.on {w V V' : World} {ob : Option Addr} {cap l : Nat} {room life now : Int} {R : List Bf} (h : CpW w V ob cap l room life now R) (hj : Junk V V') : CpW w V' ob cap l room life now R := by
  refine ⟨?_, ?_, h.own.on hj, h.junk.trans hj⟩
  · obtain ⟨os, d, rfl⟩ := hj
    rw [World.heap_junk _ _ _ (Array.getElem?_eq_some_iff.1 h.box).1]
    exact h.box
  · obtain ⟨os, d, rfl⟩ := hj
    rw [World.heap_junk _ _ _ (Array.getElem?_eq_some_iff.1 h.res).1]
    exact h.res
theorem CpW.grown {w V V' : World} {ob : Option Addr} {cap l : Nat} {room life now : Int} {R : List Bf} {r : Nat} (h : CpW w V ob cap l room life now R) (hg : V.grownBy V' (some r)) (h1 : w.heap.size + 1 < r) (h2 : ∀ a, ob = some a → r ≠ a.block) : CpW w V' ob cap l room life now R := by
  refine ⟨?_, ?_, own_grownR h.own hg (fun k hk a ha => by cases hk; exact h2 a ha), below_of_grown h.junk hg (fun k hk => by cases hk; omega)⟩
  · rw [← h.box]
    exact hg.block _ (Array.getElem?_eq_some_iff.1 h.box).1 (fun e => by cases e; omega)
  · rw [← h.res]
    exact hg.block _ (Array.getElem?_eq_some_iff.1 h.res).1 (fun e => by cases e; omega)
theorem CpW.set {w V : World} {g cap l : Nat} {room life now : Int} {R : List Bf} (h : CpW w V (some ⟨g, 0, none⟩) cap l room life now R) {i : Nat} {b b' : Bf} (hb : R[i]? = some b) {j : Nat} (hj : j < 19) {v : Value} (hc : b.cells.set j v = b'.cells) :
    CpW w (V.setCell ⟨g, i * 19 + j, none⟩ v) (some ⟨g, 0, none⟩) cap l room life now (R.set i b') := by
  have hge := own_geR h.own
  refine ⟨?_, ?_, ?_, h.junk.setCell (a := ⟨g, i * 19 + j, none⟩) (by simp only; omega) v⟩
  · rw [Below.heap_setCell _ _ _ _ (by simp only; omega)]
    exact h.box
  · rw [Below.heap_setCell _ _ _ _ (by simp only; omega)]
    exact h.res
  · have := (World.ownsRow.stored h.own (i * 19 + j) v).1
    have e : (bfsL R).set (i * 19 + j) v = bfsL (R.set i b') := by
      unfold bfsL
      rw [flat_set (bf_rows R) (by rw [List.getElem?_map, hb]; rfl) hj v, hc, List.map_set]
    rw [e] at this
    exact this
theorem CpW.t3 {w V : World} {ob : Option Addr} {cap l : Nat} {room life now : Int} {R : List Bf} (h : CpW w V ob cap l room life now R) : V.cell? ⟨w.heap.size, 3, none⟩ = some (.slice ob l cap) := by
  unfold World.cell?
  simp only [h.box]
  rfl
theorem CpW.t012 {w V : World} {ob : Option Addr} {cap l : Nat} {room life now : Int} {R : List Bf} (h : CpW w V ob cap l room life now R) : V.cell? ⟨w.heap.size, 0, none⟩ = some (.int .i64 room) ∧ V.cell? ⟨w.heap.size, 1, none⟩ = some (.int .i64 life) ∧ V.cell? ⟨w.heap.size, 2, none⟩ = some (.int .i64 now) := by
  unfold World.cell?
  simp only [h.box]
  exact ⟨rfl, rfl, rfl⟩
theorem CpW.r {w V : World} {ob : Option Addr} {cap l : Nat} {room life now : Int} {R : List Bf} (h : CpW w V ob cap l room life now R) : V.cell? ⟨w.heap.size + 1, 0, none⟩ = some (.int .i64 0) ∧ V.cell? ⟨w.heap.size + 1, 1, none⟩ = some (.int .i64 0) ∧ V.cell? ⟨w.heap.size + 1, 2, none⟩ = some (.int .i64 0) ∧ V.cell? ⟨w.heap.size + 1, 3, none⟩ = some (.slice none 0 0) ∧ ∀ j, V.frozen? ⟨w.heap.size + 1, j, none⟩ = false := by
  unfold World.cell? World.frozen?
  simp only [h.res]
  exact ⟨rfl, rfl, rfl, rfl, fun j => by simp⟩
theorem CpW.ts {w V : World} {ob : Option Addr} {cap l : Nat} {room life now : Int} {R : List Bf} (h : CpW w V ob cap l room life now R) : w.heap.size + 1 < V.heap.size := (Array.getElem?_eq_some_iff.1 h.res).1
end Go.Proofs.Ytgjppmkadmfibaa
set_option linter.unusedVariables false
set_option maxRecDepth 100000
set_option linter.unusedSimpArgs false
namespace Go
open RowKit
/-- The block g holds just these cells. -/
def Box (V : World) (g : Nat) (e : TypeId) (cs : List Value) : Prop := V.heap[g]? = some (.cells cs.toArray e (0, 0))
section
variable {V V' w : World} {g : Nat} {e : TypeId} {cs : List Value}
theorem Box.lt (h : Box V g e cs) : g < V.heap.size := (Array.getElem?_eq_some_iff.1 h).1
theorem Box.on (h : Box V g e cs) (hj : Junk V V') : Box V' g e cs := by
  obtain ⟨os, d, rfl⟩ := hj
  unfold Box
  rw [World.heap_junk _ _ _ h.lt]
  exact h
theorem Box.grown {row : Option Nat} (h : Box V g e cs) (hg : V.grownBy V' row) (hne : some g ≠ row) : Box V' g e cs := (hg.block g h.lt hne).trans h
theorem Box.cell (h : Box V g e cs) {j : Nat} {v : Value} (hv : cs[j]? = some v) : V.cell? ⟨g, j, none⟩ = some v := by
  rw [cell_of_row V g j cs.toArray e (0, 0) h]
  simpa using hv
theorem Box.frozen (h : Box V g e cs) (j : Nat) : V.frozen? ⟨g, j, none⟩ = false := by
  unfold World.frozen?
  simp only [show V.heap[g]? = some (.cells cs.toArray e (0, 0)) from h]
  simp
theorem Box.own (h : Box V g e cs) : Own g V e cs.length (some ⟨g, 0, none⟩) 1 1 cs := ⟨by rw [Nat.one_mul], .inr ⟨g, 1, cs.toArray, rfl, Nat.le_refl _, h, Nat.le_refl _, by decide, by simp, by simp⟩⟩
theorem own_Box {B sz : Nat} (h : Own B V e sz (some ⟨g, 0, none⟩) 1 1 cs) : Box V g e cs := by
  rcases h.form with ⟨h0, _⟩ | ⟨g1, cur, h0, _, h1, _, _, h2, h3⟩
  · cases h0
  · cases h0
    rw [List.take_of_length_le (by rw [Array.length_toList, h2]; omega)] at h3
    unfold Box
    rw [← h3]
    exact h1
theorem Box.set (h : Box V g e cs) (j : Nat) (v : Value) : Box (V.setCell ⟨g, j, none⟩ v) g e (cs.set j v) := own_Box (World.ownsRow.stored h.own j v).1
theorem Box.far (h : Box V g e cs) {a : Addr} (hne : a.block ≠ g) (v : Value) : Box (V.setCell a v) g e cs := by
  unfold Box
  rw [Below.heap_setCell _ _ _ _ (fun x => hne x.symm)]
  exact h
theorem box_new (V : World) (cs : Array Value) (e : TypeId) : Box (V.alloc (.cells cs e)) V.heap.size e cs.toList := by
  unfold Box
  rw [Array.toArray_toList]
  exact heap_alloc_last V _
theorem grown_set (w : World) (a : Addr) (v : Value) : w.grownBy (w.setCell a v) (some a.block) := ⟨rfl, rfl, rfl, by simp [World.setCell], fun k _ hk => Below.heap_setCell _ _ _ k (fun e => hk (by rw [e]))⟩
theorem grown_junk {w w' : World} (h : Junk w w') (row : Option Nat) : w.grownBy w' row := by
  obtain ⟨os, d, rfl⟩ := h
  exact ⟨rfl, rfl, rfl, by simp, fun k hk _ => World.heap_junk _ _ _ hk⟩
theorem grown_tr {a b c : World} {row : Option Nat} (h : a.grownBy b row) (k : b.grownBy c row) : a.grownBy c row :=
  ⟨k.os.trans h.os, k.tape.trans h.tape, k.output.trans h.output, Nat.le_trans h.size k.size, fun n hn hne => (k.block n (Nat.lt_of_lt_of_le hn h.size) hne).trans (h.block n hn hne)⟩
/-- A store into a block that was not there at first. -/
theorem grown_past {a b c : World} {row : Option Nat} {r : Nat} (h : a.grownBy b row) (k : b.grownBy c (some r)) (hr : a.heap.size ≤ r) : a.grownBy c row :=
  ⟨k.os.trans h.os, k.tape.trans h.tape, k.output.trans h.output, Nat.le_trans h.size k.size, fun n hn hne => (k.block n (Nat.lt_of_lt_of_le hn h.size) (fun e => by cases e; omega)).trans (h.block n hn hne)⟩
variable {P : Program}
/-- A whole struct out of a part of the block. -/
theorem Box.loadAt (h : Box V g e cs) (t : TypeId) (o n : Nat) (hagg : ∀ w, (isAgg t).run P w = .ok true w) (hsz : ∀ w, (Go.sizeOf t).run P w = .ok n w) (hl : ((cs.drop o).take n).length = n) :
    (Instr.loadAt t (.pointer (some ⟨g, o, none⟩))).run P V = .ok (.agg ((cs.drop o).take n).toArray) V := by
  have h1 := run_loadCells_list (P := P) (w := V) ⟨g, o, none⟩ ((cs.drop o).take n) (fun j v hv => by
    rw [Addr.add_lit]
    rw [List.getElem?_take] at hv
    split at hv
    · rw [List.getElem?_drop] at hv
      exact h.cell hv
    · cases hv)
  rw [hl] at h1
  simp only [Instr.loadAt, Instr.sureAddr, loadVar, Sem.run_bind, Sem.run_pure, Result.andThen, hagg, hsz, if_true, h1]
theorem wpList_loadBox {ops : Array Oper} {rest : List Oper} {o : Oper} {a : Act} {Q : Exit → Act → World → Prop} (hgd : o.guard = none) (t : TypeId) (x : Operand) (ho : o.op = .load t x)
    (hagg : ∀ w, (isAgg t).run P w = .ok true w) (n : Nat) (hsz : ∀ w, (Go.sizeOf t).run P w = .ok n w) (h : Box V g e cs) (off : Nat) (hx : a.eval x = .pointer (some ⟨g, off, none⟩)) (xs : List Value) (hl : (cs.drop off).take n = xs) (hn : xs.length = n)
    (hK : wpList P ops Q rest (a.put o.dst (.agg xs.toArray)) V) : wpList P ops Q (o :: rest) a V :=
  wpList_plain hgd fun K hK2 => by
    subst hl
    have hrun := h.loadAt (P := P) t off n hagg hsz hn
    have := hK2 _ _ hK
    unfold Oper.wp
    simp only [execOp, ho, hx, hrun, Sem.run_bind, Sem.run_pure, Result.andThen]
    simpa [Oper.upon] using this
theorem wpList_storeBox {ops : Array Oper} {rest : List Oper} {o : Oper} {a : Act} {Q : Exit → Act → World → Prop} (hgd : o.guard = none) (t : TypeId) (x y : Operand) (ho : o.op = .store t x y)
    (h : Box V g e cs) (off : Nat) (c : Array Value) (hi : (P.info? t).map (·.size) = some c.size) (hx : a.eval x = .pointer (some ⟨g, off, none⟩)) (hy : a.eval y = .agg c) (hfit : off + c.size ≤ cs.length) (h1 : ∀ v ∈ c.toList, v.oneCell' = true)
    (hK : ∀ w', V.grownBy w' (some g) → Box w' g e (cs.take off ++ c.toList ++ cs.drop (off + c.toList.length)) → wpList P ops Q rest (a.put o.dst undef) w') : wpList P ops Q (o :: rest) a V :=
  wpList_storeOwn hgd t x y ho h.own off c hi hx hy (by rw [Nat.one_mul]; exact hfit) h1 fun w' hg hO => hK w' hg (own_Box hO)
theorem Box.loadVar (h : Box V g e cs) (t : TypeId) (hagg : ∀ w, (isAgg t).run P w = .ok true w) (hsz : ∀ w, (Go.sizeOf t).run P w = .ok cs.length w) : (Go.loadVar t ⟨g, 0, none⟩).run P V = .ok (.agg cs.toArray) V := by
  have h1 := h.loadAt (P := P) t 0 cs.length hagg hsz (by simp)
  simp only [Instr.loadAt, Instr.sureAddr, Sem.run_bind, Sem.run_pure, Result.andThen, List.drop_zero, List.take_length] at h1
  exact h1
theorem results_cell1 {fn : Func} {a : Tmp} {ty : TypeId} {tmps : Array Value} {ad : Addr} {v : Value} (h : fn.results = #[.cell a ty]) (ha : tmps.getD a undef = .pointer (some ad)) (hl : (Go.loadVar ty ad).run P w = .ok v w) : (results fn tmps).run P w = .ok v w := by
  simp only [Array.getD_eq_getD_getElem?] at ha
  simp [results, h, ha, asAddr, hl, Result.andThen]
theorem results_cell1tt {fn : Func} {a b c : Tmp} {ty : TypeId} {tmps : Array Value} {ad : Addr} {v : Value} (h : fn.results = #[.cell a ty, .tmp b, .tmp c]) (ha : tmps.getD a undef = .pointer (some ad)) (hl : (Go.loadVar ty ad).run P w = .ok v w) : (results fn tmps).run P w = .ok (.tuple #[v, tmps.getD b undef, tmps.getD c undef]) w := by
  simp only [Array.getD_eq_getD_getElem?] at ha
  simp [results, h, ha, asAddr, hl, Result.andThen]
theorem results_cell2tt {fn : Func} {a b c d : Tmp} {ta tb : TypeId} {tmps : Array Value} {x y : Addr} {u v : Value} (h : fn.results = #[.cell a ta, .cell b tb, .tmp c, .tmp d]) (ha : tmps.getD a undef = .pointer (some x)) (hb : tmps.getD b undef = .pointer (some y)) (hl : (Go.loadVar ta x).run P w = .ok u w) (hm : (Go.loadVar tb y).run P w = .ok v w) : (results fn tmps).run P w = .ok (.tuple #[u, v, tmps.getD c undef, tmps.getD d undef]) w := by
  simp only [Array.getD_eq_getD_getElem?] at ha hb
  simp [results, h, ha, hb, asAddr, hl, hm, Result.andThen]
end
end Go
set_option linter.unusedVariables false
set_option maxRecDepth 100000
set_option linter.unusedSimpArgs false
namespace Go
open RowKit
theorem wpMixM_late1 {P : Program} {ops : Array Oper} {D : World → Prop} {late : List Nat} {Q : Act → World → Prop} {k : Nat} {o : Oper} {r : List (Nat × Bool)} {a : Act} {w : World} (hk : late.contains k = true) (ho : ops[k]? = some o) (hg : o.guard = none)
    (h : ∀ os d, ∀ K : Act → World → Prop, (∀ a w', wpMixM P ops D late Q r a w' → K a w') → o.wp P a (w.junk os d) K NoExit) :
    wpMixM P ops D late Q ((k, false) :: r) a w :=
  wpMixM_late hk ho fun os d K hK => by
    have hw : Region.wanted o (yielded ops a.tmps) = true := by simp [Region.wanted, hg]
    rw [if_pos hw]
    exact h os d K hK
theorem own_cut {B : Nat} {w : World} {e : TypeId} {size g cap n : Nat} {xs : List Value} (h : Own B w e size (some ⟨g, 0, none⟩) cap n xs) (m : Nat) (hm : m ≤ n) : Own B w e size (some ⟨g, 0, none⟩) cap m (xs.take (m * size)) := by
  have hl := h.len
  rcases h.form with ⟨h0, _⟩ | ⟨g', cur, h0, hb, hg, hnc, hcm, hcs, ht⟩
  · cases h0
  · cases h0
    have hms : m * size ≤ n * size := Nat.mul_le_mul_right _ hm
    refine ⟨by rw [List.length_take, hl]; omega, .inr ⟨g, cap, cur, rfl, hb, hg, by omega, hcm, hcs, ?_⟩⟩
    rw [← ht, List.take_take, Nat.min_eq_left hms]
theorem own_setMany {B : Nat} {e : TypeId} {size g cap n : Nat} : ∀ (vs : List Value) (o : Nat) (w : World) (xs : List Value), Own B w e size (some ⟨g, 0, none⟩) cap n xs →
    ∃ ys, Own B (w.setCells g o vs) e size (some ⟨g, 0, none⟩) cap n ys ∧ ys.take o = xs.take o
  | [], o, w, xs, h => ⟨xs, h, rfl⟩
  | v :: r, o, w, xs, h => by
    obtain ⟨ys, h1, h2⟩ := own_setMany r (o + 1) _ _ (World.ownsRow.stored h o v).1
    refine ⟨ys, h1, ?_⟩
    have := congrArg (List.take o) h2
    rw [List.take_take, List.take_take, Nat.min_eq_left (by omega), List.take_set_of_le (Nat.le_refl o)] at this
    exact this
theorem grown_setCells {g : Nat} : ∀ (vs : List Value) (o : Nat) (w : World), w.grownBy (w.setCells g o vs) (some g)
  | [], o, w => ⟨rfl, rfl, rfl, Nat.le_refl _, fun _ _ _ => rfl⟩
  | v :: r, o, w => grown_tr (grown_set w ⟨g, o, none⟩ v) (grown_setCells r (o + 1) (w.setCell ⟨g, o, none⟩ v))
theorem run_clear_own {P : Program} {B : Nat} {w : World} {e : TypeId} {size g cap n : Nat} {xs : List Value} (h : Own B w e size (some ⟨g, 0, none⟩) cap n xs) (t ty : TypeId) (z : Value) (ht : P.underlying t = some (.slice e)) (hv : ∀ w, (zeroValue e).run P w = .ok z w) (hz : z.cells.size = size) (hs : 0 < size) (h1 : ∀ v ∈ z.cells.toList, v.oneCell' = true)
    (i c : Nat) (hi : i < n) : ∃ w', (Builtin.clear_ #[t] ty #[.slice (some ⟨g, i * size, none⟩) (n - i) c]).run P w = .ok (.tuple #[]) w' ∧ Own B w' e size (some ⟨g, 0, none⟩) cap i (xs.take (i * size)) ∧ w.grownBy w' (some g) := by
  have hl : (Builtin.zeroCells z.cells (n - i)).toList.length = (n - i) * size := by simp [Builtin.zeroCells, hz]
  have hone : ∀ v ∈ (Builtin.zeroCells z.cells (n - i)).toList, v.oneCell' = true := by
    intro v hv'
    simp only [Builtin.zeroCells, Array.toList_map, List.mem_map] at hv'
    obtain ⟨k, _, rfl⟩ := hv'
    have hi : k % z.cells.size < z.cells.size := Nat.mod_lt _ (by omega)
    rw [getElem!_pos z.cells _ hi]
    exact h1 _ (by simp)
  have hsum : (n - i) * size + i * size = n * size := by rw [← Nat.add_mul, Nat.sub_add_cancel (by omega)]
  have hst := run_storeCells_cells (P := P) g (i * size) (Builtin.zeroCells z.cells (n - i)).toList 0 w
    (by
      rw [hl]
      intro j hj
      rw [Nat.add_zero, World.ownsRow.cellAt h (i * size + j) (by omega), List.getElem?_eq_getElem (by rw [h.len]; omega)]
      rfl) (by rw [hl]; intro j hj; exact World.ownsRow.frozenAt h _) hone
  simp only [Nat.add_zero] at hst
  obtain ⟨ys, hy1, hy2⟩ := own_setMany (Builtin.zeroCells z.cells (n - i)).toList (i * size) w _ h
  refine ⟨w.setCells g (i * size) (Builtin.zeroCells z.cells (n - i)).toList, ?_, ?_, grown_setCells _ _ _⟩
  · obtain ⟨m, hm⟩ : ∃ m, n - i = m + 1 := ⟨n - i - 1, by omega⟩
    rw [hm] at hst ⊢
    simp [Builtin.clear_, run_underlying ht, hv, hst]
  · have := own_cut hy1 i (by omega)
    rw [hy2] at this
    exact this
/-- 'append(s[:i], ..)' that fits into the slice as it stands. -/
theorem run_ap_room {P : Program} {B : Nat} {w : World} {e : TypeId} {sz g cap n : Nat} {xs : List Value} (hown : Own B w e sz (some ⟨g, 0, none⟩) cap n xs) (t ty : TypeId) (ht : P.underlying t = some (.slice e)) (hs : (P.info? e).map (·.size) = some sz)
    (i m c : Nat) (a : Addr) (news : List Value) (hl : news.length = m * sz) (hnews : ∀ j u, news[j]? = some u → w.cell? (a.add j) = some u) (h1 : ∀ u ∈ news, u.oneCell' = true) (hfit : i + m ≤ n) :
    ∃ w', (Builtin.append_ #[t, t] ty #[.slice (some ⟨g, 0, none⟩) i cap, .slice (some a) m c]).run P w = .ok (.slice (some ⟨g, 0, none⟩) (i + m) cap) w' ∧ Own B w' e sz (some ⟨g, 0, none⟩) cap n (xs.take (i * sz) ++ news ++ xs.drop (i * sz + news.length)) ∧ w.grownBy w' (some g) := by
  have hxl := hown.1
  rcases hown.2 with ⟨hn, _⟩ | ⟨g1, cap', cur, h1', hb, hc, hnc, hcm, hsz, htk⟩
  · cases hn
  cases h1'
  cases hq : P.info? e with
  | none => simp [hq] at hs
  | some info =>
    have hi : info.size = sz := by simpa [hq] using hs
    have hle : n * sz ≤ cur.size := by rw [hsz]; exact Nat.mul_le_mul_right _ hnc
    have hfs : i * sz + m * sz ≤ n * sz := by rw [← Nat.add_mul]; exact Nat.mul_le_mul_right _ hfit
    have hr := run_append_room (P := P) w t ty e info ht hq g i cap cur hc a m c news (by rw [hi]; exact hl) hnews h1 (by omega) (by rw [hi]; omega)
    rw [hi] at hr
    refine ⟨_, hr, ⟨?_, .inr ⟨g, cap, _, rfl, hb, setRow_heap w g cur _ e _ hc, hnc, hcm, ?_, ?_⟩⟩, ⟨rfl, rfl, rfl, by simp, fun k _ hk => setRow_other w g k _ (fun e => hk (by simp [e]))⟩⟩
    · simp [List.length_take, List.length_drop]; omega
    · simp [List.length_take, List.length_drop]; omega
    · have htk' : cur.toList.take (n * sz) = xs := htk
      rw [← htk']
      show ((cur.toList.take (i * sz) ++ news ++ cur.toList.drop (i * sz + news.length)).toArray.toList).take (n * sz) = _
      rw [List.toList_toArray]
      apply List.ext_getElem?
      intro j
      simp only [List.getElem?_take, List.getElem?_append, List.length_append, List.length_take, List.getElem?_drop, List.length_drop, Array.length_toList]
      rw [show min (i * sz) (min (n * sz) cur.size) = i * sz by omega, show min (i * sz) cur.size = i * sz by omega]
      by_cases hj : j < n * sz
      · rw [if_pos hj]
        by_cases h2 : j < i * sz + news.length
        · rw [if_pos h2, if_pos h2]
          by_cases h3 : j < i * sz
          · rw [if_pos h3, if_pos h3, if_pos h3, if_pos h3, if_pos (by omega)]
          · rw [if_neg h3, if_neg h3]
        · rw [if_neg h2, if_neg h2, if_pos (by omega)]
      · rw [if_neg hj, if_neg (by omega), if_neg (by omega)]
theorem ap_room_wp {P : Program} {o : Oper} {a : Act} {K : Act → World → Prop} {Q : Exit → Act → World → Prop} (s x : Operand) (t : TypeId)
    (ho : o.op = .call { callee := .builtin .append, args := #[s, x], argTypes := #[t, t] }) {v u : Value} (hs' : a.eval s = v) (hx : a.eval x = u) {B : Nat} {w : World} {e : TypeId} {sz g cap n : Nat} {xs : List Value} (hown : Own B w e sz (some ⟨g, 0, none⟩) cap n xs) (ht : P.underlying t = some (.slice e)) (hs : (P.info? e).map (·.size) = some sz)
    (i m c : Nat) (ad : Addr) (hv : v = .slice (some ⟨g, 0, none⟩) i cap) (hu : u = .slice (some ad) m c) (news : List Value) (hl : news.length = m * sz) (hnews : ∀ j u, news[j]? = some u → w.cell? (ad.add j) = some u) (h1 : ∀ u ∈ news, u.oneCell' = true) (hfit : i + m ≤ n)
    (h : ∀ w', w.grownBy w' (some g) → Own B w' e sz (some ⟨g, 0, none⟩) cap n (xs.take (i * sz) ++ news ++ xs.drop (i * sz + news.length)) → K (a.put o.dst (.slice (some ⟨g, 0, none⟩) (i + m) cap)) w') : o.wp P a w K Q := by
  obtain ⟨w', hr, hO, hg⟩ := run_ap_room (P := P) hown t o.type ht hs i m c ad news hl hnews h1 hfit
  unfold Oper.wp execOp
  simp only [ho, resolve, invoke, builtin, Sem.run_bind, Sem.run_pure, Result.andThen_ok, List.map_toArray, List.map_cons, List.map_nil, hs', hx, hv, hu, hr]
  exact h _ hg hO
end Go
set_option linter.unusedVariables false
set_option maxRecDepth 100000
set_option linter.unusedSimpArgs false
namespace Go.Proofs.Ytgjppmkadmfibaa
open Go.RowKit
theorem bfsL_take (L : List Bf) (k : Nat) : (bfsL L).take (k * 19) = bfsL (L.take k) := by unfold bfsL; rw [flat_take (bf_rows L), List.map_take]
theorem bfsL_drop (L : List Bf) (k : Nat) : (bfsL L).drop (k * 19) = bfsL (L.drop k) := by unfold bfsL; rw [flat_drop (bf_rows L), List.map_drop]
theorem bfsL_app (L M : List Bf) : bfsL (L ++ M) = bfsL L ++ bfsL M := by unfold bfsL; rw [List.map_append, List.flatten_append]
theorem erase_cells (L : List Bf) (i m : Nat) (h : L.length = i + 1 + m) (T : List Value) : (bfsL (L.take i) ++ bfsL (L.drop (i + 1)) ++ T).take ((i + m) * 19) = bfsL (L.eraseIdx i) := by
  rw [List.eraseIdx_eq_take_drop_succ, bfsL_app, List.take_append_of_le_length (by rw [List.length_append, bfsL_len, bfsL_len, List.length_take, List.length_drop]; omega), List.take_of_length_le (by rw [List.length_append, bfsL_len, bfsL_len, List.length_take, List.length_drop]; omega)]
set_option maxHeartbeats 16000000 in
theorem delB_any (g l cap i m : Nat) (L : List Bf) (W0 w : World) (hl : l ≤ 1000000) (hL : L.length = l) (hi : l = i + 1 + m) (hj : Junk W0 w) (hO : Own W0.heap.size w 45 19 (some ⟨g, 0, none⟩) cap l (bfsL L)) :
    Calls Try.prog 30 #[.slice (some ⟨g, 0, none⟩) l cap, .int .i64 (i : Int), .int .i64 ((i : Int) + 1)] w fun e w' => e = .returned (.slice (some ⟨g, 0, none⟩) (i + m) cap) ∧ Junk W0 w' ∧ w.grownBy w' (some g) ∧ Own W0.heap.size w' 45 19 (some ⟨g, 0, none⟩) cap (i + m) (bfsL (L.eraseIdx i)) := by
  have hlc := hO.capLe.1
  have hcm := hO.capLe.2
  simp only [maxLen] at hcm
  have hge := (own_geR hO).1
  have HJ := Lib.hid hj
  have HO := Lib.hid hO
  have HL := Lib.hid hL
  have HGE := Lib.hid hge
  have e0 : (0 : Int) ≤ (i : Int) + 1 := by omega
  have e1 : (i : Int) ≤ (i : Int) + 1 := by omega
  have e2 : (i : Int) + 1 ≤ (l : Int) := by omega
  have e3 : (i : Int) + 1 ≤ (cap : Int) := by omega
  have e4 : (l : Int) ≤ (cap : Int) := by omega
  have e5 : (i : Int) ≤ (l : Int) := by omega
  have e6 : (i : Int) ≤ (cap : Int) := by omega
  have e7 : ((i : Int) == (i : Int) + 1) = false := by simp; omega
  have e8 : i + 1 ≤ l := by omega
  have e9 : l - (i + 1) = m := by omega
  have e10 : i ≤ cap := by omega
  have e11 : i + 1 ≤ cap := by omega
  have HI := Lib.hid hi
  clear hj hO hL hi hge
  go_enter Try.func30, Try.ntmps30
  go_upto_region 5 with (fail)
  have HSRC := Lib.hid (show ∀ w1, Junk w w1 → ∀ j u, (bfsL (L.drop (i + 1)))[j]? = some u → w1.cell? ((if cap = i + 1 then (⟨g, 0, none⟩ : Addr) else ⟨g, (i + 1) * 19, none⟩).add j) = some u from fun w1 hj j u hu => by
    by_cases hc : cap = i + 1
    · have hm0 : m = 0 := by omega
      rw [List.drop_eq_nil_of_le (by rw [HL.out, HI.out]; omega)] at hu
      simp [bfsL] at hu
    · rw [if_neg hc]
      exact own_cell (HO.out.on hj) ((i + 1) * 19) j u (by rw [bfsL_drop]; exact hu))
  have HLEN := Lib.hid (show (bfsL (L.drop (i + 1))).length = m * 19 from by rw [bfsL_len, List.length_drop, HL.out]; congr 1)
  have e12 : i + m ≤ l := by omega
  refine wp_region_mixm (w) [6, 7] [(0, true), (1, true), (2, true), (3, true), (4, true), (5, true), (6, false), (7, false)] (by kernel_rfl) (by kernel_rfl) (by (first | exact jkc | repeat (first | with_reducible exact Junk.refl _ | with_reducible exact Junk.app _ _ _ _ _ | with_reducible apply Junk.alloc | with_reducible apply Junk.junk | with_reducible apply Junk.drew | with_reducible apply Junk.drewN | (with_reducible refine Junk.setCell ?_ (by simp) _)))) ?_; (iterate 6 (refine wpMixM_q rfl (fun K hK => ?_); (go_simp; try go_bits); (refine hK _ ?_; clear hK K))); refine wpMixM_late1 (by decide) rfl rfl (fun osm5_0 dm5_0 K hK => ?_); (refine ap_room_wp _ _ 29 rfl rfl rfl (HO.out.on (by (exact jkc))) Try.underlying29 (by kernel_rfl) i m (cap - (i + 1)) (if cap = i + 1 then ⟨g, 0, none⟩ else ⟨g, (i + 1) * 19, none⟩) rfl (by simp only [apply_ite some]; rfl) (bfsL (L.drop (i + 1))) HLEN.out (HSRC.out _ (by (exact jkc))) (bfsL_one _) e12 ?_; intro w4 hg4 ho4); refine hK _ _ ?_; clear hK K; refine wpMixM_late (by decide) rfl (fun osm5_1 dm5_1 K hK => ?_); (go_simp; try go_bits); refine hK _ _ ?_; clear hK K; refine wpMixM_nil (fun osm dm => ?_)
  have hjV : Junk W0 ((w4.junk osm5_1 dm5_1).junk osm dm) := (below_of_grown (HJ.out.trans (show Junk w _ by (exact jkc))) hg4 (fun q hq => by cases hq; exact HGE.out)).trans (by (exact jkc))
  have hgV : w.grownBy ((w4.junk osm5_1 dm5_1).junk osm dm) (some g) := grown_tr (grown_tr (grown_junk (show Junk w _ by (exact jkc)) _) hg4) (grown_junk (by (exact jkc)) _)
  have hoV := ho4.on (show Junk w4 ((w4.junk osm5_1 dm5_1).junk osm dm) by (exact jkc))
  clear hg4 ho4
  generalize (w4.junk osm5_1 dm5_1).junk osm dm = V at hjV hgV hoV ⊢
  obtain ⟨w5, hr5, ho5, hg5⟩ := run_clear_own (P := Try.prog) hoV 29 0 (.agg #[.int .u32 0, .int .u32 0, .int .i64 0, .int .i64 0, .int .i64 0, .int .i64 0, .int .i64 0, .bool false, .bool false, .int .i64 0, .int .i64 0, .int .i64 0, .int .u32 0, .int .u32 0, .slice none 0 0, .slice none 0 0, .bool false, .int .i64 0, .slice none 0 0]) Try.underlying29 (fun w => by kernel_rfl) rfl (by decide) (by decide) (i + m) (cap - (i + m)) (by have := HI.out; omega)
  have e13 : l - (i + m) = 1 := by have := HI.out; omega
  rw [e13] at hr5
  have e14 : ¬ cap = i + m := by have := HI.out; omega
  have e15 : ((i + m : Nat) : Int) ≤ (l : Int) := by omega
  have e16 : ((i + m : Nat) : Int) ≤ (cap : Int) := by omega
  have e17 : (i : Int) + (m : Int) ≤ (l : Int) := by omega
  have e18 : i + m ≤ cap := by omega
  have HJ5 := Lib.hid (below_of_grown hjV hg5 (fun q hq => by cases hq; exact HGE.out))
  have HG5 := Lib.hid (grown_tr hgV hg5)
  have HO5 := Lib.hid ho5
  clear hjV hgV hoV hg5 ho5
  generalize (if cap = i + 1 then (some (⟨g, 0, none⟩ : Addr)) else some ⟨g, (i + 1) * 19, none⟩) = dpk
  go_wp2
  go_ret
  refine ⟨rfl, HJ5.out.trans (by (exact jkc)), grown_tr HG5.out (grown_junk (by (exact jkc)) _), ?_⟩
  have h := HO5.out.on (Junk.refl w5)
  rw [bfsL_take, erase_cells L i m (by rw [HL.out, HI.out])] at h
  exact h
end Go.Proofs.Ytgjppmkadmfibaa
set_option linter.unusedVariables false
set_option maxRecDepth 100000
set_option linter.unusedSimpArgs false
namespace Go.Proofs.Ytgjppmkadmfibaa
open Go.RowKit
def PrBs (f : Nat) (v1 : Array Value) (w : World) (L : List Bf) (pr : Bq → Bool) : Prop := ∀ w1, Junk w w1 → ∀ b ∈ L, Calls Try.prog f (#[.agg b.cells.toArray] ++ v1) w1 fun e w' => e = .returned (.bool (pr b.q)) ∧ Junk w1 w'
set_option maxHeartbeats 8000000 in
theorem ridxB_any (f : Nat) (v1 : Array Value) (B : Nat) (oa : Option Addr) (l c : Nat) (L : List Bf) (pr : Bq → Bool) (w : World) (hl : l ≤ 1000000) (hL : L.length = l) (hS : Own B w 45 19 oa c l (bfsL L)) (hf : PrBs f v1 w L pr) (hfn : ∀ args w, (callFunc f args).run Try.prog w = .ok (.enter f args) w) :
    Calls Try.prog 26 #[.slice oa l c, .func (.func f) #[] v1] w fun e w' => e = .returned (.int .i64 (idxR ((L.map Bf.q).findIdx? pr))) ∧ Junk w w' := by
  have HS := Lib.hid hS
  have HF := Lib.hid hf
  clear hS hf
  obtain ⟨T, hT⟩ : ∃ T, T = idxR ((L.map Bf.q).findIdx? pr) := ⟨_, rfl⟩
  rw [← hT]
  have HT := Lib.hid hT
  have HL := Lib.hid hL
  clear hT hL
  go_enter Try.func26, Try.ntmps26
  go_wp2
  go_loopw [8] (fun i wr => ∃ k : Nat, i = .int .i64 (k : Int) ∧ Junk w wr ∧ k ≤ l ∧ Hid (∀ j, j < k → ∀ y, (L.map Bf.q)[j]? = some y → pr y = false)) (fun i _ => l + 1 - (intOf i).toNat)
  case atStart => exact ⟨0, rfl, Junk.refl _, by omega, Lib.hid (fun j hj => by omega)⟩
  case round =>
    obtain ⟨k, rfl, hj, hk, hN⟩ := hrel
    have HJ := Lib.hid hj
    have HNN := Lib.hid hN.out
    clear hj hN
    by_cases hkl : k < l
    · have hk2 : (k : Int) < (l : Int) := by omega
      have pk := wrapk_i64 ((k : Int) + 1) (by omega) (by omega)
      obtain ⟨b, hb⟩ : ∃ b, L[k]? = some b := ⟨_, List.getElem?_eq_getElem (by rw [HL.out]; exact hkl)⟩
      obtain ⟨g, rfl⟩ : ∃ g, oa = some ⟨g, 0, none⟩ := by
        rcases HS.out.form with ⟨_, h, _⟩ | ⟨g, cur, h, _⟩
        · omega
        · exact ⟨g, h⟩
      have HC := Lib.hid (own_bf (HS.out.on HJ.out) hb)
      have hgl := (own_geR (HS.out.on HJ.out)).2
      have HBQ := Lib.hid (show (L.map Bf.q)[k]? = some b.q by rw [List.getElem?_map, hb]; rfl)
      have HFB := Lib.hid (fun w1 (hj : Junk wr w1) => HF.out w1 (HJ.out.trans hj) b (List.mem_of_getElem? hb))
      clear hb
      cases hp : pr b.q with
      | true =>
        rw [hp] at HFB
        have HI := Lib.hid (show T = (k : Int) by rw [HT.out, findIdxR_at HNN.out HBQ.out hp]; rfl)
        go_wp2_with (first | ((with_reducible show wpList _ _ _ _ _ _); refine wpList_loadAgg rfl 45 _ rfl Try.isAgg45 g _ b.cells Try.sizeOf45 rfl HC.out ?_) | ((with_reducible refine (HFB.out _ ?_).mono ?_); (· (exact jkc)); rintro e w' ⟨rfl, ⟨osc, dc, rfl⟩⟩))
        go_ret
        exact ⟨by rw [HI.out]; rfl, HJ.out.trans (by (exact jkc))⟩
      | false =>
        rw [hp] at HFB
        go_wp2_with (first | ((with_reducible show wpList _ _ _ _ _ _); refine wpList_loadAgg rfl 45 _ rfl Try.isAgg45 g _ b.cells Try.sizeOf45 rfl HC.out ?_) | ((with_reducible refine (HFB.out _ ?_).mono ?_); (· (exact jkc)); rintro e w' ⟨rfl, ⟨osc, dc, rfl⟩⟩))
        exact ⟨⟨k + 1, by go_num, HJ.out.trans (by (exact jkc)), by omega, Lib.hid (fun j hj y hy => by
          by_cases hjk : j = k
          · subst hjk; rw [HBQ.out] at hy; cases hy; exact hp
          · exact HNN.out j (by omega) y hy)⟩, by simp [intOf]; omega⟩
    · have hk2 : ¬ (k : Int) < (l : Int) := by omega
      have HI := Lib.hid (show T = -1 by rw [HT.out, findIdxR_no (fun j hj => HNN.out j (by rw [List.length_map, HL.out] at hj; omega))]; rfl)
      go_wp2
      go_ret
      exact ⟨by rw [HI.out]; rfl, HJ.out.trans (by (exact jkc))⟩
theorem take_add1 {α : Type} {L : List α} {j : Nat} {x : α} (h : L[j]? = some x) : L.take (j + 1) = L.take j ++ [x] := by rw [List.take_add_one, h]; rfl
/-- How far DeleteFunc has come. -/
structure DelIv (L M : List Bf) (pr : Bf → Bool) (i j : Nat) : Prop where
  len : M.length = L.length
  front : M.take i = (L.take j).filter fun x => !pr x
  back : M.drop j = L.drop j
theorem DelIv.start {L : List Bf} {pr : Bf → Bool} {k : Nat} {x : Bf} (hk : L[k]? = some x) (hp : pr x = true) (hb : ∀ j y, j < k → L[j]? = some y → pr y = false) : DelIv L L pr k (k + 1) := by
  refine ⟨rfl, ?_, rfl⟩
  rw [take_add1 hk, List.filter_append]
  have e1 : (L.take k).filter (fun x => !pr x) = L.take k := by
    rw [List.filter_eq_self]
    intro y hy
    obtain ⟨j, hj⟩ := List.getElem?_of_mem hy
    rw [List.getElem?_take] at hj
    split at hj
    · rename_i hjk
      rw [hb j y hjk hj]
      rfl
    · cases hj
  rw [e1]
  simp [List.filter, hp]
theorem DelIv.skip {L M : List Bf} {pr : Bf → Bool} {i j : Nat} {x : Bf} (h : DelIv L M pr i j) (hx : L[j]? = some x) (hp : pr x = true) : DelIv L M pr i (j + 1) := by
  refine ⟨h.len, ?_, ?_⟩
  · rw [h.front, take_add1 hx, List.filter_append]; simp [List.filter, hp]
  · have := congrArg (List.drop 1) h.back
    simpa [List.drop_drop] using this
theorem DelIv.keep {L M : List Bf} {pr : Bf → Bool} {i j : Nat} {x : Bf} (h : DelIv L M pr i j) (hij : i < j) (hx : L[j]? = some x) (hp : pr x = false) : DelIv L (M.set i x) pr (i + 1) (j + 1) := by
  have hj : j < L.length := (List.getElem?_eq_some_iff.1 hx).1
  have hl := h.len
  refine ⟨by rw [List.length_set, h.len], ?_, ?_⟩
  · rw [take_add1 (x := x) (by rw [List.getElem?_set_self (by omega)]), List.take_set_of_le (Nat.le_refl i), h.front, take_add1 hx, List.filter_append]
    simp [List.filter, hp]
  · rw [List.drop_set_of_lt (by omega)]
    have := congrArg (List.drop 1) h.back
    simpa [List.drop_drop] using this
theorem DelIv.at_ {L M : List Bf} {pr : Bf → Bool} {i j : Nat} (h : DelIv L M pr i j) : M[j]? = L[j]? := by
  have := congrArg List.head? h.back
  simpa [List.head?_drop] using this
theorem bfs_put {L : List Bf} {i : Nat} (b : Bf) (hi : i < L.length) : (bfsL L).take (i * 19) ++ b.cells.toArray.toList ++ (bfsL L).drop (i * 19 + b.cells.toArray.toList.length) = bfsL (L.set i b) := by
  unfold bfsL
  rw [List.toList_toArray, flat_put (bf_rows L) (by rw [List.length_map]; exact hi) (b.cells_len), List.map_set]
end Go.Proofs.Ytgjppmkadmfibaa
