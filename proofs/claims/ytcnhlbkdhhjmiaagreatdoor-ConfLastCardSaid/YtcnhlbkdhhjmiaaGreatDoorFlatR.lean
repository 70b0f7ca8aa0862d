/- Rows of one length, one behind the other, in a slice of the call's own; a whole struct stored into it. -/
import Derived.Test.YtcnhlbkdhhjmiaaGreatDoorIns
import Derived.Deep.WholeRow
set_option linter.unusedVariables false
set_option maxRecDepth 100000
set_option linter.unusedSimpArgs false
namespace Go
open RowKit
theorem flat_len {sz : Nat} : ∀ {R : List (List Value)}, (∀ r ∈ R, r.length = sz) → R.flatten.length = R.length * sz
  | [], _ => by simp
  | r :: R, h => by
    rw [List.flatten_cons, List.length_append, h r (by simp), flat_len (R := R) (fun x hx => h x (by simp [hx])), List.length_cons, Nat.add_mul]
    omega
theorem flat_take {sz : Nat} : ∀ {R : List (List Value)}, (∀ r ∈ R, r.length = sz) → ∀ k, R.flatten.take (k * sz) = (R.take k).flatten
  | [], _, k => by simp
  | r :: R, h, 0 => by simp
  | r :: R, h, k + 1 => by
    have hr := h r (by simp)
    rw [List.flatten_cons, List.take_append, hr, List.take_succ_cons, List.flatten_cons, List.take_of_length_le (by rw [hr, Nat.add_mul]; omega), show (k + 1) * sz - sz = k * sz by rw [Nat.add_mul]; omega, flat_take (R := R) (fun x hx => h x (by simp [hx])) k]
theorem flat_drop {sz : Nat} : ∀ {R : List (List Value)}, (∀ r ∈ R, r.length = sz) → ∀ k, R.flatten.drop (k * sz) = (R.drop k).flatten
  | [], _, k => by simp
  | r :: R, h, 0 => by simp
  | r :: R, h, k + 1 => by
    have hr := h r (by simp)
    rw [List.flatten_cons, List.drop_append, hr, List.drop_succ_cons, List.drop_eq_nil_of_le (by rw [hr, Nat.add_mul]; omega), show (k + 1) * sz - sz = k * sz by rw [Nat.add_mul]; omega, flat_drop (R := R) (fun x hx => h x (by simp [hx])) k, List.nil_append]
theorem flat_get {sz : Nat} {R : List (List Value)} (h : ∀ r ∈ R, r.length = sz) {i : Nat} {r : List Value} (hr : R[i]? = some r) {j : Nat} (hj : j < sz) : R.flatten[i * sz + j]? = r[j]? := by
  obtain ⟨hi, rfl⟩ := List.getElem?_eq_some_iff.1 hr
  have h1 := flat_drop h i
  rw [← List.getElem?_drop, h1, List.drop_eq_getElem_cons hi, List.flatten_cons, List.getElem?_append_left (by rw [h _ (List.getElem_mem hi)]; exact hj)]
theorem flat_put {sz : Nat} {R : List (List Value)} (h : ∀ r ∈ R, r.length = sz) {i : Nat} (hi : i < R.length) {c : List Value} (hc : c.length = sz) : R.flatten.take (i * sz) ++ c ++ R.flatten.drop (i * sz + c.length) = (R.set i c).flatten := by
  rw [flat_take h, hc, show i * sz + sz = (i + 1) * sz by rw [Nat.add_mul]; omega, flat_drop h, List.set_eq_take_append_cons_drop, if_pos hi, List.flatten_append, List.flatten_cons, List.append_assoc]
theorem flat_set {sz : Nat} {R : List (List Value)} (h : ∀ r ∈ R, r.length = sz) {i : Nat} {r : List Value} (hr : R[i]? = some r) {j : Nat} (hj : j < sz) (v : Value) : R.flatten.set (i * sz + j) v = (R.set i (r.set j v)).flatten := by
  obtain ⟨hi, rfl⟩ := List.getElem?_eq_some_iff.1 hr
  have hl := h _ (List.getElem_mem hi)
  rw [← flat_put h hi (c := R[i].set j v) (by rw [List.length_set, hl])]
  have e : R.flatten = R.flatten.take (i * sz) ++ R[i] ++ R.flatten.drop (i * sz + sz) := by
    have e1 := flat_put h hi hl
    rw [hl] at e1
    rw [e1]
    rw [show R.set i R[i] = R from List.set_getElem_self hi]
  have hlen : (R.flatten.take (i * sz)).length = i * sz := by
    rw [List.length_take, flat_len h]
    exact Nat.min_eq_left (Nat.mul_le_mul_right _ (by omega))
  conv => lhs; rw [e]
  rw [List.append_assoc, List.set_append_right _ _ (by omega), hlen, show i * sz + j - i * sz = j by omega, List.set_append_left _ _ (by omega), List.length_set, hl, List.append_assoc]
/-- Cells that can be read from an address on. -/
def SrcAt (w : World) (oa : Option Addr) (xs : List Value) : Prop := ∀ ad, oa = some ad → ∀ j u, xs[j]? = some u → w.cell? (ad.add j) = some u
theorem SrcAt.on {w w' : World} {oa : Option Addr} {xs : List Value} (h : SrcAt w oa xs) (hj : Junk w w') : SrcAt w' oa xs := fun ad had j u hu => by
  have hc := h ad had j u hu
  have hlt : (ad.add j).block < w.heap.size := by
    unfold World.cell? at hc
    cases hb : w.heap[(ad.add j).block]? with
    | none => simp [hb] at hc
    | some o => exact (Array.getElem?_eq_some_iff.1 hb).1
  exact ((hj.below (Nat.le_refl _)).cell hlt).trans hc
theorem Own.src {B : Nat} {w : World} {e : TypeId} {sz : Nat} {oa : Option Addr} {cap n : Nat} {xs : List Value} (h : Own B w e sz oa cap n xs) : SrcAt w oa xs := fun ad had j u hu => by
  obtain ⟨g, h1, _, _, h2, _⟩ := h.cells j u hu
  rw [had] at h1
  cases h1
  rw [Addr.add_lit, Nat.zero_add]
  exact h2
section
variable {P : Program} {w : World} {B : Nat} {e : TypeId} {sz g cap n : Nat} {xs : List Value}
/-- A whole struct stored into the slice. -/
theorem run_storeOwn (hown : Own B w e sz (some ⟨g, 0, none⟩) cap n xs) (t : TypeId) (o : Nat) (c : Array Value) (hi : (P.info? t).map (·.size) = some c.size) (hfit : o + c.size ≤ n * sz) (h1 : ∀ v ∈ c.toList, v.oneCell' = true) :
    ∃ w', (Instr.storeAt t (.pointer (some ⟨g, o, none⟩)) (.agg c)).run P w = .ok () w' ∧ Own B w' e sz (some ⟨g, 0, none⟩) cap n (xs.take o ++ c.toList ++ xs.drop (o + c.toList.length)) ∧ w.grownBy w' (some g) := by
  have hl := hown.1
  rcases hown.2 with ⟨hn, _⟩ | ⟨g1, cap', cur, h1', hb, hc, hnc, hcm, hsz, htk⟩
  · cases hn
  cases h1'
  have hle : n * sz ≤ cur.size := by rw [hsz]; exact Nat.mul_le_mul_right _ hnc
  have hst := run_storeCells_at P g o e c.toList 0 cur w hc (by simp; omega) h1
  simp only [Nat.add_zero] at hst
  cases hq : P.info? t with
  | none => simp [hq] at hi
  | some i =>
    have hs : c.size = i.size := by simp [hq] at hi; omega
    refine ⟨w.setRow g (cur.toList.take o ++ c.toList ++ cur.toList.drop (o + c.toList.length)).toArray, ?_, ⟨?_, .inr ⟨g, cap, _, rfl, hb, setRow_heap w g cur _ e _ hc, hnc, hcm, ?_, ?_⟩⟩, ⟨rfl, rfl, rfl, by simp, fun k _ hk => setRow_other w g k _ (fun e => hk (by simp [e]))⟩⟩
    · simp [hs] at hst
      simp [Instr.storeAt, Instr.sureAddr, storeVar, sizeOf, typeInfo, hq, hs, Value.cells, hst]
    · simp [List.length_take, List.length_drop]; omega
    · simp [List.length_take, List.length_drop]; omega
    · have htk' : cur.toList.take (n * sz) = xs := htk
      rw [← htk']
      show ((cur.toList.take o ++ c.toList ++ cur.toList.drop (o + c.toList.length)).toArray.toList).take (n * sz) = _
      rw [List.toList_toArray]
      apply List.ext_getElem?
      intro j
      simp only [List.getElem?_take, List.getElem?_append, List.length_append, List.length_take, List.getElem?_drop, List.length_drop, Array.length_toList]
      have e1 : min o cur.size = o := by omega
      rw [show min o (min (n * sz) cur.size) = o by omega, e1]
      by_cases hj : j < n * sz
      · rw [if_pos hj]
        by_cases h2 : j < o + c.size
        · rw [if_pos h2, if_pos h2]
          by_cases h3 : j < o
          · rw [if_pos h3, if_pos h3, if_pos h3, if_pos h3, if_pos (by omega)]
          · rw [if_neg h3, if_neg h3]
        · rw [if_neg h2, if_neg h2, if_pos (by omega)]
      · rw [if_neg hj, if_neg (by omega), if_neg (by omega)]
theorem wpList_storeOwn {ops : Array Oper} {rest : List Oper} {o : Oper} {a : Act} {Q : Exit → Act → World → Prop} (hgd : o.guard = none) (t : TypeId) (x y : Operand) (ho : o.op = .store t x y)
    (hown : Own B w e sz (some ⟨g, 0, none⟩) cap n xs) (off : Nat) (c : Array Value) (hi : (P.info? t).map (·.size) = some c.size) (hx : a.eval x = .pointer (some ⟨g, off, none⟩)) (hy : a.eval y = .agg c) (hfit : off + c.size ≤ n * sz) (h1 : ∀ v ∈ c.toList, v.oneCell' = true)
    (h : ∀ w', w.grownBy w' (some g) → Own B w' e sz (some ⟨g, 0, none⟩) cap n (xs.take off ++ c.toList ++ xs.drop (off + c.toList.length)) → wpList P ops Q rest (a.put o.dst undef) w') : wpList P ops Q (o :: rest) a w := by
  obtain ⟨w', hrun, hO, hg⟩ := run_storeOwn (P := P) hown t off c hi hfit h1
  exact wpList_plain hgd fun K hK => by
    have := hK _ _ (h w' hg hO)
    unfold Oper.wp
    simp only [execOp, ho, hx, hy, hrun, Sem.run_bind, Sem.run_pure, Result.andThen]
    simpa [Oper.upon] using this
/-- .. one cell of it. -/
theorem own_set_grown (hown : Own B w e sz (some ⟨g, 0, none⟩) cap n xs) (o : Nat) (v : Value) : w.grownBy (w.setCell ⟨g, o, none⟩ v) (some g) :=
  ⟨rfl, rfl, rfl, by simp [World.setCell], fun k _ hk => Below.heap_setCell _ _ _ k (fun e => hk (by rw [e]))⟩
end
end Go
