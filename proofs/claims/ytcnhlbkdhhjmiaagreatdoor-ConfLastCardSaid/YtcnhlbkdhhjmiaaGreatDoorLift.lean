/- From a law's walk to its statement: the arguments as cells that read as their types say; the arguments read afterwards as before. -/
import Derived.Test.YtcnhlbkdhhjmiaaGreatDoorBase
import Derived.ProofKit
import Derived.OpenShut
import Derived.Deep.Slices
import Derived.Deep.Fields
namespace Go
open Go.ChangeShapes Go.WideShapes Go.ChangeAt Go.RowKit Go.WideMaps Go.WideElems Go.Deep
section
variable {P : Program} {W : World} {base : Nat} {t e : TypeId}
/-- The cells 'cs' read, in 'W', as a value of type 't'. -/
def Cells (P : Program) (W : World) (t : TypeId) (cs : List Value) : Prop :=
  ∃ (H : Type) (enc : TypeId × Value → H) (n : Nat) (y : DataW H × List MemPlace), DataW.trod enc P W 0 (fun _ => true) true n t cs = some y
/-- An argument of type 't'. -/
def Arg (P : Program) (W : World) (base : Nat) (t : TypeId) (v : Value) : Prop := Value.okWide P W .any base t v ∧ Cells P W t v.cells.toList
def Args (P : Program) (W : World) (base : Nat) : List TypeId → List Value → Prop
  | [], [] => True
  | t :: ts, v :: vs => Arg P W base t v ∧ Args P W base ts vs
  | _, _ => False
theorem args_of {H : Type} {enc : TypeId × Value → H} : ∀ {ts : List TypeId} {vs : List Value} {ds : List (DataW H)} {ps : List MemPlace},
    (∀ (j : Nat) t v, ts[j]? = some t → vs[j]? = some v → Value.okWide P W .any base t v) → DataW.TrodAll enc P W 0 (fun _ => true) true ts vs ds ps → Args P W base ts vs
  | [], vs, ds, ps, _, h => by obtain ⟨rfl, _, _⟩ := trodAll_nil h; exact trivial
  | t :: ts, vs, ds, ps, hv, h => by
    obtain ⟨v, vs', d, ds', p, q, rfl, rfl, rfl, h0, h1⟩ := trodAll_cons h
    obtain ⟨n, hn⟩ := h0
    exact ⟨⟨hv 0 t v rfl rfl, H, enc, n, _, hn⟩, args_of (fun j t v ht hvv => hv (j + 1) t v (by simpa using ht) (by simpa using hvv)) h1⟩
theorem args_nil {vs : List Value} (h : Args P W base [] vs) : vs = [] := by cases vs; rfl; exact h.elim
theorem args_cons {ts : List TypeId} {vs : List Value} (h : Args P W base (t :: ts) vs) : ∃ v vs', vs = v :: vs' ∧ Arg P W base t v ∧ Args P W base ts vs' := by
  cases vs with
  | nil => exact h.elim
  | cons v vs => exact ⟨v, vs, rfl, h.1, h.2⟩
theorem trodAll_length {H : Type} {enc : TypeId × Value → H} : ∀ {ts : List TypeId} {vs : List Value} {ds : List (DataW H)} {ps : List MemPlace}, DataW.TrodAll enc P W 0 (fun _ => true) true ts vs ds ps → ds.length = ts.length
  | [], vs, ds, ps, h => by obtain ⟨_, rfl, _⟩ := trodAll_nil h; rfl
  | t :: ts, vs, ds, ps, h => by
    obtain ⟨v, vs', d, ds', p, q, rfl, rfl, rfl, h0, h1⟩ := trodAll_cons h
    simp [trodAll_length h1]
theorem trodAll_stays {H : Type} {enc : TypeId × Value → H} (hl : laidOutB P = true) {W' : World} (hb : Below W.heap.size W W') : ∀ {ts : List TypeId} {vs : List Value} {ds : List (DataW H)} {ps : List MemPlace},
    ts.all (fun t => P.readableRec t && decide (t < P.types.size)) = true → DataW.TrodAll enc P W 0 (fun _ => true) true ts vs ds ps → (∀ x ∈ ps, x.block < W.heap.size) →
    DataW.TrodAll enc P W' 0 (fun b => decide (b < W.heap.size)) true ts vs ds ps
  | [], vs, ds, ps, _, h, _ => by obtain ⟨rfl, rfl, rfl⟩ := trodAll_nil h; rfl
  | t :: ts, vs, ds, ps, ht, h, hp => by
    obtain ⟨v, vs', d, ds', p, q, rfl, rfl, rfl, h0, h1⟩ := trodAll_cons h
    simp only [List.all_cons, Bool.and_eq_true, decide_eq_true_eq] at ht
    exact ⟨p, q, Below.trod hl ht.1.1 ht.1.2 h0 hb (fun x hx => hp x (by simp [hx])), trodAll_stays hl hb (by simpa using ht.2) h1 (fun x hx => hp x (by simp [hx])), rfl⟩
/-- A law's post, where the walk has ended in 'true' and the world has grown by new blocks alone. -/
theorem post_true {H : Type} {enc : TypeId × Value → H} {f : Func} {s : ChangeSpec} {tb : TypeId} (hl : laidOutB P = true) (hb : P.underlying tb = some .bool) (hr : f.resultTypes = #[tb])
    (hts : f.params.toList.all (fun t => P.readableRec t && decide (t < P.types.size)) = true) (hv : s.vars = []) {W' : World} {args : Array Value} {ds gs : List (DataW H)} {before : List MemPlace}
    (hW : DataW.Whole enc P f.params.toList s.vars false W args.toList ds gs before)
    (hs : gs = [] → ds.length = f.params.toList.length → (s.fn H (ds ++ gs)).results = [.lit (.bool true)] ∧ (s.fn H (ds ++ gs)).args = ds ∧ (s.fn H (ds ++ gs)).vars = []) (hj : Junk W W') :
    s.post enc P f false true false false W args (.bool true) W' := by
  have hW' := hW
  obtain ⟨p, q, hA, hV, rfl, hfz, _⟩ := hW
  rw [hv] at hV
  obtain ⟨rfl, rfl⟩ := trodVars_none hV
  obtain ⟨h1, h2, h3⟩ := hs rfl (trodAll_length hA)
  have hbl := hj.below (Nat.le_refl _)
  refine ⟨ds, [], p ++ [], [], p, [], hW', ?_, ?_, ?_, World.keptBut_mono (fun _ f => f.elim) (hbl.frame (fun _ => False)), fun h => by cases h⟩
  · rw [h1, hr]; exact trodAll_mk1 (shut_bool hb true)
  · rw [h2]; exact trodAll_stays hl hbl hts hA (fun x hx => hW'.lt x (by simp [hx]))
  · rw [h3, hv]; rfl

/-! ### What the cells of a type are -/
theorem Cells.bool (ht : P.underlying t = some .bool) {cs : List Value} (h : Cells P W t cs) : ∃ b, cs = [.bool b] := by
  obtain ⟨H, enc, n, y, h⟩ := h
  obtain ⟨b, hb, _⟩ := DataW.trod_bool ht h
  exact ⟨b, hb⟩
theorem Cells.int {k : IntKind} (ht : P.underlying t = some (.int k)) {cs : List Value} (h : Cells P W t cs) : ∃ n, cs = [.int k n] ∧ (Lit.int k n).wf = true := by
  obtain ⟨H, enc, n, y, h⟩ := h
  obtain ⟨m, hm, _, hw⟩ := DataW.trod_int ht h
  exact ⟨m, hm, hw⟩
theorem Cells.string (ht : P.underlying t = some .string) {cs : List Value} (h : Cells P W t cs) : ∃ s : ByteArray, cs = [.string s] ∧ s.size ≤ maxLen := by
  obtain ⟨H, enc, n, y, h⟩ := h
  obtain ⟨m, hm, _, hw⟩ := DataW.trod_string ht h
  exact ⟨m, hm, hw⟩
theorem Cells.struct {fs : Array Field} (ht : P.underlying t = some (.struct fs)) {cs : List Value} (h : Cells P W t cs) :
    cs.length = P.cellsOf t ∧ ∀ (i : Nat) (f : Field), fs[i]? = some f → Cells P W f.type ((cs.drop f.offset).take (P.cellsOf f.type)) := by
  obtain ⟨H, enc, n, y, h⟩ := h
  obtain ⟨xs, m, _, _, hlen, hxl, hf⟩ := DataW.trod_struct ht h
  refine ⟨hlen, fun i f hi => ?_⟩
  have hlt : i < fs.size := (Array.getElem?_eq_some_iff.1 hi).1
  have h1 := hf i f hi
  rw [List.getElem?_eq_getElem (by omega)] at h1
  exact ⟨H, enc, m, _, h1⟩
/-- A struct of one-cell fields. -/
theorem Cells.fields1 {fs : Array Field} (ht : P.underlying t = some (.struct fs)) (hone : oneCellFields P fs = true) {n : Nat} (hC : P.cellsOf t = n) {cs : List Value} (h : Cells P W t cs) :
    cs.length = n ∧ ∀ (i : Nat) (f : Field), fs[i]? = some f → Cells P W f.type ((cs.drop i).take 1) := by
  obtain ⟨hl, hf⟩ := h.struct ht
  refine ⟨hl.trans hC, fun i f hi => ?_⟩
  obtain ⟨ho, hk⟩ := hone_of hone i f hi
  have := hf i f hi
  rwa [ho, hk] at this
/-- A slice: its elements' cells. -/
theorem Cells.slice (ht : P.underlying t = some (.slice e)) (hpos : 0 < P.cellsOf e) {cs : List Value} (h : Cells P W t cs) :
    ∃ (oa : Option Addr) (len cap : Nat) (rows : Nat → List Value), cs = [.slice oa len cap] ∧ len ≤ cap ∧ cap ≤ maxLen ∧ SlAt W oa len (P.cellsOf e) rows ∧
      ∀ i, i < len → (rows i).length = P.cellsOf e ∧ Cells P W e (rows i) := by
  obtain ⟨H, enc, n, y, h⟩ := h
  rcases open_slice ht h with ⟨hcs, _⟩ | ⟨a, len, cap, m, n, D, Pl, hcs, _, hl, hm, hmm, _, hi⟩
  · exact ⟨none, 0, 0, fun _ => [], hcs, Nat.le_refl _, Nat.zero_le _, fun i hi => by omega, fun i hi => by omega⟩
  · have hex : ∀ i, i < len → ∃ cs', W.cells? 0 (a.add (i * P.cellsOf e)) (P.cellsOf e) = some cs' ∧ DataW.trod enc P W 0 (fun _ => true) true n e cs' = some (D i, Pl i) := fun i hi' => hi i (by simp at hmm; omega)
    have hall : ∀ i, i < len → ∃ cs' : List Value, cs'.length = P.cellsOf e ∧ (∀ j, j < P.cellsOf e → W.cell? (a.add (i * P.cellsOf e + j)) = cs'[j]?) ∧ Cells P W e cs' := fun i hi' => by
      obtain ⟨cs', h1, h2⟩ := hex i hi'
      obtain ⟨_, hlen, hc⟩ := World.cells?_some h1
      exact ⟨cs', hlen, fun j hj => by rw [← Go.Deep.add_add]; exact hc j hj, H, enc, n, _, h2⟩
    obtain ⟨rows, hr⟩ : ∃ rows : Nat → List Value, ∀ i, i < len → (rows i).length = P.cellsOf e ∧ (∀ j, j < P.cellsOf e → W.cell? (a.add (i * P.cellsOf e + j)) = (rows i)[j]?) ∧ Cells P W e (rows i) :=
      ⟨fun i => if h : i < len then (hall i h).choose else [], fun i hi' => by simp only [hi', dif_pos]; exact (hall i hi').choose_spec⟩
    refine ⟨some a, len, cap, rows, hcs, hl, hm, fun i hi' => ?_, fun i hi' => ⟨(hr i hi').1, (hr i hi').2.2⟩⟩
    obtain ⟨hl0, hc0, _⟩ := hr 0 (by omega)
    have h00 := hc0 0 hpos
    rw [List.getElem?_eq_getElem (by omega)] at h00
    simp only [Nat.zero_mul, Nat.add_zero, Addr.add_zero'] at h00
    have hsp : a.spot = none := by
      cases hs : a.spot with
      | none => rfl
      | some x => simp only [World.cell?, hs, Option.isSome_some, if_true] at h00; split at h00 <;> cases h00
    obtain ⟨ab, ao, asp⟩ := a
    simp only at hsp
    subst hsp
    refine ⟨ab, ao, rfl, World.block_lt_of_cell? W _ h00, fun j v hv => ?_⟩
    obtain ⟨hl1, hc1, _⟩ := hr i hi'
    have hj : j < P.cellsOf e := by have := (List.getElem?_eq_some_iff.1 hv).1; omega
    have := hc1 j hj
    rw [hv, Addr.add_lit, ← Nat.add_assoc] at this
    exact this
/-- A slice of integers. -/
theorem Cells.ints {k : IntKind} (ht : P.underlying t = some (.slice e)) (he : P.underlying e = some (.int k)) (hone : P.cellsOf e = 1) {cs : List Value} (h : Cells P W t cs) :
    ∃ (oa : Option Addr) (len cap : Nat) (xs : Nat → Int), cs = [.slice oa len cap] ∧ len ≤ cap ∧ cap ≤ maxLen ∧ IntsAt W oa len k xs ∧ ∀ i, i < len → (Lit.int k (xs i)).wf = true := by
  obtain ⟨oa, len, cap, rows, hcs, hl, hm, hS, hr⟩ := h.slice ht (by omega)
  have hx : ∀ i, i < len → ∃ n, rows i = [.int k n] ∧ (Lit.int k n).wf = true := fun i hi => (hr i hi).2.int he
  obtain ⟨xs, hxs⟩ : ∃ xs : Nat → Int, ∀ i, i < len → rows i = [.int k (xs i)] ∧ (Lit.int k (xs i)).wf = true :=
    ⟨fun i => if h : i < len then (hx i h).choose else 0, fun i hi => by simp only [hi, dif_pos]; exact (hx i hi).choose_spec⟩
  refine ⟨oa, len, cap, xs, hcs, hl, hm, fun i hi => ?_, fun i hi => (hxs i hi).2⟩
  obtain ⟨b, off, ho, hlt, hc⟩ := hS i hi
  refine ⟨b, off, ho, hlt, ?_⟩
  have := hc 0 (.int k (xs i)) (by rw [(hxs i hi).1]; rfl)
  rw [hone] at this
  simpa using this

theorem Arg.bool (ht : P.underlying t = some .bool) {v : Value} (h : Arg P W base t v) : ∃ b, v = .bool b := okWide_bool ht h.1
theorem Arg.int {k : IntKind} (ht : P.underlying t = some (.int k)) {v : Value} (h : Arg P W base t v) : ∃ n, v = .int k n ∧ (Lit.int k n).wf = true := by
  obtain ⟨n, rfl⟩ := okWide_int ht h.1
  obtain ⟨m, hm, hw⟩ := h.2.int ht
  simp [Value.cells] at hm
  exact ⟨n, rfl, hm ▸ hw⟩
theorem Arg.string (ht : P.underlying t = some .string) {v : Value} (h : Arg P W base t v) : ∃ s : ByteArray, v = .string s ∧ s.size ≤ maxLen := by
  obtain ⟨n, rfl⟩ := okWide_string ht h.1
  obtain ⟨m, hm, hw⟩ := h.2.string ht
  simp [Value.cells] at hm
  exact ⟨n, rfl, hm ▸ hw⟩
theorem Arg.struct {fs : Array Field} (ht : P.underlying t = some (.struct fs)) {v : Value} (h : Arg P W base t v) : ∃ cs : List Value, v = .agg cs.toArray ∧ Cells P W t cs := by
  obtain ⟨cs, rfl, _⟩ := okWide_struct ht h.1
  exact ⟨cs.toList, rfl, h.2⟩
theorem Arg.slice (ht : P.underlying t = some (.slice e)) {v : Value} (h : Arg P W base t v) : Cells P W t [v] := by
  obtain ⟨a, len, cap, rfl⟩ := okWide_slice ht h.1
  exact h.2
end
end Go
