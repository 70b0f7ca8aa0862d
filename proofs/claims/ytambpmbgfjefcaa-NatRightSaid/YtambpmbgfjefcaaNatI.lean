/- Loans among a law's arguments; plain laws of loans. -/
import Derived.Test.YtambpmbgfjefcaaNatH
set_option linter.unusedVariables false
set_option maxRecDepth 100000
set_option linter.unusedSimpArgs false
namespace Go.Proofs.Ytambpmbgfjefcaa
open Go.RowKit
structure Ln.Wf (x : Ln) : Prop where
  proto : -9223372036854775808 ≤ x.proto ∧ x.proto ≤ 9223372036854775807
  inn : 0 ≤ x.inn ∧ x.inn ≤ 4294967295
  inport : -9223372036854775808 ≤ x.inport ∧ x.inport ≤ 9223372036854775807
  port : -9223372036854775808 ≤ x.port ∧ x.port ≤ 9223372036854775807
  till : -9223372036854775808 ≤ x.till ∧ x.till ≤ 9223372036854775807
theorem ln_of {W : World} {cs : List Value} (h : Cells Try.prog W 39 cs) : ∃ x : Ln, cs = x.cells ∧ x.Wf := by
  obtain ⟨hl_x, hf_x⟩ := h.fields1 Try.underlying39 (by kernel_rfl) (n := 5) (by kernel_rfl)
  obtain ⟨x_Proto, lx0, e_x0⟩ : ∃ x l, cs = x :: l := by cases cs with | nil => simp at hl_x | cons x l => exact ⟨x, l, rfl⟩
  subst e_x0
  obtain ⟨x_In, lx1, e_x1⟩ : ∃ x l, lx0 = x :: l := by cases lx0 with | nil => simp at hl_x | cons x l => exact ⟨x, l, rfl⟩
  subst e_x1
  obtain ⟨x_Inport, lx2, e_x2⟩ : ∃ x l, lx1 = x :: l := by cases lx1 with | nil => simp at hl_x | cons x l => exact ⟨x, l, rfl⟩
  subst e_x2
  obtain ⟨x_Port, lx3, e_x3⟩ : ∃ x l, lx2 = x :: l := by cases lx2 with | nil => simp at hl_x | cons x l => exact ⟨x, l, rfl⟩
  subst e_x3
  obtain ⟨x_Until, lx4, e_x4⟩ : ∃ x l, lx3 = x :: l := by cases lx3 with | nil => simp at hl_x | cons x l => exact ⟨x, l, rfl⟩
  subst e_x4
  obtain rfl : lx4 = [] := by simpa using hl_x
  have f_x0 : Cells Try.prog W 3 [x_Proto] := hf_x 0 _ rfl
  have f_x1 : Cells Try.prog W 23 [x_In] := hf_x 1 _ rfl
  have f_x2 : Cells Try.prog W 3 [x_Inport] := hf_x 2 _ rfl
  have f_x3 : Cells Try.prog W 3 [x_Port] := hf_x 3 _ rfl
  have f_x4 : Cells Try.prog W 3 [x_Until] := hf_x 4 _ rfl
  clear hf_x hl_x
  obtain ⟨x_Proto, e_x_Proto, w_x_Proto⟩ := f_x0.int Try.underlying3; cases e_x_Proto
  obtain ⟨x_In, e_x_In, w_x_In⟩ := f_x1.int Try.underlying23; cases e_x_In
  obtain ⟨x_Inport, e_x_Inport, w_x_Inport⟩ := f_x2.int Try.underlying3; cases e_x_Inport
  obtain ⟨x_Port, e_x_Port, w_x_Port⟩ := f_x3.int Try.underlying3; cases e_x_Port
  obtain ⟨x_Until, e_x_Until, w_x_Until⟩ := f_x4.int Try.underlying3; cases e_x_Until
  exact ⟨⟨x_Proto, x_In, x_Inport, x_Port, x_Until⟩, rfl, bounds_i64 w_x_Proto, bounds_u32 w_x_In, bounds_i64 w_x_Inport, bounds_i64 w_x_Port, bounds_i64 w_x_Until⟩
theorem loans_of {W : World} {oa : Option Addr} {len : Nat} {rows : Nat → List Value} (hS : SlAt W oa len (Try.prog.cellsOf 39) rows) (hr : ∀ i, i < len → (rows i).length = Try.prog.cellsOf 39 ∧ Cells Try.prog W 39 (rows i)) :
    ∃ L : List Ln, L.length = len ∧ LsAt W oa L ∧ ∀ x ∈ L, x.Wf := by
  rw [show Try.prog.cellsOf 39 = 5 by kernel_rfl] at hS
  have hx : ∀ i, i < len → ∃ x : Ln, rows i = x.cells ∧ x.Wf := fun i hi => ln_of (hr i hi).2
  obtain ⟨f, hf⟩ : ∃ f : Nat → Ln, ∀ i, i < len → rows i = (f i).cells ∧ (f i).Wf := ⟨fun i => if h : i < len then (hx i h).choose else Ln.zero, fun i hi => by simp only [hi, dif_pos]; exact (hx i hi).choose_spec⟩
  refine ⟨(List.range len).map f, by simp, fun i x hi => ?_, fun x hx => ?_⟩
  · have hil : i < len := by have := (List.getElem?_eq_some_iff.1 hi).1; simpa using this
    rw [List.getElem?_map, List.getElem?_range hil] at hi
    simp only [Option.map_some, Option.some.injEq] at hi
    subst hi
    obtain ⟨b, off, he, hlt, hc⟩ := hS i hil
    rw [(hf i hil).1] at hc
    exact ⟨b, off, he, hlt, hc 0 _ rfl, hc 1 _ rfl, hc 2 _ rfl, hc 3 _ rfl, hc 4 _ rfl⟩
  · obtain ⟨i, hi, rfl⟩ := List.mem_map.1 hx
    exact (hf i (List.mem_range.1 hi)).2
/-- Right loans, said without places. -/
def RightL (lo hi : Int) (L : List Ln) : Prop := (∀ x ∈ L, namedB x = true ∧ withinB x.port lo hi = true) ∧ L.Pairwise (fun y x => outerB x y = false ∧ innerB x y = false)
theorem find_none_take {L : List Ln} {i : Nat} {pr : Ln → Bool} : ((L.take i).findIdx? pr).isNone = true ↔ ∀ j, j < i → ∀ y, L[j]? = some y → pr y = false := by
  rw [Option.isNone_iff_eq_none, List.findIdx?_eq_none_iff]
  constructor
  · intro h j hj y hy
    exact h y (List.mem_of_getElem? (i := j) (by rw [List.getElem?_take, if_pos hj]; exact hy))
  · intro h y hy
    obtain ⟨j, hj⟩ := List.getElem?_of_mem hy
    rw [List.getElem?_take] at hj
    split at hj
    · exact h j (by assumption) y hj
    · cases hj
theorem natRight_iff {lo hi : Int} {L : List Ln} : natRight lo hi L = true ↔ rightB lo hi = true ∧ RightL lo hi L := by
  unfold natRight RightL
  simp only [Bool.and_eq_true, decide_eq_true_eq]
  refine and_congr_right fun _ => ?_
  constructor
  · intro h
    refine ⟨fun x hx => ?_, ?_⟩
    · obtain ⟨i, hi⟩ := List.getElem?_of_mem hx
      have := h i (List.getElem?_eq_some_iff.1 hi).1 x hi
      unfold lnOk at this
      simp only [Bool.and_eq_true] at this
      exact ⟨this.1.1.1, this.1.1.2⟩
    · rw [List.pairwise_iff_getElem]
      intro i j hi hj hij
      have := h j hj L[j] (List.getElem?_eq_getElem hj)
      unfold lnOk at this
      simp only [Bool.and_eq_true] at this
      exact ⟨find_none_take.1 this.1.2 i hij _ (List.getElem?_eq_getElem hi), find_none_take.1 this.2 i hij _ (List.getElem?_eq_getElem hi)⟩
  · rintro ⟨h1, h2⟩ i hi x hx
    rw [List.pairwise_iff_getElem] at h2
    have hm := List.mem_of_getElem? hx
    have hxe : L[i] = x := by rw [List.getElem?_eq_getElem hi] at hx; simpa using hx
    unfold lnOk
    simp only [Bool.and_eq_true]
    refine ⟨⟨⟨(h1 x hm).1, (h1 x hm).2⟩, find_none_take.2 fun j hj y hy => ?_⟩, find_none_take.2 fun j hj y hy => ?_⟩
    · have hy2 : L[j] = y := by rw [List.getElem?_eq_getElem (show j < L.length by omega)] at hy; simpa using hy
      have := (h2 j i (by omega) hi hj).1
      rw [hxe, hy2] at this
      exact this
    · have hy2 : L[j] = y := by rw [List.getElem?_eq_getElem (show j < L.length by omega)] at hy; simpa using hy
      have := (h2 j i (by omega) hi hj).2
      rw [hxe, hy2] at this
      exact this
theorem findIdx_find {α : Type} {L : List α} {pr : α → Bool} {k : Nat} (h : L.findIdx? pr = some k) : L[k]? = L.find? pr := by
  induction L generalizing k with
  | nil => simp at h
  | cons x L ih =>
    rw [List.findIdx?_cons] at h
    by_cases hp : pr x = true
    · rw [if_pos hp] at h
      cases h
      simp [hp]
    · rw [if_neg hp] at h
      cases hk : L.findIdx? pr with
      | none => rw [hk] at h; cases h
      | some j =>
        rw [hk] at h
        cases h
        simp [hp, ih hk]
theorem findIdx_find_none {α : Type} {L : List α} {pr : α → Bool} (h : L.findIdx? pr = none) : L.find? pr = none := by
  rw [List.findIdx?_eq_none_iff] at h
  rw [List.find?_eq_none]
  intro x hx
  simp [h x hx]
/-- The answer of Ask, but for the list. -/
def askR (lo hi : Int) (f : Option Ln) (t : List Int) (ok : Bool) (x : Ln) (D : Nat) : Int × Int :=
  if ok = false then (0, 1) else
  match f with
  | some y => (y.port, 0)
  | none => let r := poolChoose lo hi (fun i => t[i]?.getD 0) t.length x.inport D; if r.2 then (r.1, 0) else (0, 8)
theorem askP_snd (lo hi : Int) (L : List Ln) (x : Ln) (D : Nat) : (askP lo hi L x D).2 = askR lo hi (L.find? (innerB x)) (takenL L x.proto) (natRight lo hi L && namedB x) x D := by
  unfold askP askR
  by_cases h : (natRight lo hi L && namedB x) = false
  · rw [if_pos h, if_pos h]
  · rw [if_neg h, if_neg h]
    cases hf : L.findIdx? (innerB x) with
    | none =>
      rw [findIdx_find_none hf]
      simp only
      split <;> rfl
    | some k =>
      have hk := findIdx_find hf
      have hl := findIdx_lt k hf
      have e := List.getElem?_eq_getElem hl
      rw [← hk, e]
      simp only [e]
theorem natProto_plain (lo hi : Int) (L : List Ln) (x : Ln) (D : Nat) (h : natRight lo hi L = true) : (askP lo hi (L.filter fun y => y.proto == x.proto) x D).2 = (askP lo hi L x D).2 := by
  rw [askP_snd, askP_snd]
  have h1 : natRight lo hi (L.filter fun y => y.proto == x.proto) = true := by
    rw [natRight_iff] at h ⊢
    exact ⟨h.1, fun y hy => h.2.1 y (List.mem_filter.1 hy).1, h.2.2.filter _⟩
  have h2 : (L.filter fun y => y.proto == x.proto).find? (innerB x) = L.find? (innerB x) := by
    rw [List.find?_filter]
    congr 1
    funext y
    unfold innerB
    rw [Bool.eq_iff_iff]
    simp only [Bool.and_eq_true, beq_iff_eq, decide_eq_true_eq]
    constructor
    · exact fun h => h.2
    · rintro ⟨⟨h1, h2⟩, h3⟩; exact ⟨h1.symm, ⟨h1, h2⟩, h3⟩
  have h3 : takenL (L.filter fun y => y.proto == x.proto) x.proto = takenL L x.proto := by
    unfold takenL
    rw [List.filter_filter]
    simp
  rw [h, h1, h2, h3]
end Go.Proofs.Ytambpmbgfjefcaa
