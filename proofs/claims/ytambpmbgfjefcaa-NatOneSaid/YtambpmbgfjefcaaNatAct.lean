/- Acts among a law's arguments; the law NatOne: whoever asks, and whenever: loans stay right; who asks again has the same port as long as the loan lasts; whom a port leads to is who has it; only where no port is free none is lent. -/
import Derived.Test.YtambpmbgfjefcaaNatOne
set_option linter.unusedVariables false
set_option maxRecDepth 100000
set_option linter.unusedSimpArgs false
namespace Go.Proofs.Ytambpmbgfjefcaa
open Go.RowKit
theorem act_of {W : World} {cs : List Value} (h : Cells Try.prog W 56 cs) : ∃ x : Act1, cs = x.cells ∧ x.draw < 4294967296 := by
  obtain ⟨hl, hf⟩ := h.struct Try.underlying56
  have k8 : Try.prog.cellsOf 56 = 8 := by kernel_rfl
  have k1 : Try.prog.cellsOf 4 = 1 := by kernel_rfl
  have k5 : Try.prog.cellsOf 39 = 5 := by kernel_rfl
  have k2 : Try.prog.cellsOf 23 = 1 := by kernel_rfl
  have k3 : Try.prog.cellsOf 3 = 1 := by kernel_rfl
  rw [k8] at hl
  obtain ⟨c0, r0, rfl⟩ : ∃ x l, cs = x :: l := by cases cs with | nil => simp at hl | cons x l => exact ⟨x, l, rfl⟩
  obtain ⟨c1, r1, rfl⟩ : ∃ x l, r0 = x :: l := by cases r0 with | nil => simp at hl | cons x l => exact ⟨x, l, rfl⟩
  obtain ⟨c2, r2, rfl⟩ : ∃ x l, r1 = x :: l := by cases r1 with | nil => simp at hl | cons x l => exact ⟨x, l, rfl⟩
  obtain ⟨c3, r3, rfl⟩ : ∃ x l, r2 = x :: l := by cases r2 with | nil => simp at hl | cons x l => exact ⟨x, l, rfl⟩
  obtain ⟨c4, r4, rfl⟩ : ∃ x l, r3 = x :: l := by cases r3 with | nil => simp at hl | cons x l => exact ⟨x, l, rfl⟩
  obtain ⟨c5, r5, rfl⟩ : ∃ x l, r4 = x :: l := by cases r4 with | nil => simp at hl | cons x l => exact ⟨x, l, rfl⟩
  obtain ⟨c6, r6, rfl⟩ : ∃ x l, r5 = x :: l := by cases r5 with | nil => simp at hl | cons x l => exact ⟨x, l, rfl⟩
  obtain ⟨c7, r7, rfl⟩ : ∃ x l, r6 = x :: l := by cases r6 with | nil => simp at hl | cons x l => exact ⟨x, l, rfl⟩
  obtain rfl : r7 = [] := by simpa using hl
  have f0 : Cells Try.prog W 4 ((([c0, c1, c2, c3, c4, c5, c6, c7] : List Value).drop 0).take (Try.prog.cellsOf 4)) := hf 0 _ rfl
  have f1 : Cells Try.prog W 39 ((([c0, c1, c2, c3, c4, c5, c6, c7] : List Value).drop 1).take (Try.prog.cellsOf 39)) := hf 1 _ rfl
  have f2 : Cells Try.prog W 23 ((([c0, c1, c2, c3, c4, c5, c6, c7] : List Value).drop 6).take (Try.prog.cellsOf 23)) := hf 2 _ rfl
  have f3 : Cells Try.prog W 3 ((([c0, c1, c2, c3, c4, c5, c6, c7] : List Value).drop 7).take (Try.prog.cellsOf 3)) := hf 3 _ rfl
  rw [k1] at f0
  rw [k5] at f1
  rw [k2] at f2
  rw [k3] at f3
  obtain ⟨t, e0⟩ := Cells.bool Try.underlying4 (cs := [c0]) f0
  obtain ⟨x, e1, hx⟩ := ln_of (cs := [c1, c2, c3, c4, c5]) f1
  obtain ⟨d, e2, w2⟩ := Cells.int Try.underlying23 (cs := [c6]) f2
  obtain ⟨n, e3, w3⟩ := Cells.int Try.underlying3 (cs := [c7]) f3
  cases e0
  cases e2
  cases e3
  simp only [Ln.cells, List.cons.injEq, and_true] at e1
  obtain ⟨rfl, rfl, rfl, rfl, rfl⟩ := e1
  have hd := bounds_u32 w2
  refine ⟨⟨t, x, d.toNat, n⟩, ?_, by show d.toNat < _; omega⟩
  have e : ((d.toNat : Nat) : Int) = d := by omega
  simp [Act1.cells, e]
theorem acts_of {W : World} {oa : Option Addr} {len : Nat} {rows : Nat → List Value} (hS : SlAt W oa len (Try.prog.cellsOf 56) rows) (hr : ∀ i, i < len → (rows i).length = Try.prog.cellsOf 56 ∧ Cells Try.prog W 56 (rows i)) :
    ∃ L : List Act1, L.length = len ∧ ActsAt W oa L ∧ ∀ x ∈ L, x.draw < 4294967296 := by
  rw [show Try.prog.cellsOf 56 = 8 by kernel_rfl] at hS
  have hx : ∀ i, i < len → ∃ x : Act1, rows i = x.cells ∧ x.draw < 4294967296 := fun i hi => act_of (hr i hi).2
  obtain ⟨f, hf⟩ : ∃ f : Nat → Act1, ∀ i, i < len → rows i = (f i).cells ∧ (f i).draw < 4294967296 := ⟨fun i => if h : i < len then (hx i h).choose else ⟨false, Ln.zero, 0, 0⟩, fun i hi => by simp only [hi, dif_pos]; exact (hx i hi).choose_spec⟩
  refine ⟨(List.range len).map f, by simp, fun i x hi => ?_, fun x hx => ?_⟩
  · have hil : i < len := by have := (List.getElem?_eq_some_iff.1 hi).1; simpa using this
    rw [List.getElem?_map, List.getElem?_range hil] at hi
    simp only [Option.map_some, Option.some.injEq] at hi
    subst hi
    obtain ⟨b, off, he, hlt, hc⟩ := hS i hil
    rw [(hf i hil).1] at hc
    exact ⟨b, off, he, hlt, hc 0 _ rfl, hc 1 _ rfl, hc 2 _ rfl, hc 3 _ rfl, hc 4 _ rfl, hc 5 _ rfl, hc 6 _ rfl, hc 7 _ rfl⟩
  · obtain ⟨i, hi, rfl⟩ := List.mem_map.1 hx
    exact (hf i (List.mem_range.1 hi)).2
theorem natOne_core (W : World) (base : Nat) (v0 v1 v2 : Value) (a0 : Arg Try.prog W base 32 v0) (a1 : Arg Try.prog W base 5 v1) (a2 : Arg Try.prog W base 54 v2) :
    Calls Try.prog 9 #[v0, v1, v2] W fun e W' => e = .returned (.bool true) ∧ Junk W W' := by
  obtain ⟨lo, rfl, w_lo⟩ := a0.int Try.underlying32
  obtain ⟨size, rfl, w_size⟩ := a1.int Try.underlying5
  have f_l := a2.slice Try.underlying54
  obtain ⟨l_a, l_l, l_c, l, e_l, lc_l, cm_l, S_l, r_l⟩ := f_l.slice Try.underlying54 (Nat.lt_of_lt_of_eq (by decide : 0 < 8) (by kernel_rfl)); cases e_l
  obtain ⟨A, hA, hS, hd⟩ := acts_of S_l r_l
  exact natOne_walk lo size l_a l_l l_c A W (bounds_u16 w_lo) (bounds_u8 w_size) hA hS hd
set_option maxRecDepth 100000 in
theorem natOne_lifted (os : Os) (started : os.Started) (H : Type) (enc : TypeId × Value → H) :
    ReturnsInHanded {} Try.checked os 9 .any (Rows.natOneSpec.pre6 enc Try.prog Try.f9 Rows.natOneRow.domain false) (Rows.natOneSpec.post enc Try.prog Try.f9 false true false false) := by
  refine returnsInHanded_of_change (C := Try.checked) (by kernel_rfl) started (by kernel_rfl) Try.func9
    (ChangeSpec.witness6 (enc := enc) (C := Try.checked) false ⟨#[], #[.int .u16 0, .int .u8 0, .slice none 0 0], []⟩ 8 (by kernel_rfl) (by kernel_rfl) (by kernel_rfl) (by kernel_rfl)) ?_
  intro W base args ds gs before hval hW _ _
  obtain ⟨p, q, hA, _, _, _, _⟩ := id hW
  have hargs : Args Try.prog W base Try.f9.params.toList args.toList := args_of (fun j t v h1 h2 => hval j t v (by simpa using h1) (by simpa using h2)) hA
  rw [Try.params9] at hargs
  obtain ⟨v0, l0, e0, a0, r0⟩ := args_cons hargs
  obtain ⟨v1, l1, e1, a1, r1⟩ := args_cons r0
  obtain ⟨v2, l2, e2, a2, r2⟩ := args_cons r1
  have hn := args_nil r2
  have he : args = #[v0, v1, v2] := by
    apply Array.ext'
    simp only [e0, e1, e2, hn]
  subst he
  exact (natOne_core W base v0 v1 v2 a0 a1 a2).mono fun e W' ⟨he, hj⟩ => ⟨_, he, post_true (tb := 4) (by kernel_rfl) (by kernel_rfl) rfl (by kernel_rfl) rfl hW (fun hg hl => by
    subst hg
    match ds, hl with
    | [_, _, _], _ => exact ⟨rfl, rfl, rfl⟩) hj⟩
theorem natOne_holds : Rows.NatOneSaid :=
  OpenClaim.holds_of_wide 9 Try.f9 rfl rfl rfl rfl rfl rfl rfl ⟨rfl, rfl, rfl, rfl, rfl⟩ rfl rfl rfl rfl rfl (by kernel_rfl) Try.func9 (by kernel_rfl)
    (of_decide_eq_true (by kernel_rfl)) (by unfold Func.isWrapper; rw [if_neg (of_decide_eq_false (by kernel_rfl))]; exact ⟨rfl, rfl⟩)
    (fun os started H enc _ => natOne_lifted os started H enc)

end Go.Proofs.Ytambpmbgfjefcaa
