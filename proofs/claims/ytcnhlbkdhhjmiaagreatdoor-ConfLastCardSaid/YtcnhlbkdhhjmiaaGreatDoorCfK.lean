/- A line's words; the reader of a first word. -/
import Derived.Test.YtcnhlbkdhhjmiaaGreatDoorCfJ
set_option linter.unusedVariables false
set_option maxRecDepth 100000
set_option linter.unusedSimpArgs false
namespace Go.Proofs.YtcnhlbkdhhjmiaaGreatDoor
open Go.RowKit
variable {L L' : Nat → Prop} {w w' w'' : World}
theorem blank_any (x : Nat) (hx : x ≤ 1114111) (w : World) : Calls Tryz.prog 19 #[.int .i32 (x : Int)] w fun e w' => e = .returned (.bool (blankP x)) ∧ ∃ q, w' = w.drewN q := by
  unfold blankP
  by_cases h : x = 32
  · subst h
    go_enter Tryz.func19, Tryz.ntmps19
    go_wp2
    go_ret
    exact ⟨rfl, 0, rfl⟩
  · have h1 : ((x : Int) == 32) = false := by rw [beq_eq_false_iff_ne]; omega
    have h2 : ¬ (x : Int) = 32 := by omega
    have hd : decide (x = 32) = false := decide_eq_false h
    rw [hd]
    go_enter Tryz.func19, Tryz.ntmps19
    go_wp2
    go_ret
    exact ⟨by simp [h1, h2], 0, rfl⟩
/-- A line is cut into its words. -/
theorem fields_any (s : ByteArray) (hs : s.size ≤ 4294967296) (w : World) :
    Calls Tryz.prog 18 #[.string s, .func (.func 19) #[] #[]] w fun e w' => ∃ A, e = .returned (.slice (some ⟨A, 0, none⟩) (Lib.goFieldsP blankP s).length (Lib.goFieldsP blankP s).length) ∧ w.heap.size ≤ A ∧
      Own w.heap.size w' 9 1 (some ⟨A, 0, none⟩) (Lib.goFieldsP blankP s).length (Lib.goFieldsP blankP s).length ((Lib.goFieldsP blankP s).map Value.string) ∧ Junk w w' :=
  (Any.strings_FieldsFunc_runes Tryz.lays229 19 #[] (enters_of Tryz.func19 (by kernel_rfl) rfl) blankP s w hs (fun W x hx _ => blank_any x hx W) (by kernel_rfl) (by kernel_rfl)).mono fun e w' ⟨A, he, hA, ho, hb⟩ => ⟨A, he, hA, ho, Junk.of_below hb⟩
/-- No word is empty. -/
theorem spans_ok (p : Nat → Bool) (s : ByteArray) : ∀ (f pos : Nat) (st : Option Nat) (acc : List (Nat × Nat)), (∀ a, st = some a → a < pos ∧ a < s.size) → (∀ x ∈ acc, x.1 < x.2 ∧ x.1 < s.size) →
    (∀ x ∈ (Lib.spansFromP p s f pos st acc).1, x.1 < x.2 ∧ x.1 < s.size) ∧ (∀ a, (Lib.spansFromP p s f pos st acc).2 = some a → a < s.size)
  | 0, pos, st, acc, hst, hacc => ⟨hacc, fun a h => (hst a h).2⟩
  | f + 1, pos, st, acc, hst, hacc => by
    unfold Lib.spansFromP
    by_cases hlt : pos < s.size
    · rw [if_pos hlt]
      have hwd := Lib.width_pos s pos
      by_cases hp : p (Utf8.decode s pos).1 = true
      · rw [if_pos hp]
        cases st with
        | some a =>
          exact spans_ok p s f _ none _ (fun a h => by cases h) (fun x hx => by
            rcases List.mem_append.1 hx with hx | hx
            · exact hacc x hx
            · rw [List.mem_singleton] at hx
              subst hx
              exact ⟨(hst a rfl).1, (hst a rfl).2⟩)
        | none => exact spans_ok p s f _ none _ (fun a h => by cases h) hacc
      · rw [if_neg hp]
        cases st with
        | some a => exact spans_ok p s f _ (some a) _ (fun b h => by cases h; have := hst a rfl; omega) hacc
        | none => exact spans_ok p s f _ (some pos) _ (fun b h => by cases h; omega) hacc
    · rw [if_neg hlt]
      exact ⟨hacc, fun a h => (hst a h).2⟩
theorem fields_ne (p : Nat → Bool) (s : ByteArray) : ∀ x ∈ Lib.goFieldsP p s, 0 < x.size := by
  intro x hx
  unfold Lib.goFieldsP Lib.spansOfP Lib.closeSpans at hx
  obtain ⟨y, hy, rfl⟩ := List.mem_map.1 hx
  have h := spans_ok p s s.size 0 none [] (fun a h => by cases h) (fun x hx => by cases hx)
  have key : y.1 < y.2 ∧ y.1 < s.size := by
    split at hy
    · rename_i a ha
      rcases List.mem_append.1 hy with hy | hy
      · exact h.1 y hy
      · rw [List.mem_singleton] at hy
        subst hy
        exact ⟨h.2 a ha, h.2 a ha⟩
    · exact h.1 y hy
  rw [ByteArray.size_extract]
  omega
/-- Who reads a line of that first word. -/
def readerN (k : W8) : Option Nat :=
  if k = wRoute then some 35 else if k = wRule then some 36 else if k = wOutside then some 37 else if k = wPublic then some 38
  else if k = wForward then some 39 else if k = wLife then some 40 else if k = wBudget then some 41 else none
set_option maxHeartbeats 4000000 in
theorem reader_any (s : ByteArray) (w : World) : Calls Tryz.prog 20 #[.string s] w fun e w' => w' = w ∧ (match readerN s.data.toList with
    | some g => e = .returned (.tuple #[.func (.func g) #[] #[], .bool true])
    | none => e = .returned (.tuple #[.nilFunc, .bool false])) := by
  have b1 : (s.toList == [114, 111, 117, 116, 101]) = decide (s.data.toList = wRoute) := bytes_eq s _
  have b2 : (s.toList == [114, 117, 108, 101]) = decide (s.data.toList = wRule) := bytes_eq s _
  have b3 : (s.toList == [111, 117, 116, 115, 105, 100, 101]) = decide (s.data.toList = wOutside) := bytes_eq s _
  have b4 : (s.toList == [112, 117, 98, 108, 105, 99]) = decide (s.data.toList = wPublic) := bytes_eq s _
  have b5 : (s.toList == [102, 111, 114, 119, 97, 114, 100]) = decide (s.data.toList = wForward) := bytes_eq s _
  have b6 : (s.toList == [108, 105, 102, 101]) = decide (s.data.toList = wLife) := bytes_eq s _
  have b7 : (s.toList == [98, 117, 100, 103, 101, 116]) = decide (s.data.toList = wBudget) := bytes_eq s _
  unfold readerN
  obtain ⟨d1, hd1⟩ : ∃ d, decide (s.data.toList = wRoute) = d := ⟨_, rfl⟩
  obtain ⟨d2, hd2⟩ : ∃ d, decide (s.data.toList = wRule) = d := ⟨_, rfl⟩
  obtain ⟨d3, hd3⟩ : ∃ d, decide (s.data.toList = wOutside) = d := ⟨_, rfl⟩
  obtain ⟨d4, hd4⟩ : ∃ d, decide (s.data.toList = wPublic) = d := ⟨_, rfl⟩
  obtain ⟨d5, hd5⟩ : ∃ d, decide (s.data.toList = wForward) = d := ⟨_, rfl⟩
  obtain ⟨d6, hd6⟩ : ∃ d, decide (s.data.toList = wLife) = d := ⟨_, rfl⟩
  obtain ⟨d7, hd7⟩ : ∃ d, decide (s.data.toList = wBudget) = d := ⟨_, rfl⟩
  have h1 : (s.data.toList = wRoute) = (d1 = true) := by rw [← hd1, decide_eq_true_eq]
  have h2 : (s.data.toList = wRule) = (d2 = true) := by rw [← hd2, decide_eq_true_eq]
  have h3 : (s.data.toList = wOutside) = (d3 = true) := by rw [← hd3, decide_eq_true_eq]
  have h4 : (s.data.toList = wPublic) = (d4 = true) := by rw [← hd4, decide_eq_true_eq]
  have h5 : (s.data.toList = wForward) = (d5 = true) := by rw [← hd5, decide_eq_true_eq]
  have h6 : (s.data.toList = wLife) = (d6 = true) := by rw [← hd6, decide_eq_true_eq]
  have h7 : (s.data.toList = wBudget) = (d7 = true) := by rw [← hd7, decide_eq_true_eq]
  rw [hd1] at b1
  rw [hd2] at b2
  rw [hd3] at b3
  rw [hd4] at b4
  rw [hd5] at b5
  rw [hd6] at b6
  rw [hd7] at b7
  simp only [h1, h2, h3, h4, h5, h6, h7]
  clear h1 h2 h3 h4 h5 h6 h7 hd1 hd2 hd3 hd4 hd5 hd6 hd7
  cases d1 with
  | true => go_enter Tryz.func20, Tryz.ntmps20; go_wp2; go_returns; exact ⟨rfl, rfl⟩
  | false => cases d2 with
    | true => go_enter Tryz.func20, Tryz.ntmps20; go_wp2; go_returns; exact ⟨rfl, rfl⟩
    | false => cases d3 with
      | true => go_enter Tryz.func20, Tryz.ntmps20; go_wp2; go_returns; exact ⟨rfl, rfl⟩
      | false => cases d4 with
        | true => go_enter Tryz.func20, Tryz.ntmps20; go_wp2; go_returns; exact ⟨rfl, rfl⟩
        | false => cases d5 with
          | true => go_enter Tryz.func20, Tryz.ntmps20; go_wp2; go_returns; exact ⟨rfl, rfl⟩
          | false => cases d6 with
            | true => go_enter Tryz.func20, Tryz.ntmps20; go_wp2; go_returns; exact ⟨rfl, rfl⟩
            | false => cases d7 with
              | true => go_enter Tryz.func20, Tryz.ntmps20; go_wp2; go_returns; exact ⟨rfl, rfl⟩
              | false => go_enter Tryz.func20, Tryz.ntmps20; go_wp2; go_returns; exact ⟨rfl, rfl⟩
end Go.Proofs.YtcnhlbkdhhjmiaaGreatDoor
