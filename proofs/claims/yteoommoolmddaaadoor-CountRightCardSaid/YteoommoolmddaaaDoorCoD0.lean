/- What the laws of layer 30 share: the table of blanks, tallies among the arguments. -/
import Derived.Test.YteoommoolmddaaaDoorCoH
import Derived.Test.YteoommoolmddaaaDoorCoI
import Derived.Test.YteoommoolmddaaaDoorRows
import Derived.Test.YteoommoolmddaaaDoorTie
import Derived.Test.YteoommoolmddaaaDoorCards
import Derived.SevenTiedAt
import Derived.LaidMore
import Derived.Stop.Joined
import Derived.Stop.LaidErr
set_option linter.unusedVariables false
set_option maxRecDepth 100000
set_option linter.unusedSimpArgs false
namespace Go.Proofs.YteoommoolmddaaaDoor
open Go.RowKit
/-- The table of blanks out of a row's condition. -/
theorem asc_laid {W : World} (h : laidMetH Tryd.prog [("unicode.White_Space", Rows.laid_unicode_White_Space), ("strings.asciiSpace", Rows.laid_strings_asciiSpace)] W) : AscT W := by
  rw [MakeChecks.laidMetH_plain _ _ _ (by kernel_rfl)] at h
  have h2 : laidMet Tryd.prog [("strings.asciiSpace", Lib.tabData .u8 Lib.asciiSpaceTab)] W := laidMet.tail h
  exact Lib.tabIs_of_head (g := 0) (t := 58) (e := 5) (n := 256) (by kernel_rfl) (by kernel_rfl) Tryd.underlying58 Tryd.underlying5 (by kernel_rfl) (by kernel_rfl) h2
structure Tl.Wf (x : Tl) : Prop where
  zone : -9223372036854775808 ≤ x.zone ∧ x.zone ≤ 9223372036854775807
  ver : -9223372036854775808 ≤ x.ver ∧ x.ver ≤ 9223372036854775807
  n : -9223372036854775808 ≤ x.n ∧ x.n ≤ 9223372036854775807
  b : -9223372036854775808 ≤ x.b ∧ x.b ≤ 9223372036854775807
theorem tl_of {W : World} {cs : List Value} (h : Cells Tryd.prog W 28 cs) : ∃ x : Tl, cs = x.cells ∧ x.Wf := by
  obtain ⟨hl_x, hf_x⟩ := h.fields1 Tryd.underlying28 (by kernel_rfl) (n := 4) (by kernel_rfl)
  obtain ⟨x_Zone, lx0, e_x0⟩ : ∃ x l, cs = x :: l := by cases cs with | nil => simp at hl_x | cons x l => exact ⟨x, l, rfl⟩
  subst e_x0
  obtain ⟨x_Verdict, lx1, e_x1⟩ : ∃ x l, lx0 = x :: l := by cases lx0 with | nil => simp at hl_x | cons x l => exact ⟨x, l, rfl⟩
  subst e_x1
  obtain ⟨x_N, lx2, e_x2⟩ : ∃ x l, lx1 = x :: l := by cases lx1 with | nil => simp at hl_x | cons x l => exact ⟨x, l, rfl⟩
  subst e_x2
  obtain ⟨x_Bytes, lx3, e_x3⟩ : ∃ x l, lx2 = x :: l := by cases lx2 with | nil => simp at hl_x | cons x l => exact ⟨x, l, rfl⟩
  subst e_x3
  obtain rfl : lx3 = [] := by simpa using hl_x
  have f_x0 : Cells Tryd.prog W 3 [x_Zone] := hf_x 0 _ rfl
  have f_x1 : Cells Tryd.prog W 22 [x_Verdict] := hf_x 1 _ rfl
  have f_x2 : Cells Tryd.prog W 3 [x_N] := hf_x 2 _ rfl
  have f_x3 : Cells Tryd.prog W 3 [x_Bytes] := hf_x 3 _ rfl
  clear hf_x hl_x
  obtain ⟨x_Zone, e_x_Zone, w_x_Zone⟩ := f_x0.int Tryd.underlying3; cases e_x_Zone
  obtain ⟨x_Verdict, e_x_Verdict, w_x_Verdict⟩ := f_x1.int Tryd.underlying22; cases e_x_Verdict
  obtain ⟨x_N, e_x_N, w_x_N⟩ := f_x2.int Tryd.underlying3; cases e_x_N
  obtain ⟨x_Bytes, e_x_Bytes, w_x_Bytes⟩ := f_x3.int Tryd.underlying3; cases e_x_Bytes
  exact ⟨⟨x_Zone, x_Verdict, x_N, x_Bytes⟩, rfl, bounds_i64 w_x_Zone, bounds_i64 w_x_Verdict, bounds_i64 w_x_N, bounds_i64 w_x_Bytes⟩
theorem tls_of {W : World} {oa : Option Addr} {len : Nat} {rows : Nat → List Value} (hS : SlAt W oa len (Tryd.prog.cellsOf 28) rows) (hr : ∀ i, i < len → (rows i).length = Tryd.prog.cellsOf 28 ∧ Cells Tryd.prog W 28 (rows i)) :
    ∃ L : List Tl, L.length = len ∧ TsAt W oa L ∧ ∀ x ∈ L, x.Wf := by
  rw [show Tryd.prog.cellsOf 28 = 4 by kernel_rfl] at hS
  have hx : ∀ i, i < len → ∃ x : Tl, rows i = x.cells ∧ x.Wf := fun i hi => tl_of (hr i hi).2
  obtain ⟨f, hf⟩ : ∃ f : Nat → Tl, ∀ i, i < len → rows i = (f i).cells ∧ (f i).Wf := ⟨fun i => if h : i < len then (hx i h).choose else ⟨0, 0, 0, 0⟩, fun i hi => by simp only [hi, dif_pos]; exact (hx i hi).choose_spec⟩
  refine ⟨(List.range len).map f, by simp, fun i x hi => ?_, fun x hx => ?_⟩
  · have hil : i < len := by have := (List.getElem?_eq_some_iff.1 hi).1; simpa using this
    rw [List.getElem?_map, List.getElem?_range hil] at hi
    simp only [Option.map_some, Option.some.injEq] at hi
    subst hi
    obtain ⟨b, off, he, hlt, hc⟩ := hS i hil
    rw [(hf i hil).1] at hc
    exact ⟨b, off, he, hlt, hc 0 _ rfl, hc 1 _ rfl, hc 2 _ rfl, hc 3 _ rfl⟩
  · obtain ⟨i, hi, rfl⟩ := List.mem_map.1 hx
    exact (hf i (List.mem_range.1 hi)).2
end Go.Proofs.YteoommoolmddaaaDoor
