/- Configurations among a law's arguments. -/
import Derived.Test.YtcnhlbkdhhjmiaaGreatDoorCgD
import Derived.Test.YtcnhlbkdhhjmiaaGreatDoorLift2
set_option linter.unusedVariables false
set_option maxRecDepth 100000
set_option linter.unusedSimpArgs false
namespace Go.Proofs.YtcnhlbkdhhjmiaaGreatDoor
open Go.RowKit
theorem ro_of_cells {W : World} {cs : List Value} (h : Cells Tryz.prog W 49 cs) : ∃ x : Ro, cs = x.cells ∧ (x.net < 4294967296) := by
  obtain ⟨hl_x, hf_x⟩ := h.fields1 Tryz.underlying49 (by kernel_rfl) (n := 4) (by kernel_rfl)
  obtain ⟨x_Net, lx0, e_x0⟩ : ∃ x l, cs = x :: l := by cases cs with | nil => simp at hl_x | cons x l => exact ⟨x, l, rfl⟩
  subst e_x0
  obtain ⟨x_Bits, lx1, e_x1⟩ : ∃ x l, lx0 = x :: l := by cases lx0 with | nil => simp at hl_x | cons x l => exact ⟨x, l, rfl⟩
  subst e_x1
  obtain ⟨x_Zone, lx2, e_x2⟩ : ∃ x l, lx1 = x :: l := by cases lx1 with | nil => simp at hl_x | cons x l => exact ⟨x, l, rfl⟩
  subst e_x2
  obtain ⟨x_Mtu, lx3, e_x3⟩ : ∃ x l, lx2 = x :: l := by cases lx2 with | nil => simp at hl_x | cons x l => exact ⟨x, l, rfl⟩
  subst e_x3
  obtain rfl : lx3 = [] := by simpa using hl_x
  have f_x0 : Cells Tryz.prog W 24 [x_Net] := hf_x 0 _ rfl
  have f_x1 : Cells Tryz.prog W 3 [x_Bits] := hf_x 1 _ rfl
  have f_x2 : Cells Tryz.prog W 3 [x_Zone] := hf_x 2 _ rfl
  have f_x3 : Cells Tryz.prog W 3 [x_Mtu] := hf_x 3 _ rfl
  clear hf_x hl_x
  obtain ⟨x_Net, e_x_Net, w_x_Net⟩ := f_x0.int Tryz.underlying24; cases e_x_Net
  obtain ⟨x_Bits, e_x_Bits, w_x_Bits⟩ := f_x1.int Tryz.underlying3; cases e_x_Bits
  obtain ⟨x_Zone, e_x_Zone, w_x_Zone⟩ := f_x2.int Tryz.underlying3; cases e_x_Zone
  obtain ⟨x_Mtu, e_x_Mtu, w_x_Mtu⟩ := f_x3.int Tryz.underlying3; cases e_x_Mtu
  have bNet := bounds_u32 w_x_Net
  obtain ⟨nNet, hnNet⟩ : ∃ n : Nat, x_Net = (n : Int) := ⟨x_Net.toNat, by omega⟩
  subst hnNet
  exact ⟨⟨nNet, x_Bits, x_Zone, x_Mtu⟩, rfl, by simp only; omega⟩
theorem ro_args {W : World} {oa : Option Addr} {len : Nat} {rows : Nat → List Value} (hS : SlAt W oa len (Tryz.prog.cellsOf 49) rows) (hr : ∀ i, i < len → (rows i).length = Tryz.prog.cellsOf 49 ∧ Cells Tryz.prog W 49 (rows i)) :
    ∃ L : List Ro, L.length = len ∧ RosAt W oa L ∧ ∀ x ∈ L, x.net < 4294967296 := by
  rw [show Tryz.prog.cellsOf 49 = 4 by kernel_rfl] at hS
  have hx : ∀ i, i < len → ∃ x : Ro, rows i = x.cells ∧ (x.net < 4294967296) := fun i hi => ro_of_cells (hr i hi).2
  obtain ⟨f, hf⟩ : ∃ f : Nat → Ro, ∀ i, i < len → ∃ x, x = f i ∧ rows i = x.cells ∧ (x.net < 4294967296) := ⟨fun i => if h : i < len then (hx i h).choose else ⟨0, 0, 0, 0⟩, fun i hi => ⟨_, rfl, by simp only [hi, dif_pos]; exact (hx i hi).choose_spec⟩⟩
  refine ⟨(List.range len).map f, by simp, fun i x hi => ?_, fun x hx => ?_⟩
  · have hil : i < len := by have := (List.getElem?_eq_some_iff.1 hi).1; simpa using this
    rw [List.getElem?_map, List.getElem?_range hil] at hi
    simp only [Option.map_some, Option.some.injEq] at hi
    subst hi
    obtain ⟨b, off, he, hlt, hc⟩ := hS i hil
    obtain ⟨x, hx1, hx2, _⟩ := hf i hil
    rw [hx2, hx1] at hc
    exact ⟨b, off, he, hlt, hc 0 _ rfl, hc 1 _ rfl, hc 2 _ rfl, hc 3 _ rfl⟩
  · obtain ⟨i, hi, rfl⟩ := List.mem_map.1 hx
    obtain ⟨y, hy1, _, hy2⟩ := hf i (List.mem_range.1 hi)
    rw [← hy1]
    exact hy2
theorem ru_of_cells {W : World} {cs : List Value} (h : Cells Tryz.prog W 54 cs) : ∃ x : Ru, cs = x.cells ∧ (x.src < 4294967296 ∧ x.dst < 4294967296) := by
  obtain ⟨hl_x, hf_x⟩ := h.fields1 Tryz.underlying54 (by kernel_rfl) (n := 10) (by kernel_rfl)
  obtain ⟨x_From, lx0, e_x0⟩ : ∃ x l, cs = x :: l := by cases cs with | nil => simp at hl_x | cons x l => exact ⟨x, l, rfl⟩
  subst e_x0
  obtain ⟨x_To, lx1, e_x1⟩ : ∃ x l, lx0 = x :: l := by cases lx0 with | nil => simp at hl_x | cons x l => exact ⟨x, l, rfl⟩
  subst e_x1
  obtain ⟨x_Proto, lx2, e_x2⟩ : ∃ x l, lx1 = x :: l := by cases lx1 with | nil => simp at hl_x | cons x l => exact ⟨x, l, rfl⟩
  subst e_x2
  obtain ⟨x_Src, lx3, e_x3⟩ : ∃ x l, lx2 = x :: l := by cases lx2 with | nil => simp at hl_x | cons x l => exact ⟨x, l, rfl⟩
  subst e_x3
  obtain ⟨x_Dst, lx4, e_x4⟩ : ∃ x l, lx3 = x :: l := by cases lx3 with | nil => simp at hl_x | cons x l => exact ⟨x, l, rfl⟩
  subst e_x4
  obtain ⟨x_SrcBits, lx5, e_x5⟩ : ∃ x l, lx4 = x :: l := by cases lx4 with | nil => simp at hl_x | cons x l => exact ⟨x, l, rfl⟩
  subst e_x5
  obtain ⟨x_DstBits, lx6, e_x6⟩ : ∃ x l, lx5 = x :: l := by cases lx5 with | nil => simp at hl_x | cons x l => exact ⟨x, l, rfl⟩
  subst e_x6
  obtain ⟨x_Lo, lx7, e_x7⟩ : ∃ x l, lx6 = x :: l := by cases lx6 with | nil => simp at hl_x | cons x l => exact ⟨x, l, rfl⟩
  subst e_x7
  obtain ⟨x_Hi, lx8, e_x8⟩ : ∃ x l, lx7 = x :: l := by cases lx7 with | nil => simp at hl_x | cons x l => exact ⟨x, l, rfl⟩
  subst e_x8
  obtain ⟨x_Action, lx9, e_x9⟩ : ∃ x l, lx8 = x :: l := by cases lx8 with | nil => simp at hl_x | cons x l => exact ⟨x, l, rfl⟩
  subst e_x9
  obtain rfl : lx9 = [] := by simpa using hl_x
  have f_x0 : Cells Tryz.prog W 3 [x_From] := hf_x 0 _ rfl
  have f_x1 : Cells Tryz.prog W 3 [x_To] := hf_x 1 _ rfl
  have f_x2 : Cells Tryz.prog W 3 [x_Proto] := hf_x 2 _ rfl
  have f_x3 : Cells Tryz.prog W 24 [x_Src] := hf_x 3 _ rfl
  have f_x4 : Cells Tryz.prog W 24 [x_Dst] := hf_x 4 _ rfl
  have f_x5 : Cells Tryz.prog W 3 [x_SrcBits] := hf_x 5 _ rfl
  have f_x6 : Cells Tryz.prog W 3 [x_DstBits] := hf_x 6 _ rfl
  have f_x7 : Cells Tryz.prog W 3 [x_Lo] := hf_x 7 _ rfl
  have f_x8 : Cells Tryz.prog W 3 [x_Hi] := hf_x 8 _ rfl
  have f_x9 : Cells Tryz.prog W 3 [x_Action] := hf_x 9 _ rfl
  clear hf_x hl_x
  obtain ⟨x_From, e_x_From, w_x_From⟩ := f_x0.int Tryz.underlying3; cases e_x_From
  obtain ⟨x_To, e_x_To, w_x_To⟩ := f_x1.int Tryz.underlying3; cases e_x_To
  obtain ⟨x_Proto, e_x_Proto, w_x_Proto⟩ := f_x2.int Tryz.underlying3; cases e_x_Proto
  obtain ⟨x_Src, e_x_Src, w_x_Src⟩ := f_x3.int Tryz.underlying24; cases e_x_Src
  obtain ⟨x_Dst, e_x_Dst, w_x_Dst⟩ := f_x4.int Tryz.underlying24; cases e_x_Dst
  obtain ⟨x_SrcBits, e_x_SrcBits, w_x_SrcBits⟩ := f_x5.int Tryz.underlying3; cases e_x_SrcBits
  obtain ⟨x_DstBits, e_x_DstBits, w_x_DstBits⟩ := f_x6.int Tryz.underlying3; cases e_x_DstBits
  obtain ⟨x_Lo, e_x_Lo, w_x_Lo⟩ := f_x7.int Tryz.underlying3; cases e_x_Lo
  obtain ⟨x_Hi, e_x_Hi, w_x_Hi⟩ := f_x8.int Tryz.underlying3; cases e_x_Hi
  obtain ⟨x_Action, e_x_Action, w_x_Action⟩ := f_x9.int Tryz.underlying3; cases e_x_Action
  have bSrc := bounds_u32 w_x_Src
  obtain ⟨nSrc, hnSrc⟩ : ∃ n : Nat, x_Src = (n : Int) := ⟨x_Src.toNat, by omega⟩
  subst hnSrc
  have bDst := bounds_u32 w_x_Dst
  obtain ⟨nDst, hnDst⟩ : ∃ n : Nat, x_Dst = (n : Int) := ⟨x_Dst.toNat, by omega⟩
  subst hnDst
  exact ⟨⟨x_From, x_To, x_Proto, nSrc, nDst, x_SrcBits, x_DstBits, x_Lo, x_Hi, x_Action⟩, rfl, by simp only; omega⟩
theorem ru_args {W : World} {oa : Option Addr} {len : Nat} {rows : Nat → List Value} (hS : SlAt W oa len (Tryz.prog.cellsOf 54) rows) (hr : ∀ i, i < len → (rows i).length = Tryz.prog.cellsOf 54 ∧ Cells Tryz.prog W 54 (rows i)) :
    ∃ L : List Ru, L.length = len ∧ RusAt W oa L ∧ ∀ x ∈ L, x.src < 4294967296 ∧ x.dst < 4294967296 := by
  rw [show Tryz.prog.cellsOf 54 = 10 by kernel_rfl] at hS
  have hx : ∀ i, i < len → ∃ x : Ru, rows i = x.cells ∧ (x.src < 4294967296 ∧ x.dst < 4294967296) := fun i hi => ru_of_cells (hr i hi).2
  obtain ⟨f, hf⟩ : ∃ f : Nat → Ru, ∀ i, i < len → ∃ x, x = f i ∧ rows i = x.cells ∧ (x.src < 4294967296 ∧ x.dst < 4294967296) := ⟨fun i => if h : i < len then (hx i h).choose else ⟨0, 0, 0, 0, 0, 0, 0, 0, 0, 0⟩, fun i hi => ⟨_, rfl, by simp only [hi, dif_pos]; exact (hx i hi).choose_spec⟩⟩
  refine ⟨(List.range len).map f, by simp, fun i x hi => ?_, fun x hx => ?_⟩
  · have hil : i < len := by have := (List.getElem?_eq_some_iff.1 hi).1; simpa using this
    rw [List.getElem?_map, List.getElem?_range hil] at hi
    simp only [Option.map_some, Option.some.injEq] at hi
    subst hi
    obtain ⟨b, off, he, hlt, hc⟩ := hS i hil
    obtain ⟨x, hx1, hx2, _⟩ := hf i hil
    rw [hx2, hx1] at hc
    exact ⟨b, off, he, hlt, hc 0 _ rfl, hc 1 _ rfl, hc 2 _ rfl, hc 3 _ rfl, hc 4 _ rfl, hc 5 _ rfl, hc 6 _ rfl, hc 7 _ rfl, hc 8 _ rfl, hc 9 _ rfl⟩
  · obtain ⟨i, hi, rfl⟩ := List.mem_map.1 hx
    obtain ⟨y, hy1, _, hy2⟩ := hf i (List.mem_range.1 hi)
    rw [← hy1]
    exact hy2
theorem fo_of_cells {W : World} {cs : List Value} (h : Cells Tryz.prog W 40 cs) : ∃ x : Fo, cs = x.cells ∧ (x.addr < 4294967296) := by
  obtain ⟨hl_x, hf_x⟩ := h.fields1 Tryz.underlying40 (by kernel_rfl) (n := 5) (by kernel_rfl)
  obtain ⟨x_Proto, lx0, e_x0⟩ : ∃ x l, cs = x :: l := by cases cs with | nil => simp at hl_x | cons x l => exact ⟨x, l, rfl⟩
  subst e_x0
  obtain ⟨x_Port, lx1, e_x1⟩ : ∃ x l, lx0 = x :: l := by cases lx0 with | nil => simp at hl_x | cons x l => exact ⟨x, l, rfl⟩
  subst e_x1
  obtain ⟨x_Addr, lx2, e_x2⟩ : ∃ x l, lx1 = x :: l := by cases lx1 with | nil => simp at hl_x | cons x l => exact ⟨x, l, rfl⟩
  subst e_x2
  obtain ⟨x_To, lx3, e_x3⟩ : ∃ x l, lx2 = x :: l := by cases lx2 with | nil => simp at hl_x | cons x l => exact ⟨x, l, rfl⟩
  subst e_x3
  obtain ⟨x_Proxy, lx4, e_x4⟩ : ∃ x l, lx3 = x :: l := by cases lx3 with | nil => simp at hl_x | cons x l => exact ⟨x, l, rfl⟩
  subst e_x4
  obtain rfl : lx4 = [] := by simpa using hl_x
  have f_x0 : Cells Tryz.prog W 3 [x_Proto] := hf_x 0 _ rfl
  have f_x1 : Cells Tryz.prog W 3 [x_Port] := hf_x 1 _ rfl
  have f_x2 : Cells Tryz.prog W 24 [x_Addr] := hf_x 2 _ rfl
  have f_x3 : Cells Tryz.prog W 3 [x_To] := hf_x 3 _ rfl
  have f_x4 : Cells Tryz.prog W 4 [x_Proxy] := hf_x 4 _ rfl
  clear hf_x hl_x
  obtain ⟨x_Proto, e_x_Proto, w_x_Proto⟩ := f_x0.int Tryz.underlying3; cases e_x_Proto
  obtain ⟨x_Port, e_x_Port, w_x_Port⟩ := f_x1.int Tryz.underlying3; cases e_x_Port
  obtain ⟨x_Addr, e_x_Addr, w_x_Addr⟩ := f_x2.int Tryz.underlying24; cases e_x_Addr
  obtain ⟨x_To, e_x_To, w_x_To⟩ := f_x3.int Tryz.underlying3; cases e_x_To
  obtain ⟨x_Proxy, e_x_Proxy⟩ := f_x4.bool Tryz.underlying4; cases e_x_Proxy
  have bAddr := bounds_u32 w_x_Addr
  obtain ⟨nAddr, hnAddr⟩ : ∃ n : Nat, x_Addr = (n : Int) := ⟨x_Addr.toNat, by omega⟩
  subst hnAddr
  exact ⟨⟨x_Proto, x_Port, nAddr, x_To, x_Proxy⟩, rfl, by simp only; omega⟩
theorem fo_args {W : World} {oa : Option Addr} {len : Nat} {rows : Nat → List Value} (hS : SlAt W oa len (Tryz.prog.cellsOf 40) rows) (hr : ∀ i, i < len → (rows i).length = Tryz.prog.cellsOf 40 ∧ Cells Tryz.prog W 40 (rows i)) :
    ∃ L : List Fo, L.length = len ∧ FosAt W oa L ∧ ∀ x ∈ L, x.addr < 4294967296 := by
  rw [show Tryz.prog.cellsOf 40 = 5 by kernel_rfl] at hS
  have hx : ∀ i, i < len → ∃ x : Fo, rows i = x.cells ∧ (x.addr < 4294967296) := fun i hi => fo_of_cells (hr i hi).2
  obtain ⟨f, hf⟩ : ∃ f : Nat → Fo, ∀ i, i < len → ∃ x, x = f i ∧ rows i = x.cells ∧ (x.addr < 4294967296) := ⟨fun i => if h : i < len then (hx i h).choose else ⟨0, 0, 0, 0, false⟩, fun i hi => ⟨_, rfl, by simp only [hi, dif_pos]; exact (hx i hi).choose_spec⟩⟩
  refine ⟨(List.range len).map f, by simp, fun i x hi => ?_, fun x hx => ?_⟩
  · have hil : i < len := by have := (List.getElem?_eq_some_iff.1 hi).1; simpa using this
    rw [List.getElem?_map, List.getElem?_range hil] at hi
    simp only [Option.map_some, Option.some.injEq] at hi
    subst hi
    obtain ⟨b, off, he, hlt, hc⟩ := hS i hil
    obtain ⟨x, hx1, hx2, _⟩ := hf i hil
    rw [hx2, hx1] at hc
    exact ⟨b, off, he, hlt, hc 0 _ rfl, hc 1 _ rfl, hc 2 _ rfl, hc 3 _ rfl, hc 4 _ rfl⟩
  · obtain ⟨i, hi, rfl⟩ := List.mem_map.1 hx
    obtain ⟨y, hy1, _, hy2⟩ := hf i (List.mem_range.1 hi)
    rw [← hy1]
    exact hy2
end Go.Proofs.YtcnhlbkdhhjmiaaGreatDoor
