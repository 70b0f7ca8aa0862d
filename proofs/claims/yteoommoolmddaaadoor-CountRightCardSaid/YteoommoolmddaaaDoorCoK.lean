/- Frames that came, among the arguments; counts under way. -/
import Derived.Test.YteoommoolmddaaaDoorCoD0
import Derived.Test.YteoommoolmddaaaDoorCoJ
import Derived.Test.YteoommoolmddaaaDoorCoS
set_option linter.unusedVariables false
set_option maxRecDepth 100000
set_option linter.unusedSimpArgs false
namespace Go.Proofs.YteoommoolmddaaaDoor
open Go.RowKit
/-- A frame that came. -/
structure Ca where
  z : Int
  v : Int
  b : Int
def Ca.cells (x : Ca) : List Value := [.int .u8 x.z, .int .u8 x.v, .int .u16 x.b]
def Ca.tl (x : Ca) : Tl := ⟨x.z, x.v, 1, x.b⟩
structure Ca.Wf (x : Ca) : Prop where
  z : 0 ≤ x.z ∧ x.z ≤ 255
  v : 0 ≤ x.v ∧ x.v ≤ 255
  b : 0 ≤ x.b ∧ x.b ≤ 65535
def CsAt (w : World) (oa : Option Addr) (L : List Ca) : Prop := ∀ i x, L[i]? = some x → ∃ b off, oa = some ⟨b, off, none⟩ ∧ b < w.heap.size ∧
  w.cell? ⟨b, off + i * 3, none⟩ = some (.int .u8 x.z) ∧ w.cell? ⟨b, off + i * 3 + 1, none⟩ = some (.int .u8 x.v) ∧ w.cell? ⟨b, off + i * 3 + 2, none⟩ = some (.int .u16 x.b)
theorem CsAt.take {w : World} {oa : Option Addr} {L : List Ca} (h : CsAt w oa L) (k : Nat) : CsAt w oa (L.take k) := fun i x hx => h i x (by
  rw [List.getElem?_take] at hx
  split at hx
  · exact hx
  · cases hx)
theorem ca_of {W : World} {cs : List Value} (h : Cells Tryd.prog W 35 cs) : ∃ x : Ca, cs = x.cells ∧ x.Wf := by
  obtain ⟨hl_x, hf_x⟩ := h.fields1 Tryd.underlying35 (by kernel_rfl) (n := 3) (by kernel_rfl)
  obtain ⟨x_Zone, lx0, e_x0⟩ : ∃ x l, cs = x :: l := by cases cs with | nil => simp at hl_x | cons x l => exact ⟨x, l, rfl⟩
  subst e_x0
  obtain ⟨x_Verdict, lx1, e_x1⟩ : ∃ x l, lx0 = x :: l := by cases lx0 with | nil => simp at hl_x | cons x l => exact ⟨x, l, rfl⟩
  subst e_x1
  obtain ⟨x_Bytes, lx2, e_x2⟩ : ∃ x l, lx1 = x :: l := by cases lx1 with | nil => simp at hl_x | cons x l => exact ⟨x, l, rfl⟩
  subst e_x2
  obtain rfl : lx2 = [] := by simpa using hl_x
  have f_x0 : Cells Tryd.prog W 5 [x_Zone] := hf_x 0 _ rfl
  have f_x1 : Cells Tryd.prog W 5 [x_Verdict] := hf_x 1 _ rfl
  have f_x2 : Cells Tryd.prog W 33 [x_Bytes] := hf_x 2 _ rfl
  clear hf_x hl_x
  obtain ⟨x_Zone, e_x_Zone, w_x_Zone⟩ := f_x0.int Tryd.underlying5; cases e_x_Zone
  obtain ⟨x_Verdict, e_x_Verdict, w_x_Verdict⟩ := f_x1.int Tryd.underlying5; cases e_x_Verdict
  obtain ⟨x_Bytes, e_x_Bytes, w_x_Bytes⟩ := f_x2.int Tryd.underlying33; cases e_x_Bytes
  exact ⟨⟨x_Zone, x_Verdict, x_Bytes⟩, rfl, bounds_u8 w_x_Zone, bounds_u8 w_x_Verdict, bounds_u16 w_x_Bytes⟩
theorem cas_of {W : World} {oa : Option Addr} {len : Nat} {rows : Nat → List Value} (hS : SlAt W oa len (Tryd.prog.cellsOf 35) rows) (hr : ∀ i, i < len → (rows i).length = Tryd.prog.cellsOf 35 ∧ Cells Tryd.prog W 35 (rows i)) :
    ∃ L : List Ca, L.length = len ∧ CsAt W oa L ∧ ∀ x ∈ L, x.Wf := by
  rw [show Tryd.prog.cellsOf 35 = 3 by kernel_rfl] at hS
  have hx : ∀ i, i < len → ∃ x : Ca, rows i = x.cells ∧ x.Wf := fun i hi => ca_of (hr i hi).2
  obtain ⟨f, hf⟩ : ∃ f : Nat → Ca, ∀ i, i < len → rows i = (f i).cells ∧ (f i).Wf := ⟨fun i => if h : i < len then (hx i h).choose else ⟨0, 0, 0⟩, fun i hi => by simp only [hi, dif_pos]; exact (hx i hi).choose_spec⟩
  refine ⟨(List.range len).map f, by simp, fun i x hi => ?_, fun x hx => ?_⟩
  · have hil : i < len := by have := (List.getElem?_eq_some_iff.1 hi).1; simpa using this
    rw [List.getElem?_map, List.getElem?_range hil] at hi
    simp only [Option.map_some, Option.some.injEq] at hi
    subst hi
    obtain ⟨b, off, he, hlt, hc⟩ := hS i hil
    rw [(hf i hil).1] at hc
    exact ⟨b, off, he, hlt, hc 0 _ rfl, hc 1 _ rfl, hc 2 _ rfl⟩
  · obtain ⟨i, hi, rfl⟩ := List.mem_map.1 hx
    exact (hf i (List.mem_range.1 hi)).2
theorem Ca.Wf.ok {x : Ca} (h : x.Wf) : tlOk x.tl = true := by
  have := h.b
  unfold tlOk Ca.tl
  simp only [Bool.and_eq_true, decide_eq_true_eq]
  omega
theorem fold_len : ∀ {T L M : List Tl}, tlFold L T = some M → M.length ≤ L.length + T.length
  | [], L, M, h => by rw [tlFold] at h; cases h; simp
  | t :: T, L, M, h => by
    rw [tlFold] at h
    cases hp : tlPlus L t with
    | none => rw [hp] at h; cases h
    | some N =>
      rw [hp] at h
      have h1 := fold_len (show tlFold N T = some M from h)
      have h2 := plus_len hp
      simp only [List.length_cons]
      omega
/-- A count under way. -/
structure Cn (w : World) (o : Option Addr) (q c : Nat) (X Y : List Tl) : Prop where
  at_ : TsB w o q c X
  r : TlR X
  f : tlFold [] Y = some X
theorem Cn.on {w w' : World} {o : Option Addr} {q c : Nat} {X Y : List Tl} (h : Cn w o q c X Y) (hj : Junk w w') : Cn w' o q c X Y := ⟨h.at_.on hj, h.r, h.f⟩
theorem Cn.none (w : World) : Cn w none 0 0 [] [] := ⟨TsB.none w, trivial, rfl⟩
theorem Cn.short {w : World} {o : Option Addr} {q c : Nat} {X Y : List Tl} (h : Cn w o q c X Y) (hy : Y.length ≤ 1000) : q ≤ 1000 := by
  have h1 := fold_len h.f
  have h2 := h.at_.len
  simp only [List.length_nil] at h1
  omega
theorem Cn.is {w : World} {o : Option Addr} {q c : Nat} {X Y M : List Tl} (h : Cn w o q c X Y) (hm : tlFold [] Y = some M) : X = M := by
  have h1 := h.f
  rw [hm] at h1
  cases h1
  rfl
/-- What count.Add does with a frame more of those that all have room. -/
theorem cn_add {w : World} {o : Option Addr} {q c : Nat} {X Y M : List Tl} {k : Nat} {x : Ca} (h : Cn w o q c X (Y.take k)) (hx : Y[k]? = some x.tl) (hM : tlFold [] Y = some M) (hy : Y.length ≤ 1000) (hw : x.Wf) :
    ∃ N : List Tl, tlFold [] (Y.take (k + 1)) = some N ∧ TlR N ∧ ∀ w1, TsB w1 o q c X → Calls Tryd.prog 10 #[.slice o q c, .int .i64 x.z, .int .i64 x.v, .int .i64 x.b] w1 fun e w' => ∃ oz cz, e = .returned (.tuple #[.slice oz N.length cz, .int .i64 0]) ∧ Junk w1 w' ∧ TsB w' oz N.length cz N := by
  obtain ⟨N, hN1, hN2⟩ := fold_step h.f hx hM
  have hq := h.short (by rw [List.length_take]; omega)
  have hb := hw.b
  refine ⟨N, hN2, plus_right h.r hw.ok hN1, fun w1 h1 => (cadd_any o q c X x.z x.v x.b w1 (by omega) h1).mono fun e w' ha => ha.as ?_ rfl⟩
  unfold tlAdd
  rw [if_neg (by rw [right_tlr.2 h.r]; simp; omega)]
  rw [show tlPlus X ⟨x.z, x.v, 1, x.b⟩ = some N from hN1]
end Go.Proofs.YteoommoolmddaaaDoor
