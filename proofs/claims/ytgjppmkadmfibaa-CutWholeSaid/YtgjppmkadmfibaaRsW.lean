/- A pool's copy whose buffers do not share what is written; a buffer in it is changed. -/
import Derived.Test.YtgjppmkadmfibaaRsU
set_option linter.unusedVariables false
set_option maxRecDepth 100000
set_option linter.unusedSimpArgs false
namespace Go.Proofs.Ytgjppmkadmfibaa
open Go.RowKit
structure FrX (B : Nat) (V : World) (b : Bf) : Prop where
  own : Own B V 72 2 b.ro b.rc b.F.length (otsL b.F)
  o1 : Go.Off (rowOf b.ro) b.ho b.head.ol
  o2 : Go.Off (rowOf b.ro) b.hb b.head.bl
  o3 : ∀ f ∈ b.F, Go.Off (rowOf b.ro) f.oa f.l
structure PlX (w V : World) (R : List Bf) : Prop where
  fr : ∀ b ∈ R, FrX w.heap.size V b
  apart : ∀ (i j : Nat) (b x : Bf), i ≠ j → R[i]? = some b → R[j]? = some x → ∀ a, b.ro = some a → BfOff a.block x
theorem PlX.on {w V V' : World} {R : List Bf} (h : PlX w V R) (hj : Junk V V') : PlX w V' R := ⟨fun b hb => ⟨(h.fr b hb).own.on hj, (h.fr b hb).o1, (h.fr b hb).o2, (h.fr b hb).o3⟩, h.apart⟩
theorem PlX.box {w V V' : World} {K cap l : Nat} {ob : Option Addr} {R : List Bf} (h : PlX w V R) (hs : PlS w V K ob cap l R) {r : Nat} (hg : V.grownBy V' (some r)) (h1 : w.heap.size ≤ r) (h2 : r < w.heap.size + K) : PlX w V' R :=
  ⟨fun b hb => ⟨own_grownR (h.fr b hb).own hg (fun q hq a ha => by
    cases hq
    intro he
    exact (hs.offb b hb r h1 h2).row (by rw [ha, he]; rfl)), (h.fr b hb).o1, (h.fr b hb).o2, (h.fr b hb).o3⟩, h.apart⟩
theorem plx_mk {w WK w4 w5 : World} {K : Nat} {oa ob : Option Addr} {cap l : Nat} {L R : List Bf} {M : Nat → Nat} (hP : PlAt w oa L) (hl : L.length = l) (hs : WK.heap.size = w.heap.size + K) (hJ3 : Junk w WK) (hj4 : Junk WK w4) (hO : Own (WK.heap.size + 2) w4 45 19 ob cap l (bfsL R)) (hD : CpD w4 ob l L R M) {r : Nat} (h1 : w.heap.size ≤ r) (h2 : r < w.heap.size + K) (hg : w4.grownBy w5 (some r)) : PlX w w5 R := by
  rw [hs] at hO
  have hD5 := hD.grown hg (cp_out hO hD (by omega))
  have hm : R ≠ [] → w.heap.size ≤ M 0 := fun hne => by
    have h3 := hD.len
    have h4 := List.length_pos_iff.2 hne
    rcases hO.form with ⟨_, h5, _⟩ | ⟨g, cur, h5, h6, _⟩
    · omega
    · have h7 := hD.lo _ h5
      simp only at h7
      omega
  refine ⟨fun b hb => ?_, fun i j b x hij hb hx a ha => ?_⟩
  · have hm := hm (List.ne_nil_of_mem hb)
    obtain ⟨i, hi, rfl⟩ := List.getElem_of_mem hb
    have hi2 : i < L.length := by rw [← hD.len]; exact hi
    obtain ⟨hq, e1, e2⟩ := hD.q i L[i] R[i] (List.getElem?_eq_getElem hi2) (List.getElem?_eq_getElem hi)
    have hf := hD5.fr i R[i] (List.getElem?_eq_getElem hi) (by omega)
    have m0 := hD.le_hi i (by omega) 0 (by omega)
    obtain ⟨_, _, _, _, _, hin⟩ := hP i L[i] (List.getElem?_eq_getElem hi2)
    have hh : (R[i]).head = (L[i]).head := by have := congrArg Bq.head hq; exact this
    refine ⟨hf.own.lower (by omega), hf.optsOff, fun hl a ha he => ?_, fun f hff => (hf.data f hff).2.2⟩
    rw [e1] at ha
    rw [hh] at hl
    have h3 := hin.head.body.below hl a ha
    cases hro : (R[i]).ro with
    | none => rw [hro] at he; cases he
    | some y =>
      rw [hro] at he
      have h4 : a.block = y.block := Option.some.inj he
      have h6 := own_fresh hf.own y hro
      omega
  · have hm := hm (List.ne_nil_of_mem (List.mem_of_getElem? hb))
    have hi : i < R.length := (List.getElem?_eq_some_iff.1 hb).1
    have hj : j < R.length := (List.getElem?_eq_some_iff.1 hx).1
    have hlen := hD.len
    have hf := hD5.fr i b hb (by omega)
    have hg2 := hD5.fr j x hx (by omega)
    have hlo := own_fresh hf.own a ha
    have hhi := hf.ownIn a ha
    have hk : ∀ k, some a.block = some k → k < M j ∨ M (j + 1) ≤ k := fun k hk => by
      cases hk
      rcases Nat.lt_or_gt_of_ne hij with h | h
      · left; have := hD.le_hi j (by omega) (i + 1) (by omega); omega
      · right; have := hD.le_hi i (by omega) (j + 1) (by omega); omega
    have hj2 : j < L.length := by omega
    obtain ⟨hq, e1, e2⟩ := hD.q j L[j] x (List.getElem?_eq_getElem hj2) hx
    obtain ⟨_, _, _, _, _, hin⟩ := hP j L[j] (List.getElem?_eq_getElem hj2)
    have hh : x.head = (L[j]).head := by have := congrArg Bq.head hq; exact this
    have m0 := hD.le_hi i (by omega) 0 (by omega)
    refine ⟨hg2.optsIn.off hk, fun hl y hy he => ?_, fun he => ?_, fun f hff => (hg2.data f hff).2.1.off hk⟩
    · rw [e1] at hy
      rw [hh] at hl
      have h3 := hin.head.body.below hl y hy
      have h4 : y.block = a.block := Option.some.inj he
      omega
    · cases hro : x.ro with
      | none => rw [hro] at he; cases he
      | some y =>
        rw [hro] at he
        have h4 : y.block = a.block := Option.some.inj he
        have h5 := hg2.ownIn y hro
        have h6 := own_fresh hg2.own y hro
        rcases hk a.block rfl with h | h <;> omega
theorem Bx4.grown {w V V' : World} {a b c d : List Value} {tA tB tC tD : TypeId} {row : Option Nat} (h : Bx4 w V a b c d tA tB tC tD) (hg : V.grownBy V' row) (hne : ∀ r, w.heap.size ≤ r → r < w.heap.size + 4 → some r ≠ row) : Bx4 w V' a b c d tA tB tC tD :=
  ⟨h.b0.grown hg (hne _ (by omega) (by omega)), h.b1.grown hg (hne _ (by omega) (by omega)), h.b2.grown hg (hne _ (by omega) (by omega)), h.b3.grown hg (hne _ (by omega) (by omega))⟩
theorem heldO_ins : ∀ (F : List Od) (r : Od), heldO (insOd F r) = heldO F + r.l
  | [], r => by simp [insOd, heldO]
  | f :: F, r => by
    unfold insOd
    split
    · rw [heldO_cons, heldO_cons, heldO_ins F r]; omega
    · rw [heldO_cons]; omega
theorem insOd_len : ∀ (F : List Od) (r : Od), (insOd F r).length = F.length + 1
  | [], r => rfl
  | f :: F, r => by
    unfold insOd
    split
    · rw [List.length_cons, List.length_cons, insOd_len F r]
    · rfl
theorem held_one {Q : List Bq} {i : Nat} {b : Bq} (h : Q[i]? = some b) : heldO b.runs ≤ heldQ Q := by
  have h1 := heldQ_take h
  have h2 := heldQ_take_le Q (i + 1)
  omega
theorem right_held {room life now : Int} {Q : List Bq} (h : rightQ room life now Q = true) : (heldQ Q : Int) ≤ room ∧ room ≤ 1048576 := by
  unfold rightQ wiR at h
  simp only [Bool.and_eq_true, decide_eq_true_eq] at h
  exact ⟨h.2.2.2.2.2, h.1.2⟩
/-- The boxes, and a buffer of the list. -/
def TkR (w : World) (a b c d : List Value) (tA tB tC tD : TypeId) (g i : Nat) (x : Bf) (V : World) : Prop := Bx4 w V a b c d tA tB tC tD ∧ ∀ j v, x.cells[j]? = some v → V.cell? ⟨g, i * 19 + j, none⟩ = some v
theorem cell_lt {V : World} {g o : Nat} {v : Value} (h : V.cell? ⟨g, o, none⟩ = some v) : g < V.heap.size := by
  unfold World.cell? at h
  cases hb : V.heap[g]? with
  | none => simp [hb] at h
  | some o => exact (Array.getElem?_eq_some_iff.1 hb).1
theorem TkR.on {w V V' : World} {a b c d : List Value} {tA tB tC tD : TypeId} {g i : Nat} {x : Bf} (h : TkR w a b c d tA tB tC tD g i x V) (hj : Junk V V') : TkR w a b c d tA tB tC tD g i x V' :=
  ⟨h.1.on hj, fun j v hv => cells_on (h.2 j v hv) (cell_lt (h.2 j v hv)) hj⟩
theorem TkR.grown {w V V' : World} {a b c d : List Value} {tA tB tC tD : TypeId} {g i : Nat} {x : Bf} {row : Option Nat} (h : TkR w a b c d tA tB tC tD g i x V) (hg : V.grownBy V' row) (hne : ∀ r, w.heap.size ≤ r → r < w.heap.size + 4 → some r ≠ row) (hgr : some g ≠ row) : TkR w a b c d tA tB tC tD g i x V' :=
  ⟨h.1.grown hg hne, fun j v hv => hg.cell (h.2 j v hv) hgr⟩
/-- A buffer is changed, and stored into the list. -/
theorem PlS.put {w V V6 V8 : World} {K g cap l i : Nat} {R : List Bf} {b b2 : Bf} (h : PlS w V K (some ⟨g, 0, none⟩) cap l R) (hx : PlX w V R) (hb : R[i]? = some b) (hg6 : V.grownBy V6 (rowOf b.ro)) (hj6 : Junk w V6) (hin : BfIn V6 b2) (hoff : ∀ r, r < V.heap.size → BfOff r b → BfOff r b2)
    (hg8 : V6.grownBy V8 (some g)) (ho8 : Own (w.heap.size + K) V8 45 19 (some ⟨g, 0, none⟩) cap l (bfsL (R.set i b2))) (hsz : w.heap.size + K ≤ V.heap.size) : PlS w V8 K (some ⟨g, 0, none⟩) cap l (R.set i b2) := by
  have hi : i < R.length := (List.getElem?_eq_some_iff.1 hb).1
  have hge := own_geR h.own
  have hbm := List.mem_of_getElem? hb
  have hmem : ∀ x ∈ R.set i b2, x = b2 ∨ ∃ j, j ≠ i ∧ R[j]? = some x := fun x hx => by
    obtain ⟨j, hj, rfl⟩ := List.getElem_of_mem hx
    rw [List.length_set] at hj
    by_cases e : i = j
    · left; subst e; simp
    · right; exact ⟨j, fun h => e h.symm, by rw [List.getElem_set_ne e]; exact List.getElem?_eq_getElem hj⟩
  have hrow : ∀ x, (∃ j, j ≠ i ∧ R[j]? = some x) → BfIn V6 x := fun x ⟨j, hj, hxj⟩ => by
    have hxm := List.mem_of_getElem? hxj
    cases hro : b.ro with
    | none =>
      rw [hro] at hg6
      refine (h.ins x hxm).grown (r := V.heap.size) ⟨hg6.os, hg6.tape, hg6.output, hg6.size, fun k hk _ => hg6.block k hk (fun e => by cases e)⟩ ?_
      have hin := h.ins x hxm
      refine ⟨fun hl a ha he => ?_, fun hl a ha he => ?_, fun he => ?_, fun f hf hl a ha he => ?_⟩
      · have := hin.head.opts.below hl a ha; have h4 : a.block = V.heap.size := Option.some.inj he; omega
      · have := hin.head.body.below hl a ha; have h4 : a.block = V.heap.size := Option.some.inj he; omega
      · have h5 := (hx.fr x hxm).own
        rcases h5.form with ⟨h6, _⟩ | ⟨q, cur, h6, _, h7, _⟩
        · rw [h6] at he; cases he
        · rw [h6] at he
          have h4 : q = V.heap.size := Option.some.inj he
          have := (Array.getElem?_eq_some_iff.1 h7).1
          omega
      · obtain ⟨k, hk, rfl⟩ := List.getElem_of_mem hf
        obtain ⟨_, _, _, _, _, _, hb3⟩ := hin.runs k _ (List.getElem?_eq_getElem hk)
        have := hb3.below hl a ha
        have h4 : a.block = V.heap.size := Option.some.inj he
        omega
    | some a =>
      rw [hro] at hg6
      exact (h.ins x hxm).grown hg6 (hx.apart i j b x (fun e => hj e.symm) hb hxj a hro)
  have hg2 : BfOff g b2 := hoff g hge.2 (h.offl b hbm _ rfl)
  refine ⟨below_of_grown hj6 hg8 (fun q hq => by cases hq; omega), ho8, fun x hxm => ?_, fun x hxm a ha => ?_, fun x hxm r h1 h2 => ?_, fun he => by cases he⟩
  · rcases hmem x hxm with rfl | hx2
    · exact hin.grown hg8 hg2
    · obtain ⟨j, hj, hxj⟩ := hx2
      exact (hrow x ⟨j, hj, hxj⟩).grown hg8 (h.offl x (List.mem_of_getElem? hxj) _ rfl)
  · cases ha
    rcases hmem x hxm with rfl | ⟨j, hj, hxj⟩
    · exact hg2
    · exact h.offl x (List.mem_of_getElem? hxj) _ rfl
  · rcases hmem x hxm with rfl | ⟨j, hj, hxj⟩
    · exact hoff r (by omega) (h.offb b hbm r h1 h2)
    · exact h.offb x (List.mem_of_getElem? hxj) r h1 h2
theorem runGo_sorted {tot : Int} : ∀ {at_ : Int} {F : List Od}, runGo tot at_ F = true → ∀ (i : Nat) (f : Od), F[i]? = some f → at_ ≤ f.k ∧ ∀ (j : Nat) (x : Od), i < j → F[j]? = some x → f.k < x.k
  | _, [], _, i, f, hf => by simp at hf
  | at_, y :: F, h, i, f, hf => by
    rw [runGo] at h
    simp only [Bool.and_eq_true, Bool.not_eq_true'] at h
    have h1 := h.1
    unfold badRun at h1
    rw [decide_eq_false_iff_not] at h1
    have ih := runGo_sorted h.2
    cases i with
    | zero =>
      simp only [List.getElem?_cons_zero, Option.some.injEq] at hf
      subst hf
      refine ⟨by omega, fun j x hj hx => ?_⟩
      obtain ⟨j, rfl⟩ : ∃ k, j = k + 1 := ⟨j - 1, by omega⟩
      rw [List.getElem?_cons_succ] at hx
      have := (ih j x hx).1
      omega
    | succ i =>
      rw [List.getElem?_cons_succ] at hf
      have h2 := ih i f hf
      refine ⟨by omega, fun j x hj hx => ?_⟩
      obtain ⟨j, rfl⟩ : ∃ k, j = k + 1 := ⟨j - 1, by omega⟩
      rw [List.getElem?_cons_succ] at hx
      exact h2.2 j x (by omega) hx
theorem right_sorted {room life now : Int} {Q : List Bq} (h : rightQ room life now Q = true) {i : Nat} {b : Bf} (hb : Q[i]? = some b.q) : OtSorted b.F := by
  unfold rightQ at h
  simp only [Bool.and_eq_true] at h
  have h1 := listGo_mem h.2.2.2.2.1 b.q (List.mem_of_getElem? hb)
  unfold bufB at h1
  simp only [Bool.and_eq_true] at h1
  have h2 := h1.2.1
  unfold runsB at h2
  simp only [Bool.and_eq_true] at h2
  intro i j x y hij hx hy
  have hx2 : b.q.runs[i]? = some x.d := by show (b.F.map Ot.d)[i]? = _; rw [List.getElem?_map, hx]; rfl
  have hy2 : b.q.runs[j]? = some y.d := by show (b.F.map Ot.d)[j]? = _; rw [List.getElem?_map, hy]; rfl
  exact (runGo_sorted h2.1 i x.d hx2).2 j y.d hij hy2
end Go.Proofs.Ytgjppmkadmfibaa
