/- A buffer more in a pool that is under way. -/
import Derived.Test.YtgjppmkadmfibaaRsX
set_option linter.unusedVariables false
set_option maxRecDepth 100000
set_option linter.unusedSimpArgs false
namespace Go.Proofs.Ytgjppmkadmfibaa
open Go.RowKit
theorem bfoff_new {w V : World} {x : Bf} (hi : BfIn V x) (hx : FrX w.heap.size V x) {r : Nat} (hr : V.heap.size ≤ r) : BfOff r x := by
  refine ⟨fun hl a ha he => ?_, fun hl a ha he => ?_, fun he => ?_, fun f hf hl a ha he => ?_⟩
  · have := hi.head.opts.below hl a ha; have h4 : a.block = r := Option.some.inj he; omega
  · have := hi.head.body.below hl a ha; have h4 : a.block = r := Option.some.inj he; omega
  · have h5 := hx.own
    rcases h5.form with ⟨h6, _⟩ | ⟨q, cur, h6, _, h7, _⟩
    · rw [h6] at he; cases he
    · rw [h6] at he
      have h4 : q = r := Option.some.inj he
      have := (Array.getElem?_eq_some_iff.1 h7).1
      omega
  · have := (hi.data f hf).below hl a ha
    have h4 : a.block = r := Option.some.inj he
    omega
theorem pls_push {w V V6 : World} {K cap l cap2 : Nat} {ol ol2 : Option Addr} {R : List Bf} (h : PlS w V K ol cap l R) (hx : PlX w V R) (b0 : Bf) (e1 : b0.ro = none) (e2 : b0.F = []) (e3 : b0.head.ol = 0) (e4 : b0.head.bl = 0) (e5 : b0.ho = none ∧ b0.hoc = 0 ∧ b0.hb = none ∧ b0.hbc = 0) (e6 : b0.rc = 0) (hs : 0 ≤ b0.head.src ∧ b0.head.src ≤ 4294967295) (hd : 0 ≤ b0.head.dst ∧ b0.head.dst ≤ 4294967295)
    (hj : Junk w V6) (ho : Own w.heap.size V6 45 19 ol2 cap2 (l + 1) (bfsL R ++ b0.cells)) (hg : V.grownBy V6 (rowOf ol)) (hrow : rowOf ol2 = rowOf ol ∨ rowOf ol2 = some V.heap.size) (hsz : w.heap.size + K ≤ V.heap.size) :
    ∃ g, ol2 = some ⟨g, 0, none⟩ ∧ PlS w V6 K ol2 cap2 (l + 1) (R ++ [b0]) ∧ PlX w V6 (R ++ [b0]) := by
  obtain ⟨g, hg2⟩ : ∃ g, ol2 = some ⟨g, 0, none⟩ := by
    rcases ho.form with ⟨_, h1, _⟩ | ⟨g, cur, h1, _⟩
    · omega
    · exact ⟨g, h1⟩
  obtain ⟨a1, a2, a3, a4⟩ := e5
  have hoff0 : ∀ r, BfOff r b0 := fun r => ⟨fun hl => by rw [e3] at hl; omega, fun hl => by rw [e4] at hl; omega, (by rw [e1]; intro he; cases he), fun f hf => by rw [e2] at hf; cases hf⟩
  have hin0 : BfIn V6 b0 := by
    refine ⟨⟨by rw [a1, a2, e3]; exact bts_none _ _, by rw [a3, a4, e4]; exact bts_none _ _, hs, hd⟩, fun i f hf => by rw [e2] at hf; simp at hf, fun _ => by rw [e2, e6]; exact ⟨rfl, rfl⟩, by rw [e2]; exact Nat.zero_le _, by rw [e6]; exact Nat.zero_le _⟩
  have hmem : ∀ x ∈ R ++ [b0], x ∈ R ∨ x = b0 := fun x hxm => by
    rcases List.mem_append.1 hxm with h1 | h1
    · exact .inl h1
    · exact .inr (List.mem_singleton.1 h1)
  have hblk : rowOf ol2 = some g := by rw [hg2]; rfl
  have hrg : (∃ a, ol = some a ∧ a.block = g) ∨ g = V.heap.size := by
    rcases hrow with h1 | h1
    · rw [hblk] at h1
      cases hol : ol with
      | none => rw [hol] at h1; cases h1
      | some a => rw [hol] at h1; have h2 : a.block = g := (Option.some.inj h1).symm; exact .inl ⟨a, rfl, h2⟩
    · rw [hblk] at h1; exact .inr (Option.some.inj h1)
  have hins : ∀ x ∈ R, BfIn V6 x := fun x hxm => by
    cases hol : ol with
    | none =>
      have := h.nil hol
      have h2 := h.len
      have h3 : R = [] := List.eq_nil_of_length_eq_zero (by omega)
      rw [h3] at hxm; cases hxm
    | some a => rw [hol] at hg; exact (h.ins x hxm).grown hg (h.offl x hxm a hol)
  have hoffg : ∀ x ∈ R, BfOff g x := fun x hxm => by
    rcases hrg with ⟨a, ha, hb⟩ | hb
    · rw [← hb]; exact h.offl x hxm a ha
    · exact bfoff_new (h.ins x hxm) (hx.fr x hxm) (by omega)
  have hcells : bfsL (R ++ [b0]) = bfsL R ++ b0.cells := by unfold bfsL; rw [List.map_append, List.flatten_append]; simp
  refine ⟨g, hg2, ⟨hj, ?_, fun x hxm => ?_, fun x hxm a ha => ?_, fun x hxm r h1 h2 => ?_, fun he => by rw [hg2] at he; cases he⟩, ⟨fun x hxm => ?_, fun i j b x hij hb hxj a ha => ?_⟩⟩
  · rw [hcells]
    refine own_raise ho (fun a ha => ?_)
    rw [hg2] at ha
    cases ha
    rcases hrg with ⟨y, hy, hb⟩ | hb
    · have := own_fresh h.own y hy; simp only; omega
    · simp only; omega
  · rcases hmem x hxm with h1 | rfl
    · exact hins x h1
    · exact hin0
  · rw [hg2] at ha
    cases ha
    rcases hmem x hxm with h1 | rfl
    · exact hoffg x h1
    · exact hoff0 _
  · rcases hmem x hxm with h3 | rfl
    · exact h.offb x h3 r h1 h2
    · exact hoff0 _
  · rcases hmem x hxm with h1 | rfl
    · have hf := hx.fr x h1
      refine ⟨own_grownR hf.own hg (fun k hk a ha he => ?_), hf.o1, hf.o2, hf.o3⟩
      cases hol : ol with
      | none => rw [hol] at hk; cases hk
      | some y =>
        rw [hol] at hk
        have h4 : y.block = k := Option.some.inj hk
        have h5 : k = a.block := he
        exact (h.offl x h1 y hol).row (by rw [ha]; show some a.block = some y.block; rw [h4, h5])
    · refine ⟨by rw [e1, e2, e6]; exact Own.nil _ _ _ _, fun hl => by rw [e3] at hl; omega, fun hl => by rw [e4] at hl; omega, fun f hf => by rw [e2] at hf; cases hf⟩
  · have hbm := List.mem_of_getElem? hb
    rcases hmem b hbm with h1 | rfl
    · by_cases hjl : j < R.length
      · rw [List.getElem?_append_left hjl] at hxj
        by_cases hil : i < R.length
        · rw [List.getElem?_append_left hil] at hb
          exact hx.apart i j b x hij hb hxj a ha
        · have hi2 : i = R.length := by have := (List.getElem?_eq_some_iff.1 hb).1; simp at this; omega
          rw [hi2, List.getElem?_append_right (Nat.le_refl _), Nat.sub_self] at hb
          simp at hb
          rw [← hb, e1] at ha
          cases ha
      · have hj2 : j = R.length := by have := (List.getElem?_eq_some_iff.1 hxj).1; simp at this; omega
        rw [hj2, List.getElem?_append_right (Nat.le_refl _), Nat.sub_self] at hxj
        simp at hxj
        rw [← hxj]
        exact hoff0 _
    · rw [e1] at ha; cases ha
end Go.Proofs.Ytgjppmkadmfibaa
