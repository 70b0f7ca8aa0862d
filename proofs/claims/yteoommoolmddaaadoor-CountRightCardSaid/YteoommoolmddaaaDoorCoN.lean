/- The names of verdicts. -/
import Derived.Test.YteoommoolmddaaaDoorShelf
import Derived.Test.YteoommoolmddaaaDoorCoA
import Derived.Lib.LaidTab
import Derived.LaidMore
set_option linter.unusedVariables false
set_option maxRecDepth 100000
set_option linter.unusedSimpArgs false
namespace Go.Proofs.YteoommoolmddaaaDoor
open Go.RowKit
def nameStr : ByteArray := ⟨#[112, 97, 115, 115, 101, 100, 32, 104, 101, 108, 100, 32, 98, 97, 100, 102, 114, 97, 109, 101, 32, 98, 97, 100, 112, 105, 101, 99, 101, 32, 98, 97, 100, 98, 111, 100, 121, 32, 115, 112, 111, 111, 102, 101, 100, 32, 110, 111, 114, 111, 117, 116, 101, 32, 101, 120, 112, 105, 114, 101, 100, 32, 100, 101, 110, 105, 101, 100, 32, 110, 111, 112, 111, 114, 116, 32, 110, 111, 102, 108, 111, 119, 32, 105, 110, 118, 97, 108, 105, 100, 32, 99, 104, 97, 108, 108, 101, 110, 103, 101, 100, 32, 97, 110, 115, 119, 101, 114, 101, 100, 32, 116, 111, 111, 98, 105, 103, 32, 117, 110, 97, 115, 107, 101, 100, 32, 117, 110, 115, 101, 116, 32, 111, 112, 101, 110, 101, 100]⟩
def nameL : List ByteArray := (Lib.fields nameStr.data.toList).map fun l => ⟨l.toArray⟩
def nameB (i : Nat) : ByteArray := nameL.getD i ByteArray.empty
theorem nameL_len : nameL.length = 18 := by decide +kernel
theorem name_ne : ∀ i, i < 18 → nameB i ≠ ByteArray.empty := by decide +kernel
theorem name_inj : ∀ i, i < 18 → ∀ j, j < 18 → nameB i = nameB j → i = j := by decide +kernel
theorem nameL_get {i : Nat} (h : i < 18) : nameL[i]? = some (nameB i) := by
  unfold nameB
  rw [List.getD_eq_getElem?_getD, List.getElem?_eq_getElem (by rw [nameL_len]; exact h)]
  rfl
theorem ascii_of {l : List UInt8} (h : (l.all fun b => decide (b.toNat < 128)) = true) : ∀ (j : Nat) b, l[j]? = some b → b.toNat < 128 := fun j b hb => by
  rw [List.all_eq_true] at h
  simpa using h b (List.mem_of_getElem? hb)
/-- The table of blanks, as the program's text lays it. -/
def AscT (w : World) : Prop := Lib.TabIs Tryd.prog w "strings.asciiSpace" .u8 Lib.asciiSpaceTab
theorem fields_names (s : ByteArray) (hs : s = nameStr) (w : World) (ht : AscT w) :
    Calls Tryd.prog 18 #[.string s] w fun e w' => ∃ g, e = .returned (.slice (some ⟨g, 0, none⟩) 18 18) ∧ Junk w w' ∧ g < w'.heap.size ∧ ∀ i, i < 18 → w'.cell? ⟨g, i, none⟩ = some (.string (nameB i)) := by
  subst hs
  refine (Any.strings_Fields_laid Tryd.laysM157 nameStr w (by decide +kernel) (ascii_of (by decide +kernel)) ht).mono fun e w' hq => ?_
  obtain ⟨rfl, rfl⟩ := hq
  have hl : (Lib.fields nameStr.data.toList).length = 18 := by have := nameL_len; unfold nameL at this; rw [List.length_map] at this; exact this
  refine ⟨w.heap.size, by rw [hl], (Junk.refl w).alloc _, by simp, fun i hi => ?_⟩
  rw [World.cell?_alloc_new]
  have hg := nameL_get hi
  unfold nameL at hg
  rw [List.getElem?_map] at hg
  rw [List.getElem?_toArray, List.getElem?_map]
  cases hf : (Lib.fields nameStr.data.toList)[i]? with
  | none => rw [hf] at hg; cases hg
  | some l =>
    rw [hf] at hg
    simp only [Option.map_some, Option.some.injEq] at hg ⊢
    rw [hg]
theorem AscT.on {w w' : World} (h : AscT w) (hj : Junk w w') : AscT w' := by
  obtain ⟨os, d, rfl⟩ := hj
  unfold AscT Lib.TabIs World.var? at *
  cases hg : Tryd.prog.globalNamed "strings.asciiSpace" with
  | none => rw [hg] at h; cases h
  | some g =>
    rw [hg] at h
    simp only [Option.bind_some] at h ⊢
    cases hw : w.heap[g]? with
    | none => rw [hw] at h; cases h
    | some o =>
      rw [World.heap_junk _ _ _ (Array.getElem?_eq_some_iff.1 hw).1]
      rw [hw] at h ⊢
      exact h
def nameS (v : Int) : ByteArray := if 0 ≤ v ∧ v < 18 then nameB v.toNat else ByteArray.empty
theorem name30_any (v : Int) (w : World) (ht : AscT w) : Calls Tryd.prog 8 #[.int .i64 v] w fun e w' => e = .returned (.string (nameS v)) ∧ Junk w w' := by
  have HT := Lib.hid ht
  clear ht
  by_cases h0 : 0 ≤ v
  · by_cases h1 : v < 18
    · have HE := Lib.hid (show nameS v = nameB v.toNat by unfold nameS; rw [if_pos ⟨h0, h1⟩])
      rw [HE.out]
      obtain ⟨k, rfl⟩ : ∃ k : Nat, v = k := ⟨v.toNat, by omega⟩
      have hk : k < 18 := by omega
      have h2 : ¬ (k : Int) < 0 := by omega
      have h3 : ¬ (18 : Int) ≤ (k : Int) := by omega
      go_enter Tryd.func8, Tryd.ntmps8
      go_upto_region 2 with (first | (go_at_call 18; refine (fields_names _ (by decide +kernel) _ (HT.out.on (by (first | ((repeat (first | with_reducible exact Junk.refl _ | with_reducible exact Junk.app _ _ _ _ _ | with_reducible apply Junk.alloc | with_reducible apply Junk.junk | with_reducible apply Junk.drew | with_reducible apply Junk.drewN)); done) | ((try simp only [World.junk_junk, Array.append_assoc]); (repeat (first | with_reducible exact Junk.refl _ | with_reducible exact Junk.app _ _ _ _ _ | with_reducible exact Junk.app2 _ _ _ _ _ _ | with_reducible exact Junk.app3 _ _ _ _ _ _ _ | with_reducible exact Junk.app4 _ _ _ _ _ _ _ _ | with_reducible exact Junk.app5 _ _ _ _ _ _ _ _ _ | with_reducible apply Junk.alloc | with_reducible apply Junk.junk | with_reducible apply Junk.drew | with_reducible apply Junk.drewN))))))).mono ?_; rintro e w' ⟨g, rfl, ⟨osF, dF, rfl⟩, hg, hc⟩))
      have hck := hc k hk
      clear hc HE
      go_wp2
      go_ret
      exact ⟨rfl, by (first | ((repeat (first | with_reducible exact Junk.refl _ | with_reducible exact Junk.app _ _ _ _ _ | with_reducible apply Junk.alloc | with_reducible apply Junk.junk | with_reducible apply Junk.drew | with_reducible apply Junk.drewN)); done) | ((try simp only [World.junk_junk, Array.append_assoc]); (repeat (first | with_reducible exact Junk.refl _ | with_reducible exact Junk.app _ _ _ _ _ | with_reducible exact Junk.app2 _ _ _ _ _ _ | with_reducible exact Junk.app3 _ _ _ _ _ _ _ | with_reducible exact Junk.app4 _ _ _ _ _ _ _ _ | with_reducible exact Junk.app5 _ _ _ _ _ _ _ _ _ | with_reducible apply Junk.alloc | with_reducible apply Junk.junk | with_reducible apply Junk.drew | with_reducible apply Junk.drewN))))⟩
    · have HE := Lib.hid (show nameS v = ByteArray.empty by unfold nameS; rw [if_neg (by omega)])
      rw [HE.out]
      have h2 : ¬ v < 0 := by omega
      have h3 : (18 : Int) ≤ v := by omega
      go_enter Tryd.func8, Tryd.ntmps8
      go_wp2_with (first | (go_at_call 18; refine (fields_names _ (by decide +kernel) _ (HT.out.on (by (first | ((repeat (first | with_reducible exact Junk.refl _ | with_reducible exact Junk.app _ _ _ _ _ | with_reducible apply Junk.alloc | with_reducible apply Junk.junk | with_reducible apply Junk.drew | with_reducible apply Junk.drewN)); done) | ((try simp only [World.junk_junk, Array.append_assoc]); (repeat (first | with_reducible exact Junk.refl _ | with_reducible exact Junk.app _ _ _ _ _ | with_reducible exact Junk.app2 _ _ _ _ _ _ | with_reducible exact Junk.app3 _ _ _ _ _ _ _ | with_reducible exact Junk.app4 _ _ _ _ _ _ _ _ | with_reducible exact Junk.app5 _ _ _ _ _ _ _ _ _ | with_reducible apply Junk.alloc | with_reducible apply Junk.junk | with_reducible apply Junk.drew | with_reducible apply Junk.drewN))))))).mono ?_; rintro e w' ⟨g, rfl, ⟨osF, dF, rfl⟩, hg, hc⟩; clear hc))
      go_ret
      exact ⟨rfl, by (first | ((repeat (first | with_reducible exact Junk.refl _ | with_reducible exact Junk.app _ _ _ _ _ | with_reducible apply Junk.alloc | with_reducible apply Junk.junk | with_reducible apply Junk.drew | with_reducible apply Junk.drewN)); done) | ((try simp only [World.junk_junk, Array.append_assoc]); (repeat (first | with_reducible exact Junk.refl _ | with_reducible exact Junk.app _ _ _ _ _ | with_reducible exact Junk.app2 _ _ _ _ _ _ | with_reducible exact Junk.app3 _ _ _ _ _ _ _ | with_reducible exact Junk.app4 _ _ _ _ _ _ _ _ | with_reducible exact Junk.app5 _ _ _ _ _ _ _ _ _ | with_reducible apply Junk.alloc | with_reducible apply Junk.junk | with_reducible apply Junk.drew | with_reducible apply Junk.drewN))))⟩
  · have HE := Lib.hid (show nameS v = ByteArray.empty by unfold nameS; rw [if_neg (by omega)])
    rw [HE.out]
    have h2 : v < 0 := by omega
    go_enter Tryd.func8, Tryd.ntmps8
    go_wp2_with (first | (go_at_call 18; refine (fields_names _ (by decide +kernel) _ (HT.out.on (by (first | ((repeat (first | with_reducible exact Junk.refl _ | with_reducible exact Junk.app _ _ _ _ _ | with_reducible apply Junk.alloc | with_reducible apply Junk.junk | with_reducible apply Junk.drew | with_reducible apply Junk.drewN)); done) | ((try simp only [World.junk_junk, Array.append_assoc]); (repeat (first | with_reducible exact Junk.refl _ | with_reducible exact Junk.app _ _ _ _ _ | with_reducible exact Junk.app2 _ _ _ _ _ _ | with_reducible exact Junk.app3 _ _ _ _ _ _ _ | with_reducible exact Junk.app4 _ _ _ _ _ _ _ _ | with_reducible exact Junk.app5 _ _ _ _ _ _ _ _ _ | with_reducible apply Junk.alloc | with_reducible apply Junk.junk | with_reducible apply Junk.drew | with_reducible apply Junk.drewN))))))).mono ?_; rintro e w' ⟨g, rfl, ⟨osF, dF, rfl⟩, hg, hc⟩; clear hc))
    go_ret
    exact ⟨rfl, by (first | ((repeat (first | with_reducible exact Junk.refl _ | with_reducible exact Junk.app _ _ _ _ _ | with_reducible apply Junk.alloc | with_reducible apply Junk.junk | with_reducible apply Junk.drew | with_reducible apply Junk.drewN)); done) | ((try simp only [World.junk_junk, Array.append_assoc]); (repeat (first | with_reducible exact Junk.refl _ | with_reducible exact Junk.app _ _ _ _ _ | with_reducible exact Junk.app2 _ _ _ _ _ _ | with_reducible exact Junk.app3 _ _ _ _ _ _ _ | with_reducible exact Junk.app4 _ _ _ _ _ _ _ _ | with_reducible exact Junk.app5 _ _ _ _ _ _ _ _ _ | with_reducible apply Junk.alloc | with_reducible apply Junk.junk | with_reducible apply Junk.drew | with_reducible apply Junk.drewN))))⟩
end Go.Proofs.YteoommoolmddaaaDoor
