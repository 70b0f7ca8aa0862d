/- The contract of bytes.Equal. -/
import Derived.Test.YtfkhnhenemgcmaaDoorBytes
import Derived.Shelf.Bytes.SlEqualAll
set_option linter.unusedVariables false
set_option maxRecDepth 100000
set_option linter.unusedSimpArgs false
namespace Go.Proofs.YtfkhnhenemgcmaaDoor
open Go.RowKit
theorem u8_inj {a b : Int} (ha : 0 ≤ a ∧ a ≤ 255) (hb : 0 ≤ b ∧ b ≤ 255) (h : UInt8.ofNat a.toNat = UInt8.ofNat b.toNat) : a = b := by
  have h2 := congrArg UInt8.toNat h
  simp only [UInt8.toNat_ofNat'] at h2
  omega
theorem str_same {xs ys : Nat → Int} {l m : Nat} (hx : ∀ i, i < l → 0 ≤ xs i ∧ xs i ≤ 255) (hy : ∀ i, i < m → 0 ≤ ys i ∧ ys i ≤ 255) :
    (strOfNums ((List.range l).map xs)).toList = (strOfNums ((List.range m).map ys)).toList ↔ (l = m ∧ ∀ i, i < l → xs i = ys i) := by
  rw [Lib.strOfNums_toList, Lib.strOfNums_toList]
  unfold Lib.bytesOf
  simp only [List.map_map]
  constructor
  · intro h
    have hl := congrArg List.length h
    simp at hl
    subst hl
    refine ⟨rfl, fun i hi => ?_⟩
    have := congrArg (fun l => l[i]?) h
    simp [hi] at this
    exact u8_inj (hx i hi) (hy i hi) this
  · rintro ⟨rfl, h⟩
    apply List.map_congr_left
    intro i hi
    simp [h i (by simpa using hi)]
theorem IntsAt.bytesIn {w : World} {oa : Option Addr} {l : Nat} {xs : Nat → Int} (h : IntsAt w oa l .u8 xs) : Lib.BytesIn w oa l ((List.range l).map xs) := by
  intro hl
  obtain ⟨b, off, rfl, _, _⟩ := h 0 hl
  refine ⟨b, off, rfl, fun i hi => ?_⟩
  obtain ⟨b', off', he, _, hc⟩ := h i hi
  cases he
  rw [hc]
  simp [List.getD, hi]
end Go.Proofs.YtfkhnhenemgcmaaDoor
