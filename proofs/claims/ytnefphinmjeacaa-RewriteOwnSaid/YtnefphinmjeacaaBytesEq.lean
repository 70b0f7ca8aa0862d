/- The contract of bytes.Equal. -/
import Derived.Test.YtnefphinmjeacaaBytes
import Derived.Shelf.Bytes.SlEqualAll
set_option linter.unusedVariables false
set_option maxRecDepth 100000
set_option linter.unusedSimpArgs false
namespace Go.Proofs.Ytnefphinmjeacaa
open Go.RowKit
theorem u8_inj {a b : Int} (ha : 0 ≤ a ∧ a ≤ 255) (hb : 0 ≤ b ∧ b ≤ 255) (h : UInt8.ofNat a.toNat = UInt8.ofNat b.toNat) : a = b := by
  have h2 := congrArg UInt8.toNat h
  simp only [UInt8.toNat_ofNat'] at h2
  omega
theorem str_same {xs ys : Nat → Int} {l m : Nat} (hx : ∀ i, i < l → 0 ≤ xs i ∧ xs i ≤ 255) (hy : ∀ i, i < m → 0 ≤ ys i ∧ ys i ≤ 255) :
    (strOfNums ((List.range l).map xs)).toList = (strOfNums ((List.range m).map ys)).toList ↔ (l = m ∧ ∀ i, i < l → xs i = ys i) := by
  rw [Lib.strOfNums_toList, Lib.strOfNums_toList]
  unfold Lib.bytesOf
  simp only [List.map_map]
  constructor
  · intro h
    have hl := congrArg List.length h
    simp at hl
    subst hl
    refine ⟨rfl, fun i hi => ?_⟩
    have := congrArg (fun l => l[i]?) h
    simp [hi] at this
    exact u8_inj (hx i hi) (hy i hi) this
  · rintro ⟨rfl, h⟩
    apply List.map_congr_left
    intro i hi
    simp [h i (by simpa using hi)]
theorem IntsAt.bytesIn {w : World} {oa : Option Addr} {l : Nat} {xs : Nat → Int} (h : IntsAt w oa l .u8 xs) : Lib.BytesIn w oa l ((List.range l).map xs) := by
  intro hl
  obtain ⟨b, off, rfl, _, _⟩ := h 0 hl
  refine ⟨b, off, rfl, fun i hi => ?_⟩
  obtain ⟨b', off', he, _, hc⟩ := h i hi
  cases he
  rw [hc]
  simp [List.getD, hi]
set_option maxHeartbeats 400000 in
theorem equal_any (oa ob : Option Addr) (l c m c2 : Nat) (xs ys : Nat → Int) (w : World) (hI : IntsAt w oa l .u8 xs) (hJ : IntsAt w ob m .u8 ys)
    (hx : ∀ i, i < l → 0 ≤ xs i ∧ xs i ≤ 255) (hy : ∀ i, i < m → 0 ≤ ys i ∧ ys i ≤ 255) :
    Calls Try.prog 48 #[.slice oa l c, .slice ob m c2] w fun e w' => e = .returned (.bool (sameN xs ys l m)) ∧ w = w' := by
  have h1 := (IntsAt.bytesIn hI).convert (P := Try.prog) (by simp) c _ _ _ Try.underlying23 Try.underlying5 Try.underlying9
  have h2 := (IntsAt.bytesIn hJ).convert (P := Try.prog) (by simp) c2 _ _ _ Try.underlying23 Try.underlying5 Try.underlying9
  have Hs := Lib.hid (str_same hx hy)
  clear hx hy hI hJ
  generalize hS : strOfNums (List.map xs (List.range l)) = S at *
  generalize hT : strOfNums (List.map ys (List.range m)) = T at *
  go_enter Try.func48, Try.ntmps48
  go_wp2
  go_ret
  refine ⟨ret_bool ?_, rfl⟩
  have hs := Hs.out
  unfold sameN
  simp only [← hs]
  rw [Bool.eq_iff_iff]
  simp
end Go.Proofs.Ytnefphinmjeacaa
