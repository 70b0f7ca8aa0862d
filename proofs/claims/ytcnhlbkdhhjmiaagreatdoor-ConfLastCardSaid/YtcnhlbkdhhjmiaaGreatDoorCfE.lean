/- The reader: a net. -/
import Derived.Test.YtcnhlbkdhhjmiaaGreatDoorCfD
set_option linter.unusedVariables false
set_option maxRecDepth 100000
set_option linter.unusedSimpArgs false
namespace Go.Proofs.YtcnhlbkdhhjmiaaGreatDoor
open Go.RowKit
variable {L L' : Nat → Prop} {w w' w'' : World}
theorem drewN_junk (w : World) (n : Nat) : Junk w (w.drewN n) := Junk.of_below ⟨rfl, rfl, rfl, Nat.le_refl _, fun _ _ => rfl⟩
theorem cut_any (hE : Env w) (c : UInt8) (s : ByteArray) (hs : s.size ≤ 1000000000) :
    Calls Tryz.prog 72 #[.string s, .string ⟨#[c]⟩] w fun e w' => e = .returned (.tuple #[.string (mkS (Lib.cut s.data.toList [c]).1), .string (mkS (Lib.cut s.data.toList [c]).2.1), .bool (Lib.cut s.data.toList [c]).2.2]) ∧ Junk w w' := by
  obtain ⟨m, hm⟩ := hE.len
  refine (Any.strings_Cut { Tryz.laysM145 with } s ⟨#[c]⟩ m w (by omega) hm).mono fun e w' ⟨he, n, hw⟩ => ⟨he, ?_⟩
  rw [hw]
  exact drewN_junk _ _
theorem cut_sizes (l : W8) (c : UInt8) : (Lib.cut l [c]).1.length ≤ l.length ∧ (Lib.cut l [c]).2.1.length ≤ l.length := by
  unfold Lib.cut
  split
  · simp only [List.length_take, List.length_drop]; omega
  · simp
theorem netW_no {l : W8} (h : (Lib.cut l [47]).2.2 = false) : netW l = none := by
  unfold netW
  rw [h]
  rfl
theorem netW_yes {l : W8} (h : (Lib.cut l [47]).2.2 = true) : netW l = match addrW (Lib.cut l [47]).1, numW (Lib.cut l [47]).2.1 with
    | some a, some n => some (a, n)
    | _, _ => none := by
  unfold netW
  rw [h]
  rfl
set_option maxHeartbeats 4000000 in
/-- The next word as a net. -/
theorem net_any (hE : Env w) {kb : Nat} (r : Nat) (ws : List ByteArray) (bad : Bool) (hs : ShortW ws) (h : RowAt w kb r ws bad) :
    Calls Tryz.prog 56 #[.pointer (some ⟨r, 0, none⟩)] w fun e w' => ∃ a n : Int, e = .returned (.tuple #[.int .u32 a, .int .i64 n]) ∧ (∀ x m, netW (hdW ws) = some (x, m) → a = (x : Int) ∧ n = m) ∧ (-2147483648 ≤ n ∧ n ≤ 2147483647) ∧
      RowAt w' kb r ws.tail (bad || (netW (hdW ws)).isNone) ∧ Tch (· = r) w w' := by
  have HR := Lib.hid h
  have HE := Lib.hid hE
  have HN := Lib.hid (next_any r ws bad w h)
  have hsz : (headB ws).data.toList.length ≤ 1000000000 := by
    have := hs.head
    have e : (headB ws).data.toList.length = (headB ws).size := by simp
    omega
  have hcs := cut_sizes (hdW ws) 47
  have HC := Lib.hid (fun w1 (t : Tch (· = r) w w1) => cut_any (h.env hE t) 47 (headB ws) hs.head)
  have hemp : (Lib.cut (hdW ws) [47]).2.2 = true → (bad || ws.isEmpty) = bad := fun hx => by
    cases ws with
    | nil => rw [show (Lib.cut (hdW []) [47]).2.2 = false from by decide] at hx; cases hx
    | cons y t => simp
  obtain ⟨A, hA⟩ : ∃ A, (Lib.cut (hdW ws) [47]).1 = A := ⟨_, rfl⟩
  obtain ⟨B, hB⟩ : ∃ B, (Lib.cut (hdW ws) [47]).2.1 = B := ⟨_, rfl⟩
  have hAz : (mkS A).size ≤ 1000000000 := by rw [mkS_size, ← hA]; unfold hdW at hcs ⊢; omega
  have hBz : (mkS B).size ≤ 1000000000 := by rw [mkS_size, ← hB]; unfold hdW at hcs ⊢; omega
  cases hc : (Lib.cut (hdW ws) [47]).2.2 with
  | false =>
    have HV := Lib.hid (netW_no hc)
    unfold hdW at hA hB hc
    rw [hA, hB, hc] at HC
    clear h hE hs hsz hcs hemp hA hB hc hAz hBz
    go_enter Tryz.func56, Tryz.ntmps56
    go_wp2_with (first
      | (go_at_call 60; (refine HN.out.mono ?_; rintro e w1 ⟨rfl, hR1, hT1⟩); have HR1 := Lib.hid hR1; have HT1 := Lib.hid hT1; have k1 := hR1.c1; have kf := hR1.f1; have kl := hR1.lt; clear hR1 hT1)
      | (go_at_call 72; (refine (HC.out _ HT1.out).mono ?_; rintro e w2 ⟨rfl, ⟨os, d, rfl⟩⟩)))
    go_returns
    refine ⟨0, 0, rfl, fun x m hm => (by rw [HV.out] at hm; cases hm), by omega, ?_, ?_⟩
    · rw [HV.out, show (bad || Option.isNone (none : Option (Nat × Int))) = true by simp]
      exact (HR1.out.bad true).on ⟨_, _, rfl⟩
    · exact (HT1.out.at 1 _).junk ⟨_, _, rfl⟩
  | true =>
    have hv := netW_yes hc
    have hbb := hemp hc
    rw [hA, hB] at hv
    unfold hdW at hA hB hc
    rw [hA, hB, hc] at HC
    have HV := Lib.hid hv
    have HB := Lib.hid hbb
    clear h hE hs hsz hcs hemp hA hB hc hv hbb
    go_enter Tryz.func56, Tryz.ntmps56
    go_wp2_with (first
      | (go_at_call 60; (refine HN.out.mono ?_; rintro e w1 ⟨rfl, hR1, hT1⟩); have HR1 := Lib.hid hR1; have HT1 := Lib.hid hT1; clear hR1 hT1)
      | (go_at_call 72; (refine (HC.out _ HT1.out).mono ?_; rintro e w2 ⟨rfl, hj2⟩); have HR2 := Lib.hid (HR1.out.on hj2); have HT2 := Lib.hid (HT1.out.junk hj2); clear hj2)
      | (go_at_call 59; (refine (address_any (HR.out.env HE.out HT2.out) r _ _ _ hAz HR2.out).mono ?_; rintro e w3 ⟨a, rfl, ha, hR3, hT3⟩); have HR3 := Lib.hid hR3; have HT3 := Lib.hid (HT2.out.trans hT3); have HA3 := Lib.hid ha; clear hR3 hT3 ha)
      | (go_at_call 73; (refine (number_any (HR.out.env HE.out HT3.out) r _ _ _ hBz HR3.out).mono ?_; rintro e w4 ⟨n, rfl, hn, hn2, hR4, hT4⟩); have HR4 := Lib.hid hR4; have HT4 := Lib.hid (HT3.out.trans hT4); have HN4 := Lib.hid hn; clear hR4 hT4 hn))
    go_returns
    refine ⟨a, n, rfl, fun x m hm => ?_, hn2, ?_, HT4.out⟩
    · rw [HV.out] at hm
      have h1 := HA3.out
      have h2 := HN4.out
      rw [mkS_list] at h1 h2
      cases hx : addrW A with
      | none => rw [hx] at hm; cases hm
      | some y =>
        cases hz : numW B with
        | none => rw [hx, hz] at hm; cases hm
        | some z =>
          rw [hx, hz] at hm
          cases hm
          exact ⟨h1 _ hx, h2 _ hz⟩
    · have h1 := HR4.out
      rw [HB.out, mkS_list, mkS_list] at h1
      rw [HV.out]
      cases hx : addrW A with
      | none => rw [hx] at h1; simpa using h1
      | some y =>
        cases hz : numW B with
        | none => rw [hx, hz] at h1; simpa using h1
        | some z => rw [hx, hz] at h1; simpa using h1
end Go.Proofs.YtcnhlbkdhhjmiaaGreatDoor
