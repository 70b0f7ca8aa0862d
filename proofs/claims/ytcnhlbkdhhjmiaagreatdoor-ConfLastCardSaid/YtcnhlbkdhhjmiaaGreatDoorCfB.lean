/- A word's number, as the reader takes it. -/
import Derived.Test.YtcnhlbkdhhjmiaaGreatDoorCfA
import Derived.Test.YtcnhlbkdhhjmiaaGreatDoorShelf
set_option linter.unusedVariables false
set_option maxRecDepth 100000
set_option linter.unusedSimpArgs false
namespace Go.Proofs.YtcnhlbkdhhjmiaaGreatDoor
open Go.RowKit
variable {L L' : Nat → Prop} {w w' w'' : World}
theorem RowAt.on {kb r : Nat} {ws : List ByteArray} {bad : Bool} (h : RowAt w kb r ws bad) (hj : Junk w w') : RowAt w' kb r ws bad := by
  have t : Tch (fun _ => False) w w' := Tch.of_junk hj
  obtain ⟨oa, cap, h0, h1, h2⟩ := h.c0
  refine ⟨Nat.lt_of_lt_of_le h.lt t.size, h.ge, h.kr, ⟨oa, cap, t.cell h0 (fun e => e), h1, fun i x hi => ?_⟩, t.cell h.c1 (fun e => e), ?_, ?_⟩
  · obtain ⟨g, o, he, hg, hc⟩ := h2 i x hi
    exact ⟨g, o, he, hg, t.cell hc (fun e => e)⟩
  · rw [t.frozen h.lt (fun e => e)]; exact h.f0
  · rw [t.frozen h.lt (fun e => e)]; exact h.f1
theorem parse_bound {l : W8} {u : Int} (h : Lib.parseIntB 32 l = .ok u) : -2147483648 ≤ u ∧ u ≤ 2147483647 := by
  unfold Lib.parseIntB at h
  split at h
  · cases h
  · simp only at h
    split at h
    · cases h
    · cases h
    · split at h
      · cases h
      · split at h
        · cases h
        · injection h with h
          subst h
          split <;> omega
theorem bytesWorld_junk (w : World) (t : TypeId) (s : ByteArray) : Junk w (Lib.bytesWorld w t s) := Junk.of_below (Lib.bytesWorld_below w t s)
theorem parseInt_any (hE : Env w) (s : ByteArray) (hs : s.size ≤ 1000000000) :
    Calls Tryz.prog 85 #[.string s, .int .i64 10, .int .i64 32] w fun e w' => ∃ v ev, e = .returned (.tuple #[.int .i64 v, ev]) ∧ Junk w w' ∧
      ((Lib.parseIntB 32 s.data.toList = .ok v ∧ ev = .nilIface) ∨ ((∀ u, Lib.parseIntB 32 s.data.toList ≠ .ok u) ∧ ∃ t p, ev = .iface t p)) := by
  obtain ⟨t6, p6, h6⟩ := hE.syn
  obtain ⟨t7, p7, h7⟩ := hE.rng
  cases hp : Lib.parseIntB 32 s.data.toList
  case ok u =>
    refine (Any.strconv_ParseInt_10_at32_ok Tryz.laysC174 s (by omega) u hp w).mono fun e w' ⟨he, hw⟩ => ⟨u, .nilIface, he, ?_, .inl ⟨rfl, rfl⟩⟩
    rcases hw with rfl | ⟨t, rfl⟩
    · exact Junk.refl _
    · exact bytesWorld_junk _ _ _
  case range =>
    refine (Any.strconv_ParseInt_10_at32_range Tryz.laysC174 s (by omega) hp (.iface t7 p7) w h7 (.inr ⟨t7, p7, rfl⟩)).mono fun e w' ⟨N, he, _, _, hb⟩ => ⟨_, _, he, Junk.of_below hb, .inr ⟨fun u hu => (by cases hu), _, _, rfl⟩⟩
  · refine (Any.strconv_ParseInt_10_at32_syntax Tryz.laysC174 s (by omega) hp (.iface t6 p6) w h6 (.inr ⟨t6, p6, rfl⟩)).mono fun e w' ⟨N, he, _, _, hb⟩ => ⟨0, _, he, Junk.of_below hb, .inr ⟨fun u hu => (by cases hu), _, _, rfl⟩⟩
def itoaS (n : Int) : ByteArray := mkS (Lib.itoa n)
theorem formatInt_any (hE : Env w) (n : Int) (h : -9223372036854775808 ≤ n ∧ n ≤ 9223372036854775807) :
    Calls Tryz.prog 86 #[.int .i64 n, .int .i64 10] w fun e w' => e = .returned (.string (itoaS n)) ∧ Junk w w' :=
  (Any.strconv_FormatInt_10 Tryz.laysM173 n h.1 h.2 w hE.pow).mono fun e w' ⟨he, k, os, hw⟩ => ⟨he, by rw [hw]; exact ⟨os, w.drawn + k, rfl⟩⟩
theorem Env.junk (h : Env w) (hj : Junk w w') : Env w' := h.on (L := fun _ => False) (Tch.of_junk hj) (fun _ e => e.elim)
theorem numW_ok {l : W8} {v : Int} (h : Lib.parseIntB 32 l = .ok v) (he : Lib.itoa v = l) : numW l = some v := by
  unfold numW
  rw [h]
  simp only []
  rw [if_pos he]
theorem numW_ne {l : W8} {v : Int} (h : Lib.parseIntB 32 l = .ok v) (he : Lib.itoa v ≠ l) : numW l = none := by
  unfold numW
  rw [h]
  simp only []
  rw [if_neg he]
theorem numW_no {l : W8} (h : ∀ u, Lib.parseIntB 32 l ≠ .ok u) : numW l = none := by
  unfold numW
  cases hp : Lib.parseIntB 32 l
  case ok u => exact absurd hp (h u)
  all_goals rfl
theorem itoaS_eq (v : Int) (s : ByteArray) : ((itoaS v).toList == s.toList) = decide (Lib.itoa v = s.data.toList) := by
  rw [Lib.toList_data, Lib.toList_data, Bool.eq_iff_iff, beq_iff_eq, decide_eq_true_eq]
  exact Iff.rfl
theorem Tch.junk (h : Tch L w w') (hj : Junk w' w'') : Tch L w w'' := h.trans (Tch.of_junk hj)
set_option maxHeartbeats 2000000 in
/-- A word's number, and whether it is one. -/
theorem number_any (hE : Env w) {kb : Nat} (r : Nat) (ws : List ByteArray) (bad : Bool) (s : ByteArray) (hs : s.size ≤ 1000000000) (h : RowAt w kb r ws bad) :
    Calls Tryz.prog 73 #[.pointer (some ⟨r, 0, none⟩), .string s] w fun e w' => ∃ n : Int, e = .returned (.int .i64 n) ∧ (∀ m, numW s.data.toList = some m → n = m) ∧ (-2147483648 ≤ n ∧ n ≤ 2147483647) ∧
      RowAt w' kb r ws (bad || (numW s.data.toList).isNone) ∧ Tch (· = r) w w' := by
  have HR := Lib.hid h
  have HP := Lib.hid (parseInt_any hE s hs)
  have HF := Lib.hid (fun n hn w1 (hj : Junk w w1) => formatInt_any (hE.junk hj) n hn)
  have h1 := h.c1
  have hf1 := h.f1
  have hlt := h.lt
  clear h hE
  go_enter Tryz.func73, Tryz.ntmps73
  go_wp2_with (first
    | (go_at_call 85; (refine HP.out.mono ?_; rintro e w1 ⟨v, ev, rfl, ⟨os, d, rfl⟩, hor⟩); rcases hor with ⟨hok, rfl⟩ | ⟨hno, t, p, rfl⟩)
    | (go_at_call 86; (refine (HF.out _ (by have := parse_bound hok; omega) _ (by (exact jkc))).mono ?_; rintro e w1 ⟨rfl, ⟨os1, d1, rfl⟩⟩)))
  · rename_i hq
    rw [itoaS_eq] at hq
    have hn : numW s.data.toList = none := numW_ne hok (by simpa using hq)
    go_ret
    refine ⟨0, rfl, fun m hm => ?_, by omega, ?_, ?_⟩
    · rw [hn] at hm; cases hm
    · rw [hn, show (bad || Option.isNone (none : Option Int)) = true by simp]
      exact (HR.out.bad true).on ⟨_, _, rfl⟩
    · exact ((Tch.refl w).at 1 _).junk ⟨_, _, rfl⟩
  · rename_i hq
    rw [itoaS_eq] at hq
    have hn : numW s.data.toList = some v := numW_ok hok (by simpa using hq)
    go_ret
    refine ⟨v, rfl, fun m hm => ?_, parse_bound hok, ?_, ?_⟩
    · rw [hn] at hm; cases hm; rfl
    · rw [hn, show (bad || Option.isNone (some v)) = bad by simp]
      exact HR.out.on ⟨_, _, rfl⟩
    · exact (Tch.refl w).junk ⟨_, _, rfl⟩
  · have hn : numW s.data.toList = none := numW_no hno
    go_ret
    refine ⟨0, rfl, fun m hm => ?_, by omega, ?_, ?_⟩
    · rw [hn] at hm; cases hm
    · rw [hn, show (bad || Option.isNone (none : Option Int)) = true by simp]
      exact (HR.out.bad true).on ⟨_, _, rfl⟩
    · exact ((Tch.refl w).at 1 _).junk ⟨_, _, rfl⟩
end Go.Proofs.YtcnhlbkdhhjmiaaGreatDoor
