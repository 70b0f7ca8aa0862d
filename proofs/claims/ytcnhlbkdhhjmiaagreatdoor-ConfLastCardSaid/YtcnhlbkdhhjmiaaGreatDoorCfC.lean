/- The reader: the next number, an action, an address, a net. -/
import Derived.Test.YtcnhlbkdhhjmiaaGreatDoorCfB
set_option linter.unusedVariables false
set_option maxRecDepth 100000
set_option linter.unusedSimpArgs false
namespace Go.Proofs.YtcnhlbkdhhjmiaaGreatDoor
open Go.RowKit
variable {L L' : Nat → Prop} {w w' w'' : World}
def hdW (ws : List ByteArray) : W8 := (headB ws).data.toList
def ShortW (ws : List ByteArray) : Prop := ∀ x ∈ ws, x.size ≤ 1000000000
theorem ShortW.head {ws : List ByteArray} (h : ShortW ws) : (headB ws).size ≤ 1000000000 := by
  cases ws with
  | nil => decide
  | cons x t => exact h x (by simp)
theorem ShortW.tail {ws : List ByteArray} (h : ShortW ws) : ShortW ws.tail := fun x hx => h x (List.mem_of_mem_tail hx)
theorem numW_nil : numW [] = none := rfl
theorem bad_hd (ws : List ByteArray) (bad : Bool) : (bad || ws.isEmpty || (numW (hdW ws)).isNone) = (bad || (numW (hdW ws)).isNone) := by
  cases ws with
  | nil => simp [hdW, headB, numW_nil]
  | cons x t => simp
theorem RowAt.env {kb r : Nat} {ws : List ByteArray} {bad : Bool} (h : RowAt w kb r ws bad) (hE : Env w) (t : Tch (· = r) w w') : Env w' := hE.on t (fun k hk => by have := h.ge; omega)
set_option maxHeartbeats 2000000 in
/-- The next word's number. -/
theorem num_any (hE : Env w) {kb : Nat} (r : Nat) (ws : List ByteArray) (bad : Bool) (hs : ShortW ws) (h : RowAt w kb r ws bad) :
    Calls Tryz.prog 57 #[.pointer (some ⟨r, 0, none⟩)] w fun e w' => ∃ n : Int, e = .returned (.int .i64 n) ∧ (∀ m, numW (hdW ws) = some m → n = m) ∧ (-2147483648 ≤ n ∧ n ≤ 2147483647) ∧
      RowAt w' kb r ws.tail (bad || (numW (hdW ws)).isNone) ∧ Tch (· = r) w w' := by
  have HR := Lib.hid h
  have HE := Lib.hid hE
  have HS := Lib.hid hs
  have HN := Lib.hid (next_any r ws bad w h)
  clear h hE hs
  go_enter Tryz.func57, Tryz.ntmps57
  go_wp2_with (first
    | (go_at_call 60; (refine HN.out.mono ?_; rintro e w1 ⟨rfl, hR1, hT1⟩); have HR1 := Lib.hid hR1; have HT1 := Lib.hid hT1; clear hR1 hT1)
    | (go_at_call 73; (refine (number_any (HR.out.env HE.out HT1.out) r _ _ _ HS.out.head HR1.out).mono ?_; rintro e w2 ⟨n, rfl, hn, hn2, hR2, hT2⟩)))
  go_ret
  refine ⟨n, rfl, hn, hn2, ?_, HT1.out.trans hT2⟩
  have := bad_hd ws bad
  unfold hdW at this
  rw [this] at hR2
  exact hR2
theorem bytes_eq (s : ByteArray) (l : W8) : (s.toList == l) = decide (s.data.toList = l) := by
  rw [Lib.toList_data, Bool.eq_iff_iff, beq_iff_eq, decide_eq_true_eq]
set_option maxHeartbeats 2000000 in
/-- The next word as an action. -/
theorem action_any {kb : Nat} (r : Nat) (ws : List ByteArray) (bad : Bool) (h : RowAt w kb r ws bad) :
    Calls Tryz.prog 58 #[.pointer (some ⟨r, 0, none⟩)] w fun e w' => ∃ n : Int, e = .returned (.int .i64 n) ∧ (∀ m, actW (hdW ws) = some m → n = m) ∧ (0 ≤ n ∧ n ≤ 2) ∧
      RowAt w' kb r ws.tail (bad || (actW (hdW ws)).isNone) ∧ Tch (· = r) w w' := by
  have HR := Lib.hid h
  have HN := Lib.hid (next_any r ws bad w h)
  have hb : ∀ x, actW (hdW ws) = some x → (bad || ws.isEmpty) = bad := fun x hx => by
    cases ws with
    | nil =>
      rw [show actW (hdW []) = none by decide] at hx
      cases hx
    | cons y t => simp
  have HB := Lib.hid hb
  clear h hb
  by_cases ha : (headB ws).data.toList = wAllow
  · have hv : actW (hdW ws) = some 2 := by unfold actW hdW; rw [if_pos ha]
    have e1 : ((headB ws).toList == [97, 108, 108, 111, 119]) = true := (bytes_eq (headB ws) [97, 108, 108, 111, 119]).trans (decide_eq_true ha)
    have HV := Lib.hid hv
    clear hv ha
    go_enter Tryz.func58, Tryz.ntmps58
    go_wp2_with (go_at_call 60; (refine HN.out.mono ?_; rintro e w1 ⟨rfl, hR1, hT1⟩); have HR1 := Lib.hid hR1; have HT1 := Lib.hid hT1; clear hR1 hT1)
    go_ret
    refine ⟨2, rfl, fun m hm => by rw [HV.out] at hm; cases hm; rfl, by omega, ?_, HT1.out⟩
    have := HR1.out
    rw [HB.out _ HV.out] at this
    rw [HV.out]
    simpa using this
  · by_cases hd : (headB ws).data.toList = wDeny
    · have hv : actW (hdW ws) = some 1 := by unfold actW hdW; rw [if_neg ha, if_pos hd]
      have e1 : ((headB ws).toList == [97, 108, 108, 111, 119]) = false := (bytes_eq (headB ws) [97, 108, 108, 111, 119]).trans (decide_eq_false ha)
      have e2 : ((headB ws).toList == [100, 101, 110, 121]) = true := (bytes_eq (headB ws) [100, 101, 110, 121]).trans (decide_eq_true hd)
      have HV := Lib.hid hv
      clear hv ha hd
      go_enter Tryz.func58, Tryz.ntmps58
      go_wp2_with (go_at_call 60; (refine HN.out.mono ?_; rintro e w1 ⟨rfl, hR1, hT1⟩); have HR1 := Lib.hid hR1; have HT1 := Lib.hid hT1; clear hR1 hT1)
      go_ret
      refine ⟨1, rfl, fun m hm => by rw [HV.out] at hm; cases hm; rfl, by omega, ?_, HT1.out⟩
      have := HR1.out
      rw [HB.out _ HV.out] at this
      rw [HV.out]
      simpa using this
    · have hv : actW (hdW ws) = none := by unfold actW hdW; rw [if_neg ha, if_neg hd]
      have e1 : ((headB ws).toList == [97, 108, 108, 111, 119]) = false := (bytes_eq (headB ws) [97, 108, 108, 111, 119]).trans (decide_eq_false ha)
      have e2 : ((headB ws).toList == [100, 101, 110, 121]) = false := (bytes_eq (headB ws) [100, 101, 110, 121]).trans (decide_eq_false hd)
      have HV := Lib.hid hv
      clear hv ha hd
      go_enter Tryz.func58, Tryz.ntmps58
      go_wp2_with (go_at_call 60; (refine HN.out.mono ?_; rintro e w1 ⟨rfl, hR1, hT1⟩); have HR1 := Lib.hid hR1; have HT1 := Lib.hid hT1; have k1 := hR1.c1; have kf := hR1.f1; have kl := hR1.lt; clear hR1 hT1)
      go_ret
      refine ⟨0, rfl, fun m hm => (by rw [HV.out] at hm; cases hm), by omega, ?_, HT1.out.at 1 _⟩
      rw [HV.out]
      simpa using HR1.out.bad true
/-- A text is cut at one byte. -/
theorem split_any (hE : Env w) (c : UInt8) (s : ByteArray) (hs : s.size ≤ 1000000000) :
    Calls Tryz.prog 17 #[.string s, .string ⟨#[c]⟩] w fun e w' => e = .returned (.slice (some ⟨w.heap.size, 0, none⟩) (Lib.splitB ⟨#[c]⟩ 0 (Lib.countB s ⟨#[c]⟩) s).length (Lib.splitB ⟨#[c]⟩ 0 (Lib.countB s ⟨#[c]⟩) s).length) ∧
      w' = w.alloc (.cells ((Lib.splitB ⟨#[c]⟩ 0 (Lib.countB s ⟨#[c]⟩) s).map Value.string).toArray 9) := by
  obtain ⟨m, hm⟩ := hE.len
  have hl := Lib.splitB_all ⟨#[c]⟩ (Nat.le_refl 1) 0 (Lib.countB s ⟨#[c]⟩) s rfl
  refine (Any.strings_Split { Tryz.laysM146 with } Tryz.laysM146.i9 s ⟨#[c]⟩ m w (by omega) hm (Nat.le_refl 1)).mono fun e w' ⟨he, hw⟩ => ⟨?_, hw⟩
  rw [hl]
  exact he
/-- One part more of an address. -/
def stepA (st : Option Nat) (p : W8) : Option Nat :=
  match st, byteW p with
  | some a, some b => some (a * 256 + b)
  | _, _ => none
theorem addrW_fold (l : W8) : addrW l = if (cutsL 46 [] l).length = 4 then (cutsL 46 [] l).foldl stepA (some 0) else none := by
  unfold addrW
  generalize cutsL 46 [] l = P
  match P with
  | [] => rfl
  | [_] => rfl
  | [_, _] => rfl
  | [_, _, _] => rfl
  | [a, b, c, d] =>
    simp only [List.length_cons, List.length_nil, List.foldl_cons, List.foldl_nil, stepA]
    cases byteW a <;> cases byteW b <;> cases byteW c <;> cases byteW d <;> simp
  | _ :: _ :: _ :: _ :: _ :: t => simp
theorem fold_lt : ∀ (P : List W8) (a x : Nat) (k : Nat), a < 256 ^ k → P.foldl stepA (some a) = some x → x < 256 ^ (k + P.length)
  | [], a, x, k, h, hx => by simp at hx; subst hx; simpa using h
  | p :: t, a, x, k, h, hx => by
    rw [List.foldl_cons] at hx
    cases hb : byteW p with
    | none =>
      exfalso
      have : ∀ (t : List W8), t.foldl stepA none = none := fun t => by
        induction t with
        | nil => rfl
        | cons q t ih => rw [List.foldl_cons, show stepA none q = none from rfl]; exact ih
      rw [show stepA (some a) p = none by simp [stepA, hb], this] at hx
      cases hx
    | some b =>
      rw [show stepA (some a) p = some (a * 256 + b) by simp [stepA, hb]] at hx
      have hb2 : b < 256 := by
        unfold byteW at hb
        split at hb
        · split at hb
          · cases hb; omega
          · cases hb
        · cases hb
      have := fold_lt t (a * 256 + b) x (k + 1) (by rw [Nat.pow_succ]; omega) hx
      rw [List.length_cons, show k + (t.length + 1) = k + 1 + t.length by omega]
      exact this
end Go.Proofs.YtcnhlbkdhhjmiaaGreatDoor
