/- The contract of the reference of icmp.Put. -/
import Derived.Test.YteegeckkfdeccaaIcmpPut
set_option linter.unusedVariables false
set_option linter.unusedSimpArgs false
namespace Go.Proofs.Yteegeckkfdeccaa
open Go.RowKit
/-- The rest and the body. -/
def tailB (r : Int) (xs : Nat → Int) : Nat → Int
  | 0 => r / 16777216
  | 1 => r / 65536 % 256
  | 2 => r / 256 % 256
  | 3 => r % 256
  | k + 4 => xs k
def shortB (t c r : Int) (xs : Nat → Int) : Nat → Int
  | 0 => t
  | 1 => c
  | k + 2 => tailB r xs k
theorem tailB_byte {r : Int} {xs : Nat → Int} {l : Nat} (hr : 0 ≤ r ∧ r ≤ 4294967295) (hx : ∀ i, i < l → 0 ≤ xs i ∧ xs i ≤ 255) : ∀ i, i < 4 + l → 0 ≤ tailB r xs i ∧ tailB r xs i ≤ 255 := by
  intro i hi
  match i, hi with
  | 0, _ => simp only [tailB]; omega
  | 1, _ => simp only [tailB]; omega
  | 2, _ => simp only [tailB]; omega
  | 3, _ => simp only [tailB]; omega
  | k + 4, h => simp only [tailB]; exact hx k (by omega)
theorem shortB_byte {t c r : Int} {xs : Nat → Int} {l : Nat} (ht : 0 ≤ t ∧ t ≤ 255) (hc : 0 ≤ c ∧ c ≤ 255) (hr : 0 ≤ r ∧ r ≤ 4294967295) (hx : ∀ i, i < l → 0 ≤ xs i ∧ xs i ≤ 255) : ∀ i, i < 2 + (4 + l) → 0 ≤ shortB t c r xs i ∧ shortB t c r xs i ≤ 255 := by
  intro i hi
  match i, hi with
  | 0, _ => exact ht
  | 1, _ => exact hc
  | k + 2, h => exact tailB_byte hr hx k (by omega)
theorem tailB_list (r : Int) (xs : Nat → Int) (l : Nat) :
    [Value.int .u8 (r / 16777216), .int .u8 (r / 65536 % 256), .int .u8 (r / 256 % 256), .int .u8 (r % 256)] ++ ((List.range l).map fun i => Value.int .u8 (xs i)) = (List.range (4 + l)).map fun i => Value.int .u8 (tailB r xs i) := by
  have h := @range_ext 4 l (fun i => Value.int .u8 (tailB r xs i))
  rw [← h]
  congr 1
  apply List.map_congr_left
  intro i _
  rw [Nat.add_comm]
  rfl
theorem shortB_list (t c r : Int) (xs : Nat → Int) (l : Nat) :
    [Value.int .u8 t, .int .u8 c] ++ ((List.range (4 + l)).map fun i => Value.int .u8 (tailB r xs i)) = (List.range (2 + (4 + l))).map fun i => Value.int .u8 (shortB t c r xs i) := by
  have h := @range_ext 2 (4 + l) (fun i => Value.int .u8 (shortB t c r xs i))
  rw [← h]
  congr 1
  apply List.map_congr_left
  intro i _
  rw [Nat.add_comm]
  rfl
theorem putB_list (t c r : Int) (xs : Nat → Int) (l : Nat) :
    [Value.int .u8 t, .int .u8 c, .int .u8 (putSum t c r xs l / 256), .int .u8 (putSum t c r xs l % 256)] ++ ((List.range (4 + l)).map fun i => Value.int .u8 (tailB r xs i)) = (List.range (4 + (4 + l))).map fun i => Value.int .u8 (putB t c r xs l i) := by
  have h := @range_ext 4 (4 + l) (fun i => Value.int .u8 (putB t c r xs l i))
  rw [← h]
  congr 1
  apply List.map_congr_left
  intro i _
  rw [Nat.add_comm]
  match i with
  | 0 => rfl
  | 1 => rfl
  | 2 => rfl
  | 3 => rfl
  | k + 4 => rfl
theorem short_raw (t c r : Int) (xs : Nat → Int) : ∀ l, rawN (shortB t c r xs) (2 + (4 + l)) = rawN (preB t c r xs) (8 + l)
  | 0 => by
    show rawN (shortB t c r xs) 6 = rawN (preB t c r xs) 8
    simp [rawN, shortB, tailB, preB]
  | l + 1 => by
    have h := short_raw t c r xs l
    show rawN (shortB t c r xs) ((2 + (4 + l)) + 1) = rawN (preB t c r xs) ((8 + l) + 1)
    simp only [rawN]
    rw [h]
    have e1 : shortB t c r xs (2 + (4 + l)) = xs l := by rw [show 2 + (4 + l) = (l + 4) + 2 from by omega]; rfl
    have e2 : preB t c r xs (8 + l) = xs l := by rw [show 8 + l = l + 8 from by omega]; rfl
    rw [e1, e2]
    by_cases hp : l % 2 = 0
    · rw [if_pos (by omega), if_pos (by omega)]
    · rw [if_neg (by omega), if_neg (by omega)]
theorem short_sum (t c r : Int) (xs : Nat → Int) (l : Nat) : sumN (shortB t c r xs) (2 + (4 + l)) = sumN (preB t c r xs) (8 + l) := by
  unfold sumN; rw [short_raw]
theorem of_four {s : Int} (h : 0 ≤ s ∧ s ≤ 65535) : (0 ≤ s / 256 ∧ s / 256 ≤ 255) ∧ (0 ≤ s % 256 ∧ s % 256 ≤ 255) := by omega
theorem putB_byte {t c r : Int} {xs : Nat → Int} {l : Nat} (hp : ∀ i, i < 8 + l → 0 ≤ preB t c r xs i ∧ preB t c r xs i ≤ 255) : ∀ i, i < 4 + (4 + l) → 0 ≤ putB t c r xs l i ∧ putB t c r xs l i ≤ 255 := by
  intro i hi
  have hs := sumN_bd _ _ hp
  have := of_four (s := putSum t c r xs l) (by unfold putSum; omega)
  unfold putB
  split
  · exact this.2
  · split
    · exact this.1
    · exact hp i (by omega)
theorem putErr_bad {t c : Int} {l : Nat} (h : ¬ ((0 ≤ t ∧ t ≤ 255) ∧ (0 ≤ c ∧ c ≤ 255) ∧ l ≤ 65527)) : putErr t c l = 1 := by
  unfold putErr byteful
  rw [if_neg]
  simp only [Bool.and_eq_true, decide_eq_true_eq]
  omega
theorem putM_ok2 {w w' : World} {t c r : Int} {xs : Nat → Int} {l lb cb : Nat} {ob : Option Addr} (he : putErr t c l = 0) (hlb : lb = 8 + l) (hj : Junk w w') (hb : Bts w' ob lb cb (putB t c r xs l)) : PutM w t c r xs l (.returned (.tuple #[.slice ob lb cb, .int .i64 0])) w' := by
  subst hlb; exact putM_ok he hj hb
theorem own_cast {B : Nat} {w : World} {e : TypeId} {size : Nat} {oa : Option Addr} {cap n : Nat} {a b : List Value} (h : Own B w e size oa cap n a) (hab : a = b) : Own B w e size oa cap n b := hab ▸ h
theorem rof_put (t c r s : Int) (ob : Option Addr) (l cap : Nat) (xs : Nat → Int) (w : World) (hl : l ≤ 100000) (hs : s = putSum t c r xs l) (hB : Bts w ob (2 + (4 + l)) cap (shortB t c r xs)) :
    Calls Try.prog 51 #[.slice ob (2 + (4 + l)) cap] w fun e w' => e = .returned (.int .u16 s) ∧ Junk w w' := by
  have h := rof_any ob (2 + (4 + l)) cap (shortB t c r xs) w (by omega) hB.at_ hB.byte
  rwa [show 65535 - sumN (shortB t c r xs) (2 + (4 + l)) = s from by rw [short_sum, hs, putSum]] at h
set_option maxHeartbeats 1600000 in
theorem rput_good (t c r : Int) (oa : Option Addr) (l ca : Nat) (xs : Nat → Int) (w : World) (hl : l ≤ 100000000) (hr : 0 ≤ r ∧ r ≤ 4294967295) (hB : Bts w oa l ca xs)
    (h1 : 0 ≤ t) (h2 : t ≤ 255) (h3 : 0 ≤ c) (h4 : c ≤ 255) (h9 : l ≤ 65527) :
    Calls Try.prog 20 #[.agg #[.int .i64 t, .int .i64 c, .int .u32 r, .slice oa l ca]] w (PutM w t c r xs l) := by
  have HB := Lib.hid hB
  clear hB
  have Hp := Lib.hid (preB_byte ⟨h1, h2⟩ ⟨h3, h4⟩ hr HB.out.byte)
  have Ht := Lib.hid (tailB_byte hr HB.out.byte)
  have Hs := Lib.hid (shortB_byte ⟨h1, h2⟩ ⟨h3, h4⟩ hr HB.out.byte)
  have q0 := wrapk_u8 t (by omega) (by omega)
  have q1 := wrapk_u8 c (by omega) (by omega)
  have q4 : IntKind.u8.wrap (r / 16777216) = r / 16777216 := wrapk_u8 _ (by omega) (by omega)
  have q5 : IntKind.u8.wrap (r / 65536 % 256) = r / 65536 % 256 := wrapk_u8 _ (by omega) (by omega)
  have q6 : IntKind.u8.wrap (r / 256 % 256) = r / 256 % 256 := wrapk_u8 _ (by omega) (by omega)
  have q7 : IntKind.u8.wrap (r % 256) = r % 256 := wrapk_u8 _ (by omega) (by omega)
  have he0 : putErr t c l = 0 := by simp [putErr, byteful, h1, h2, h3, h4, h9]
  have hs1 : 0 ≤ putSum t c r xs l ∧ putSum t c r xs l ≤ 65535 := by have := sumN_bd (preB t c r xs) (8 + l) Hp.out; unfold putSum; omega
  have Hpb := Lib.hid (putB_byte Hp.out)
  have Hpl := Lib.hid (putB_list t c r xs l)
  obtain ⟨s, hse⟩ : ∃ s, s = putSum t c r xs l := ⟨_, rfl⟩
  have Hse := Lib.hid hse
  rw [← hse] at hs1 Hpl
  clear hse
  have hs2 : 0 ≤ s := hs1.1
  have hs3 : s ≤ 65535 := hs1.2
  have Qt := Lib.hid (show IntKind.u16.wrap (s.tdiv 256) % 256 = s / 256 from by rw [Int.tdiv_eq_ediv_of_nonneg hs2, IntKind.wrap_u16]; omega)
  have q8 := wrapk_u8 (s / 256) (by omega) (by omega)
  have q9 := wrapk_u8 (s % 256) (by omega) (by omega)
  go_enter Try.func20, Try.ntmps20
  go_wp2_with (first
    | (at_builtin; (refine ap_own (W0 := w.alloc (.cells #[.int .i64 t, .int .i64 c, .int .u32 r, .slice oa l ca] 26)) rfl _ _ 22 rfl 5 (.int .u8 0) 1 1 (by kernel_rfl) rfl (by decide) Try.underlying22 (by (repeat (first | with_reducible exact Junk.refl _ | with_reducible exact Junk.app _ _ _ _ _ | apply Junk.alloc | apply Junk.junk | apply Junk.drew | apply Junk.drewN))) _ _ 4 _ rfl (own_lit _ _ _ _ _ (by simp) (by simp) rfl (by decide)) ob (4 + l) cap1 rfl ((List.range (4 + l)).map fun i => .int .u8 (tailB r xs i)) (by simp) (Hbts.out.at_.on (by (repeat (first | with_reducible exact Junk.refl _ | with_reducible exact Junk.app _ _ _ _ _ | apply Junk.alloc | apply Junk.junk | apply Junk.drew | apply Junk.drewN)))).src (fun h => Hbts.out.nil h) (by simp [Value.oneCell']) (by simp only [maxLen]; omega) (by omega) ?_; intro ob3 cap3 os3 d3 hown hnn; rw [Qt.out] at hown; have hown3 := own_cast hown Hpl.out; have Hbts3 := Lib.hid (own_bts hown3 Hpb.out); clear hown hown3 hnn))
    | (at_builtin; (refine ap_own (W0 := (w.alloc (.cells #[.int .i64 t, .int .i64 c, .int .u32 r, .slice oa l ca] 26)).junk os1 d1) rfl _ _ 22 rfl 5 (.int .u8 0) 1 1 (by kernel_rfl) rfl (by decide) Try.underlying22 (by (repeat (first | with_reducible exact Junk.refl _ | with_reducible exact Junk.app _ _ _ _ _ | apply Junk.alloc | apply Junk.junk | apply Junk.drew | apply Junk.drewN))) _ _ 2 _ rfl (own_lit _ _ _ _ _ (by simp) (by simp) rfl (by decide)) ob (4 + l) cap1 rfl ((List.range (4 + l)).map fun i => .int .u8 (tailB r xs i)) (by simp) (Hbts.out.at_.on (by (repeat (first | with_reducible exact Junk.refl _ | with_reducible exact Junk.app _ _ _ _ _ | apply Junk.alloc | apply Junk.junk | apply Junk.drew | apply Junk.drewN)))).src (fun h => Hbts.out.nil h) (by simp [Value.oneCell']) (by simp only [maxLen]; omega) (by omega) ?_; intro ob2 cap2 os2 d2 hown hnn; have hown2 := own_cast hown (shortB_list t c r xs l); rw [World.junk_junk] at hown2; have Hbts2 := Lib.hid (own_bts hown2 Hs.out); clear hown hown2 hnn))
    | (at_builtin; (refine ap_own (W0 := w.alloc (.cells #[.int .i64 t, .int .i64 c, .int .u32 r, .slice oa l ca] 26)) rfl _ _ 22 rfl 5 (.int .u8 0) 1 1 (by kernel_rfl) rfl (by decide) Try.underlying22 (by (repeat (first | with_reducible exact Junk.refl _ | with_reducible exact Junk.app _ _ _ _ _ | apply Junk.alloc | apply Junk.junk | apply Junk.drew | apply Junk.drewN))) _ _ 4 _ rfl (own_lit _ _ _ _ _ (by simp) (by simp) rfl (by decide)) _ l ca rfl ((List.range l).map fun i => .int .u8 (xs i)) (by simp) (HB.out.at_.on (by (repeat (first | with_reducible exact Junk.refl _ | with_reducible exact Junk.app _ _ _ _ _ | apply Junk.alloc | apply Junk.junk | apply Junk.drew | apply Junk.drewN)))).src (fun h => HB.out.nil h) (by simp [Value.oneCell']) (by simp only [maxLen]; omega) (by omega) ?_; intro ob cap1 os1 d1 hown hnn; have hown1 := own_cast hown (tailB_list r xs l); have Hbts := Lib.hid (own_bts hown1 Ht.out); clear hown hown1 hnn))
    | (go_at_call 51; refine (rof_put t c r s _ l _ xs _ (by omega) Hse.out Hbts2.out).mono ?_; rintro e w' ⟨rfl, ⟨osj, dj, rfl⟩⟩))
  go_returns
  exact putM_ok2 he0 (by omega) (by (repeat (first | with_reducible exact Junk.refl _ | apply Junk.alloc | apply Junk.junk))) Hbts3.out
set_option maxHeartbeats 400000 in
theorem rput_any (t c r : Int) (oa : Option Addr) (l ca : Nat) (xs : Nat → Int) (w : World) (hl : l ≤ 100000000) (hr : 0 ≤ r ∧ r ≤ 4294967295) (hB : Bts w oa l ca xs) :
    Calls Try.prog 20 #[.agg #[.int .i64 t, .int .i64 c, .int .u32 r, .slice oa l ca]] w (PutM w t c r xs l) := by
  have HB := Lib.hid hB
  clear hB
  by_cases h1 : 0 ≤ t
  · by_cases h2 : t ≤ 255
    · by_cases h3 : 0 ≤ c
      · by_cases h4 : c ≤ 255
        · by_cases h9 : l ≤ 65527
          · exact rput_good t c r oa l ca xs w hl hr HB.out h1 h2 h3 h4 h9
          · have h9' : l > 65527 := by omega
            go_enter Try.func20, Try.ntmps20
            go_wp2
            go_returns
            exact putM_bad (putErr_bad (by omega)) (by (repeat (first | with_reducible exact Junk.refl _ | with_reducible exact Junk.app _ _ _ _ _ | apply Junk.alloc | apply Junk.junk | apply Junk.drew | apply Junk.drewN)))
        · have h4' : 255 < c := by omega
          go_enter Try.func20, Try.ntmps20
          go_wp2
          go_returns
          exact putM_bad (putErr_bad (by omega)) (by (repeat (first | with_reducible exact Junk.refl _ | with_reducible exact Junk.app _ _ _ _ _ | apply Junk.alloc | apply Junk.junk | apply Junk.drew | apply Junk.drewN)))
      · have h3' : c < 0 := by omega
        go_enter Try.func20, Try.ntmps20
        go_wp2
        go_returns
        exact putM_bad (putErr_bad (by omega)) (by (repeat (first | with_reducible exact Junk.refl _ | with_reducible exact Junk.app _ _ _ _ _ | apply Junk.alloc | apply Junk.junk | apply Junk.drew | apply Junk.drewN)))
    · have h2' : 255 < t := by omega
      go_enter Try.func20, Try.ntmps20
      go_wp2
      go_returns
      exact putM_bad (putErr_bad (by omega)) (by (repeat (first | with_reducible exact Junk.refl _ | with_reducible exact Junk.app _ _ _ _ _ | apply Junk.alloc | apply Junk.junk | apply Junk.drew | apply Junk.drewN)))
  · have h1' : t < 0 := by omega
    go_enter Try.func20, Try.ntmps20
    go_wp2
    go_returns
    exact putM_bad (putErr_bad (by omega)) (by (repeat (first | with_reducible exact Junk.refl _ | with_reducible exact Junk.app _ _ _ _ _ | apply Junk.alloc | apply Junk.junk | apply Junk.drew | apply Junk.drewN)))
end Go.Proofs.Yteegeckkfdeccaa
