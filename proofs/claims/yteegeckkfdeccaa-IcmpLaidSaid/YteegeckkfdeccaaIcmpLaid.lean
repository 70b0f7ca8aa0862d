/- The law IcmpLaid: what is put has a sum that fits, its type and code ahead, and its body behind eight bytes. -/
import Derived.Test.YteegeckkfdeccaaIcmpAwake
import Derived.Test.YteegeckkfdeccaaLift2
set_option linter.unusedVariables false
set_option linter.unusedSimpArgs false
namespace Go.Proofs.Yteegeckkfdeccaa
open Go.RowKit
theorem putB_raw (t c r : Int) (xs : Nat → Int) (l : Nat) : ∀ k, rawN (putB t c r xs l) (4 + k) = rawN (preB t c r xs) (4 + k) + putSum t c r xs l
  | 0 => by
    show rawN (putB t c r xs l) 4 = rawN (preB t c r xs) 4 + _
    simp [rawN, putB, preB]
    omega
  | k + 1 => by
    have h := putB_raw t c r xs l k
    show rawN (putB t c r xs l) ((4 + k) + 1) = rawN (preB t c r xs) ((4 + k) + 1) + _
    simp only [rawN]
    rw [h]
    have e : putB t c r xs l (4 + k) = preB t c r xs (4 + k) := by unfold putB; rw [if_neg (by omega), if_neg (by omega)]
    rw [e]
    omega
theorem fold_fits {n : Int} (h : 0 ≤ n) : foldI (n + (65535 - foldI n)) = 65535 := by
  by_cases h0 : n = 0
  · subst h0; decide
  · unfold foldI
    rw [if_neg h0, if_neg (by omega)]
    omega
theorem putB_fits {t c r : Int} {xs : Nat → Int} {l : Nat} (hp : ∀ i, i < 8 + l → 0 ≤ preB t c r xs i ∧ preB t c r xs i ≤ 255) : sumN (putB t c r xs l) (8 + l) = 65535 := by
  have h := putB_raw t c r xs l (4 + l)
  rw [show 4 + (4 + l) = 8 + l from by omega] at h
  unfold sumN
  rw [h]
  exact fold_fits (rawN_bd _ _ hp).1
theorem asks_only (t : Int) : (asksB t = true ∧ answersB t = false ∧ errorB t = false) ∨ (asksB t = false ∧ answersB t = true ∧ errorB t = false) ∨ (asksB t = false ∧ answersB t = false) := by
  simp only [asksB, answersB, errorB, decide_eq_true_eq, decide_eq_false_iff_not]
  omega
theorem putErr_zero {t c : Int} {l : Nat} (h : putErr t c l = 0) : (0 ≤ t ∧ t ≤ 255) ∧ (0 ≤ c ∧ c ≤ 255) := by
  unfold putErr at h
  split at h
  · rename_i h1
    simp only [Bool.and_eq_true, byteful, decide_eq_true_eq] at h1
    exact ⟨h1.1.1, h1.1.2⟩
  · cases h
theorem bts_sub' {w : World} {oa : Option Addr} {n c : Nat} {xs : Nat → Int} (h : Bts w oa n c xs) (i l : Nat) (hij : i ≤ l) (hj : l ≤ n) (b off : Nat) (ho : oa = some ⟨b, off, none⟩) :
    Bts w (if c = i then some ⟨b, off, none⟩ else some ⟨b, off + i, none⟩) (l - i) (c - i) (fun k => xs (i + k)) := by
  subst ho; exact bts_sub h i l hij hj
set_option maxHeartbeats 1000000 in
theorem icmpLaid_walk (t c r : Int) (oa : Option Addr) (l ca : Nat) (xs : Nat → Int) (w : World) (hl : l ≤ 9223372036854775807) (hr : 0 ≤ r ∧ r ≤ 4294967295) (hB : Bts w oa l ca xs) :
    Calls Try.prog 5 #[.agg #[.int .i64 t, .int .i64 c, .int .u32 r, .slice oa l ca]] w fun e w' => e = .returned (.bool true) ∧ Junk w w' := by
  have HB := Lib.hid hB
  clear hB
  by_cases h9 : l ≤ 3000
  · by_cases h0 : putErr t c l = 0
    · obtain ⟨ht, hc⟩ := putErr_zero h0
      have Hp := Lib.hid (preB_byte ht hc hr HB.out.byte)
      have hf := putB_fits Hp.out
      have p0 : putB t c r xs l 0 = t := rfl
      have p1 : putB t c r xs l 1 = c := rfl
      have hsm : sameN (fun i => putB t c r xs l (8 + i)) xs l l = true := by
        simp only [sameN, decide_eq_true_eq, true_and]
        intro i _
        rw [Nat.add_comm]
        rfl
      have qw := wrapk_i64 (8 + (l : Int)) (by omega) (by omega)
      have j0 : (0 : Int) < 8 + (l : Int) := by omega
      have j1 : (1 : Int) < 8 + (l : Int) := by omega
      have j0' : 0 < 8 + l := by omega
      have j8 : (8 : Int) ≤ 8 + (l : Int) := by omega
      have j1' : 1 < 8 + l := by omega
      have q0 := wrapk_i64 t (by omega) (by omega)
      have q1 := wrapk_i64 c (by omega) (by omega)
      rcases asks_only t with ⟨a1, a2, a3⟩ | ⟨a1, a2, a3⟩ | ⟨a1, a2⟩
      all_goals
        go_enter Try.func5, Try.ntmps5
        go_wp2_with (first | (go_at_call 15; refine (awake06_any _).mono ?_; rintro e w' ⟨rfl, ⟨osj, dj, rfl⟩⟩))
        refine wp_region_junk (by kernel_rfl) (by kernel_rfl) ?_; (repeat (refine wpQuiet_step (fun K hK => ?_); go_simp; first | (refine hK _ ?_; clear hK K) | (apply Exists.intro; refine ⟨fun _ => ?_, hK _ ?_⟩; (first | (go_at_call 23; first | with_reducible exact Calls.junk_of5 (asks_any _ _ _ _ _) | with_reducible exact Calls.junk_of4 (asks_any _ _ _ _ _) | with_reducible exact Calls.junk_of3 (asks_any _ _ _ _ _) | with_reducible exact Calls.junk_of2 (asks_any _ _ _ _ _) | exact Calls.junk_of (asks_any _ _ _ _ _)) | (go_at_call 24; first | with_reducible exact Calls.junk_of5 (answers_any _ _ _ _ _) | with_reducible exact Calls.junk_of4 (answers_any _ _ _ _ _) | with_reducible exact Calls.junk_of3 (answers_any _ _ _ _ _) | with_reducible exact Calls.junk_of2 (answers_any _ _ _ _ _) | exact Calls.junk_of (answers_any _ _ _ _ _)) | (go_at_call 25; first | with_reducible exact Calls.junk_of5 (error_any _ _ _ _ _) | with_reducible exact Calls.junk_of4 (error_any _ _ _ _ _) | with_reducible exact Calls.junk_of3 (error_any _ _ _ _ _) | with_reducible exact Calls.junk_of2 (error_any _ _ _ _ _) | exact Calls.junk_of (error_any _ _ _ _ _))); clear hK K))); refine wpQuiet_nil ?_; rintro _ ⟨⟨osq, dq⟩, rfl⟩
        go_wp2_with (first | (go_at_call 19; refine (put_any t c r oa l ca xs _ (by omega) hr (HB.out.on (by ((try simp only [World.junk_junk, Array.append_assoc]); (repeat (first | with_reducible exact Junk.refl _ | with_reducible exact Junk.app _ _ _ _ _ | with_reducible exact Junk.app2 _ _ _ _ _ _ | with_reducible exact Junk.app3 _ _ _ _ _ _ _ | with_reducible exact Junk.app4 _ _ _ _ _ _ _ _ | with_reducible exact Junk.app5 _ _ _ _ _ _ _ _ _ | apply Junk.alloc | apply Junk.junk | apply Junk.drew | apply Junk.drewN)))))).mono ?_; intro e w' hp; obtain ⟨ob, cb, rfl, ⟨osj2, dj2, rfl⟩, hb⟩ := hp.ok h0; clear hp; have Hb := Lib.hid hb; clear hb))
        have hs8 := bts_sub' Hb.out 8 (8 + l) (by omega) (Nat.le_refl _)
        obtain ⟨g, off, rfl, hgl, hc0⟩ := Hb.out.at_ 0 (by omega)
        obtain ⟨g', off', he, _, hc1⟩ := Hb.out.at_ 1 (by omega)
        cases he
        have hd0 := fun os d => (World.cell?_junk _ os d g _ hgl).trans hc0
        have hd1 := fun os d => (World.cell?_junk _ os d g _ hgl).trans hc1
        simp only [World.junk_junk, Array.append_assoc, Nat.add_zero, p0, p1] at hd0 hd1
        have hs9 := hs8 g off rfl
        rw [Nat.add_sub_cancel_left] at hs9
        have H8 := Lib.hid hs9
        clear hs8 hs9 hc0 hc1 hgl
        refine wp_region_junk (by kernel_rfl) (by kernel_rfl) ?_; (repeat (refine wpQuiet_step (fun K hK => ?_); go_simp; first | (refine hK _ ?_; clear hK K) | (apply Exists.intro; refine ⟨fun _ => ?_, hK _ ?_⟩; (first | (go_at_call 28; first | with_reducible exact Calls.junk_of5 (rsum_any _ (8 + l) _ (putB t c r xs l) _ (by omega) (Hb.out.at_.on (by ((try simp only [World.junk_junk, Array.append_assoc]); (repeat (first | with_reducible exact Junk.refl _ | with_reducible exact Junk.app _ _ _ _ _ | with_reducible exact Junk.app2 _ _ _ _ _ _ | with_reducible exact Junk.app3 _ _ _ _ _ _ _ | with_reducible exact Junk.app4 _ _ _ _ _ _ _ _ | with_reducible exact Junk.app5 _ _ _ _ _ _ _ _ _ | apply Junk.alloc | apply Junk.junk | apply Junk.drew | apply Junk.drewN))))) Hb.out.byte) | with_reducible exact Calls.junk_of4 (rsum_any _ (8 + l) _ (putB t c r xs l) _ (by omega) (Hb.out.at_.on (by ((try simp only [World.junk_junk, Array.append_assoc]); (repeat (first | with_reducible exact Junk.refl _ | with_reducible exact Junk.app _ _ _ _ _ | with_reducible exact Junk.app2 _ _ _ _ _ _ | with_reducible exact Junk.app3 _ _ _ _ _ _ _ | with_reducible exact Junk.app4 _ _ _ _ _ _ _ _ | with_reducible exact Junk.app5 _ _ _ _ _ _ _ _ _ | apply Junk.alloc | apply Junk.junk | apply Junk.drew | apply Junk.drewN))))) Hb.out.byte) | with_reducible exact Calls.junk_of3 (rsum_any _ (8 + l) _ (putB t c r xs l) _ (by omega) (Hb.out.at_.on (by ((try simp only [World.junk_junk, Array.append_assoc]); (repeat (first | with_reducible exact Junk.refl _ | with_reducible exact Junk.app _ _ _ _ _ | with_reducible exact Junk.app2 _ _ _ _ _ _ | with_reducible exact Junk.app3 _ _ _ _ _ _ _ | with_reducible exact Junk.app4 _ _ _ _ _ _ _ _ | with_reducible exact Junk.app5 _ _ _ _ _ _ _ _ _ | apply Junk.alloc | apply Junk.junk | apply Junk.drew | apply Junk.drewN))))) Hb.out.byte) | with_reducible exact Calls.junk_of2 (rsum_any _ (8 + l) _ (putB t c r xs l) _ (by omega) (Hb.out.at_.on (by ((try simp only [World.junk_junk, Array.append_assoc]); (repeat (first | with_reducible exact Junk.refl _ | with_reducible exact Junk.app _ _ _ _ _ | with_reducible exact Junk.app2 _ _ _ _ _ _ | with_reducible exact Junk.app3 _ _ _ _ _ _ _ | with_reducible exact Junk.app4 _ _ _ _ _ _ _ _ | with_reducible exact Junk.app5 _ _ _ _ _ _ _ _ _ | apply Junk.alloc | apply Junk.junk | apply Junk.drew | apply Junk.drewN))))) Hb.out.byte) | exact Calls.junk_of (rsum_any _ (8 + l) _ (putB t c r xs l) _ (by omega) (Hb.out.at_.on (by ((try simp only [World.junk_junk, Array.append_assoc]); (repeat (first | with_reducible exact Junk.refl _ | with_reducible exact Junk.app _ _ _ _ _ | with_reducible exact Junk.app2 _ _ _ _ _ _ | with_reducible exact Junk.app3 _ _ _ _ _ _ _ | with_reducible exact Junk.app4 _ _ _ _ _ _ _ _ | with_reducible exact Junk.app5 _ _ _ _ _ _ _ _ _ | apply Junk.alloc | apply Junk.junk | apply Junk.drew | apply Junk.drewN))))) Hb.out.byte)) | (go_at_call 21; first | with_reducible exact Calls.junk_of5 (rsame_any _ oa l _ l ca (fun i => putB t c r xs l (8 + i)) xs _ (by omega) (by omega) (H8.out.at_.on (by ((try simp only [World.junk_junk, Array.append_assoc]); (repeat (first | with_reducible exact Junk.refl _ | with_reducible exact Junk.app _ _ _ _ _ | with_reducible exact Junk.app2 _ _ _ _ _ _ | with_reducible exact Junk.app3 _ _ _ _ _ _ _ | with_reducible exact Junk.app4 _ _ _ _ _ _ _ _ | with_reducible exact Junk.app5 _ _ _ _ _ _ _ _ _ | apply Junk.alloc | apply Junk.junk | apply Junk.drew | apply Junk.drewN))))) (HB.out.at_.on (by ((try simp only [World.junk_junk, Array.append_assoc]); (repeat (first | with_reducible exact Junk.refl _ | with_reducible exact Junk.app _ _ _ _ _ | with_reducible exact Junk.app2 _ _ _ _ _ _ | with_reducible exact Junk.app3 _ _ _ _ _ _ _ | with_reducible exact Junk.app4 _ _ _ _ _ _ _ _ | with_reducible exact Junk.app5 _ _ _ _ _ _ _ _ _ | apply Junk.alloc | apply Junk.junk | apply Junk.drew | apply Junk.drewN)))))) | with_reducible exact Calls.junk_of4 (rsame_any _ oa l _ l ca (fun i => putB t c r xs l (8 + i)) xs _ (by omega) (by omega) (H8.out.at_.on (by ((try simp only [World.junk_junk, Array.append_assoc]); (repeat (first | with_reducible exact Junk.refl _ | with_reducible exact Junk.app _ _ _ _ _ | with_reducible exact Junk.app2 _ _ _ _ _ _ | with_reducible exact Junk.app3 _ _ _ _ _ _ _ | with_reducible exact Junk.app4 _ _ _ _ _ _ _ _ | with_reducible exact Junk.app5 _ _ _ _ _ _ _ _ _ | apply Junk.alloc | apply Junk.junk | apply Junk.drew | apply Junk.drewN))))) (HB.out.at_.on (by ((try simp only [World.junk_junk, Array.append_assoc]); (repeat (first | with_reducible exact Junk.refl _ | with_reducible exact Junk.app _ _ _ _ _ | with_reducible exact Junk.app2 _ _ _ _ _ _ | with_reducible exact Junk.app3 _ _ _ _ _ _ _ | with_reducible exact Junk.app4 _ _ _ _ _ _ _ _ | with_reducible exact Junk.app5 _ _ _ _ _ _ _ _ _ | apply Junk.alloc | apply Junk.junk | apply Junk.drew | apply Junk.drewN)))))) | with_reducible exact Calls.junk_of3 (rsame_any _ oa l _ l ca (fun i => putB t c r xs l (8 + i)) xs _ (by omega) (by omega) (H8.out.at_.on (by ((try simp only [World.junk_junk, Array.append_assoc]); (repeat (first | with_reducible exact Junk.refl _ | with_reducible exact Junk.app _ _ _ _ _ | with_reducible exact Junk.app2 _ _ _ _ _ _ | with_reducible exact Junk.app3 _ _ _ _ _ _ _ | with_reducible exact Junk.app4 _ _ _ _ _ _ _ _ | with_reducible exact Junk.app5 _ _ _ _ _ _ _ _ _ | apply Junk.alloc | apply Junk.junk | apply Junk.drew | apply Junk.drewN))))) (HB.out.at_.on (by ((try simp only [World.junk_junk, Array.append_assoc]); (repeat (first | with_reducible exact Junk.refl _ | with_reducible exact Junk.app _ _ _ _ _ | with_reducible exact Junk.app2 _ _ _ _ _ _ | with_reducible exact Junk.app3 _ _ _ _ _ _ _ | with_reducible exact Junk.app4 _ _ _ _ _ _ _ _ | with_reducible exact Junk.app5 _ _ _ _ _ _ _ _ _ | apply Junk.alloc | apply Junk.junk | apply Junk.drew | apply Junk.drewN)))))) | with_reducible exact Calls.junk_of2 (rsame_any _ oa l _ l ca (fun i => putB t c r xs l (8 + i)) xs _ (by omega) (by omega) (H8.out.at_.on (by ((try simp only [World.junk_junk, Array.append_assoc]); (repeat (first | with_reducible exact Junk.refl _ | with_reducible exact Junk.app _ _ _ _ _ | with_reducible exact Junk.app2 _ _ _ _ _ _ | with_reducible exact Junk.app3 _ _ _ _ _ _ _ | with_reducible exact Junk.app4 _ _ _ _ _ _ _ _ | with_reducible exact Junk.app5 _ _ _ _ _ _ _ _ _ | apply Junk.alloc | apply Junk.junk | apply Junk.drew | apply Junk.drewN))))) (HB.out.at_.on (by ((try simp only [World.junk_junk, Array.append_assoc]); (repeat (first | with_reducible exact Junk.refl _ | with_reducible exact Junk.app _ _ _ _ _ | with_reducible exact Junk.app2 _ _ _ _ _ _ | with_reducible exact Junk.app3 _ _ _ _ _ _ _ | with_reducible exact Junk.app4 _ _ _ _ _ _ _ _ | with_reducible exact Junk.app5 _ _ _ _ _ _ _ _ _ | apply Junk.alloc | apply Junk.junk | apply Junk.drew | apply Junk.drewN)))))) | exact Calls.junk_of (rsame_any _ oa l _ l ca (fun i => putB t c r xs l (8 + i)) xs _ (by omega) (by omega) (H8.out.at_.on (by ((try simp only [World.junk_junk, Array.append_assoc]); (repeat (first | with_reducible exact Junk.refl _ | with_reducible exact Junk.app _ _ _ _ _ | with_reducible exact Junk.app2 _ _ _ _ _ _ | with_reducible exact Junk.app3 _ _ _ _ _ _ _ | with_reducible exact Junk.app4 _ _ _ _ _ _ _ _ | with_reducible exact Junk.app5 _ _ _ _ _ _ _ _ _ | apply Junk.alloc | apply Junk.junk | apply Junk.drew | apply Junk.drewN))))) (HB.out.at_.on (by ((try simp only [World.junk_junk, Array.append_assoc]); (repeat (first | with_reducible exact Junk.refl _ | with_reducible exact Junk.app _ _ _ _ _ | with_reducible exact Junk.app2 _ _ _ _ _ _ | with_reducible exact Junk.app3 _ _ _ _ _ _ _ | with_reducible exact Junk.app4 _ _ _ _ _ _ _ _ | with_reducible exact Junk.app5 _ _ _ _ _ _ _ _ _ | apply Junk.alloc | apply Junk.junk | apply Junk.drew | apply Junk.drewN)))))))); clear hK K))); refine wpQuiet_nil ?_; rintro _ ⟨⟨osq, dq⟩, rfl⟩
        go_wp2
        all_goals (go_ret; exact ⟨ret_bool rfl, by ((try simp only [World.junk_junk, Array.append_assoc]); (repeat (first | with_reducible exact Junk.refl _ | with_reducible exact Junk.app _ _ _ _ _ | with_reducible exact Junk.app2 _ _ _ _ _ _ | with_reducible exact Junk.app3 _ _ _ _ _ _ _ | with_reducible exact Junk.app4 _ _ _ _ _ _ _ _ | with_reducible exact Junk.app5 _ _ _ _ _ _ _ _ _ | apply Junk.alloc | apply Junk.junk | apply Junk.drew | apply Junk.drewN)))⟩)
    · rcases asks_only t with ⟨a1, a2, a3⟩ | ⟨a1, a2, a3⟩ | ⟨a1, a2⟩
      all_goals
        go_enter Try.func5, Try.ntmps5
        go_wp2_with (first | (go_at_call 15; refine (awake06_any _).mono ?_; rintro e w' ⟨rfl, ⟨osj, dj, rfl⟩⟩))
        refine wp_region_junk (by kernel_rfl) (by kernel_rfl) ?_; (repeat (refine wpQuiet_step (fun K hK => ?_); go_simp; first | (refine hK _ ?_; clear hK K) | (apply Exists.intro; refine ⟨fun _ => ?_, hK _ ?_⟩; (first | (go_at_call 23; first | with_reducible exact Calls.junk_of5 (asks_any _ _ _ _ _) | with_reducible exact Calls.junk_of4 (asks_any _ _ _ _ _) | with_reducible exact Calls.junk_of3 (asks_any _ _ _ _ _) | with_reducible exact Calls.junk_of2 (asks_any _ _ _ _ _) | exact Calls.junk_of (asks_any _ _ _ _ _)) | (go_at_call 24; first | with_reducible exact Calls.junk_of5 (answers_any _ _ _ _ _) | with_reducible exact Calls.junk_of4 (answers_any _ _ _ _ _) | with_reducible exact Calls.junk_of3 (answers_any _ _ _ _ _) | with_reducible exact Calls.junk_of2 (answers_any _ _ _ _ _) | exact Calls.junk_of (answers_any _ _ _ _ _)) | (go_at_call 25; first | with_reducible exact Calls.junk_of5 (error_any _ _ _ _ _) | with_reducible exact Calls.junk_of4 (error_any _ _ _ _ _) | with_reducible exact Calls.junk_of3 (error_any _ _ _ _ _) | with_reducible exact Calls.junk_of2 (error_any _ _ _ _ _) | exact Calls.junk_of (error_any _ _ _ _ _))); clear hK K))); refine wpQuiet_nil ?_; rintro _ ⟨⟨osq, dq⟩, rfl⟩
        go_wp2_with (first | (go_at_call 19; refine (put_any t c r oa l ca xs _ (by omega) hr (HB.out.on (by ((try simp only [World.junk_junk, Array.append_assoc]); (repeat (first | with_reducible exact Junk.refl _ | with_reducible exact Junk.app _ _ _ _ _ | with_reducible exact Junk.app2 _ _ _ _ _ _ | with_reducible exact Junk.app3 _ _ _ _ _ _ _ | with_reducible exact Junk.app4 _ _ _ _ _ _ _ _ | with_reducible exact Junk.app5 _ _ _ _ _ _ _ _ _ | apply Junk.alloc | apply Junk.junk | apply Junk.drew | apply Junk.drewN)))))).mono ?_; intro e w' hp; obtain ⟨rfl, ⟨osj2, dj2, rfl⟩⟩ := hp.bad h0; clear hp))
        go_ret
        exact ⟨ret_bool rfl, by ((try simp only [World.junk_junk, Array.append_assoc]); (repeat (first | with_reducible exact Junk.refl _ | with_reducible exact Junk.app _ _ _ _ _ | with_reducible exact Junk.app2 _ _ _ _ _ _ | with_reducible exact Junk.app3 _ _ _ _ _ _ _ | with_reducible exact Junk.app4 _ _ _ _ _ _ _ _ | with_reducible exact Junk.app5 _ _ _ _ _ _ _ _ _ | apply Junk.alloc | apply Junk.junk | apply Junk.drew | apply Junk.drewN)))⟩
  · have h9' : l > 3000 := by omega
    go_enter Try.func5, Try.ntmps5
    go_wp2_with (first | (go_at_call 15; refine (awake06_any _).mono ?_; rintro e w' ⟨rfl, ⟨osj, dj, rfl⟩⟩))
    go_ret
    exact ⟨ret_bool rfl, by ((try simp only [World.junk_junk, Array.append_assoc]); (repeat (first | with_reducible exact Junk.refl _ | with_reducible exact Junk.app _ _ _ _ _ | with_reducible exact Junk.app2 _ _ _ _ _ _ | with_reducible exact Junk.app3 _ _ _ _ _ _ _ | with_reducible exact Junk.app4 _ _ _ _ _ _ _ _ | with_reducible exact Junk.app5 _ _ _ _ _ _ _ _ _ | apply Junk.alloc | apply Junk.junk | apply Junk.drew | apply Junk.drewN)))⟩

theorem icmpLaid_core (W : World) (base : Nat) (v0 : Value) (a0 : Arg Try.prog W base 26 v0) :
    Calls Try.prog 5 #[v0] W fun e W' => e = .returned (.bool true) ∧ Junk W W' := by
  obtain ⟨cs_m, rfl, h_m⟩ := a0.struct Try.underlying26
  obtain ⟨hl_m, hf_m⟩ := h_m.fields1 Try.underlying26 (by kernel_rfl) (n := 4) (by kernel_rfl)
  obtain ⟨m_Type, lm0, e_m0⟩ : ∃ x l, cs_m = x :: l := by cases cs_m with | nil => simp at hl_m | cons x l => exact ⟨x, l, rfl⟩
  subst e_m0
  obtain ⟨m_Code, lm1, e_m1⟩ : ∃ x l, lm0 = x :: l := by cases lm0 with | nil => simp at hl_m | cons x l => exact ⟨x, l, rfl⟩
  subst e_m1
  obtain ⟨m_Rest, lm2, e_m2⟩ : ∃ x l, lm1 = x :: l := by cases lm1 with | nil => simp at hl_m | cons x l => exact ⟨x, l, rfl⟩
  subst e_m2
  obtain ⟨m_Body, lm3, e_m3⟩ : ∃ x l, lm2 = x :: l := by cases lm2 with | nil => simp at hl_m | cons x l => exact ⟨x, l, rfl⟩
  subst e_m3
  obtain rfl : lm3 = [] := by simpa using hl_m
  have f_m0 : Cells Try.prog W 3 [m_Type] := hf_m 0 _ rfl
  have f_m1 : Cells Try.prog W 3 [m_Code] := hf_m 1 _ rfl
  have f_m2 : Cells Try.prog W 24 [m_Rest] := hf_m 2 _ rfl
  have f_m3 : Cells Try.prog W 22 [m_Body] := hf_m 3 _ rfl
  clear hf_m hl_m
  obtain ⟨m_Type, e_m_Type, w_m_Type⟩ := f_m0.int Try.underlying3; cases e_m_Type
  obtain ⟨m_Code, e_m_Code, w_m_Code⟩ := f_m1.int Try.underlying3; cases e_m_Code
  obtain ⟨m_Rest, e_m_Rest, w_m_Rest⟩ := f_m2.int Try.underlying24; cases e_m_Rest
  obtain ⟨m_Body_a, m_Body_l, m_Body_c, m_Body, e_m_Body, lc_m_Body, cm_m_Body, S_m_Body, w_m_Body⟩ := f_m3.ints Try.underlying22 Try.underlying5 (by kernel_rfl); cases e_m_Body
  have hlm : maxLen = 9223372036854775807 := rfl
  exact icmpLaid_walk m_Type m_Code m_Rest m_Body_a m_Body_l m_Body_c m_Body W (by omega) (bounds_u32 w_m_Rest) ⟨S_m_Body, fun i hi => bounds_u8 (w_m_Body i hi), Cells.nil_slice Try.underlying22 f_m3, lc_m_Body, cm_m_Body⟩
set_option maxRecDepth 100000 in
theorem icmpLaid_lifted (os : Os) (started : os.Started) (H : Type) (enc : TypeId × Value → H) :
    ReturnsInHanded {} Try.checked os 5 .any (Rows.icmpLaidSpec.pre6 enc Try.prog Try.f5 Rows.icmpLaidRow.domain false) (Rows.icmpLaidSpec.post enc Try.prog Try.f5 false true false false) := by
  refine returnsInHanded_of_change (C := Try.checked) (by kernel_rfl) started (by kernel_rfl) Try.func5
    (ChangeSpec.witness6 (enc := enc) (C := Try.checked) false ⟨#[], #[.agg #[.int .i64 0, .int .i64 0, .int .u32 0, .slice none 0 0]], []⟩ 8 (by kernel_rfl) (by kernel_rfl) (by kernel_rfl) (by kernel_rfl)) ?_
  intro W base args ds gs before hval hW _ _
  obtain ⟨p, q, hA, _, _, _, _⟩ := id hW
  have hargs : Args Try.prog W base Try.f5.params.toList args.toList := args_of (fun j t v h1 h2 => hval j t v (by simpa using h1) (by simpa using h2)) hA
  rw [Try.params5] at hargs
  obtain ⟨v0, l0, e0, a0, r0⟩ := args_cons hargs
  have hn := args_nil r0
  have he : args = #[v0] := by
    apply Array.ext'
    simp only [e0, hn]
  subst he
  exact (icmpLaid_core W base v0 a0).mono fun e W' ⟨he, hj⟩ => ⟨_, he, post_true (tb := 4) (by kernel_rfl) (by kernel_rfl) rfl (by kernel_rfl) rfl hW (fun hg hl => by
    subst hg
    match ds, hl with
    | [_], _ => exact ⟨rfl, rfl, rfl⟩) hj⟩
theorem icmpLaid_holds : Rows.IcmpLaidSaid :=
  OpenClaim.holds_of_wide 5 Try.f5 rfl rfl rfl rfl rfl rfl rfl ⟨rfl, rfl, rfl, rfl, rfl⟩ rfl rfl rfl rfl rfl (by kernel_rfl) Try.func5 (by kernel_rfl)
    (of_decide_eq_true (by kernel_rfl)) (by unfold Func.isWrapper; rw [if_neg (of_decide_eq_false (by kernel_rfl))]; exact ⟨rfl, rfl⟩)
    (fun os started H enc _ => icmpLaid_lifted os started H enc)

end Go.Proofs.Yteegeckkfdeccaa
