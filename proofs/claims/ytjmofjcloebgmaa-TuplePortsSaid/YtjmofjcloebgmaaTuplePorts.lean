/- The law TuplePorts: the tuple of a datagram, and of a segment, that was put has the ports that were given; with other addresses there is none. -/
import Derived.Test.YtjmofjcloebgmaaTupH
import Derived.Test.YtjmofjcloebgmaaLift2
set_option linter.unusedVariables false
set_option maxRecDepth 100000
set_option linter.unusedSimpArgs false
namespace Go.Proofs.Ytjmofjcloebgmaa
open Go.RowKit
theorem ports_s2 {src x s2 : Int} (h1 : 0 ≤ src ∧ src ≤ 4294967295) (hx : 0 ≤ x ∧ x ≤ 255) (h : bits .xor .u32 src x = s2) : (0 ≤ s2 ∧ s2 ≤ 4294967295) ∧ s2 / 256 = src / 256 ∧ (x = 0 → s2 = src) ∧ (x ≠ 0 → s2 ≠ src) := by
  rw [u32_xor src x h1.1 (by omega) hx.1 (by omega)] at h
  obtain ⟨k1, k2⟩ := xor_low src.toNat x.toNat (by omega)
  have : src.toNat ^^^ x.toNat < 2 ^ 32 := Nat.xor_lt_two_pow (by omega) (by omega)
  refine ⟨by omega, by omega, fun h0 => ?_, fun h0 => ?_⟩
  · subst h0
    rw [show (0 : Int).toNat = 0 from rfl, Nat.xor_zero] at h
    omega
  · have := k2 (by omega)
    omega
theorem of_ok {P src dst : Int} {n : Nat} {ys : Nat → Int} (h1 : 0 ≤ src ∧ src ≤ 4294967295) (h2 : 0 ≤ dst ∧ dst ≤ 4294967295) (hn : n ≤ 100) {T : Tup} (he : ofErr false 0 P src dst ys n = 0) (ht : ofTup false 0 P src dst ys n = T) (ob : Option Addr) (cb : Nat) (w : World) (hb : Bts w ob n cb ys) :
    Calls Try.prog 33 #[.agg #[.int .i64 0, .int .i64 0, .bool false, .bool false, .int .i64 0, .int .i64 0, .int .i64 P, .int .u32 src, .int .u32 dst, .slice none 0 0, .slice ob n cb]] w fun e w' => e = .returned (.tuple #[T.val, .int .i64 0]) ∧ Junk w w' := by
  have := tup_of_any (.int .i64 0) (.int .i64 0) (.bool false) (.int .i64 0) (.slice none 0 0) false 0 P src dst ob n cb ys w h1 h2 (by omega) hb
  rw [he, ht] at this
  exact this
theorem of_err5 {P src dst : Int} {n : Nat} {ys : Nat → Int} (h1 : 0 ≤ src ∧ src ≤ 4294967295) (h2 : 0 ≤ dst ∧ dst ≤ 4294967295) (hn : n ≤ 100) (he : ofErr false 0 P src dst ys n = 5) (ob : Option Addr) (cb : Nat) (w : World) (hb : Bts w ob n cb ys) :
    Calls Try.prog 33 #[.agg #[.int .i64 0, .int .i64 0, .bool false, .bool false, .int .i64 0, .int .i64 0, .int .i64 P, .int .u32 src, .int .u32 dst, .slice none 0 0, .slice ob n cb]] w fun e w' => e = .returned (.tuple #[.agg #[.int .i64 0, .int .u32 0, .int .i64 0, .int .u32 0, .int .i64 0], .int .i64 5]) ∧ Junk w w' := by
  have := tup_of_any (.int .i64 0) (.int .i64 0) (.bool false) (.int .i64 0) (.slice none 0 0) false 0 P src dst ob n cb ys w h1 h2 (by omega) hb
  rw [show ofTup false 0 P src dst ys n = ⟨0, 0, 0, 0, 0⟩ by unfold ofTup; rw [he]; rfl, he] at this
  exact this
theorem dg_put (src dst sp dp : Int) (w : World) (h1 : 0 ≤ src ∧ src ≤ 4294967295) (h2 : 0 ≤ dst ∧ dst ≤ 4294967295) (hs : 0 ≤ sp ∧ sp ≤ 65535) (hd : 0 ≤ dp ∧ dp ≤ 65535) :
    Calls Try.prog 42 #[.int .u32 src, .int .u32 dst, .agg #[.int .i64 sp, .int .i64 dp, .bool false, .slice none 0 0]] w fun e w' => ∃ (ob : Option Addr) (cb : Nat), e = .returned (.tuple #[.slice ob 8 cb, .int .i64 0]) ∧ Junk w w' ∧ Bts w' ob 8 cb (dgB src dst sp dp) :=
  uput_any src dst sp dp none 0 0 (fun _ => 0) w h1 h2 hs hd (by omega) (bts_nil _ _)
theorem syn_put (src dst sp dp : Int) (w : World) (h1 : 0 ≤ src ∧ src ≤ 4294967295) (h2 : 0 ≤ dst ∧ dst ≤ 4294967295) (hs : 0 ≤ sp ∧ sp ≤ 65535) (hd : 0 ≤ dp ∧ dp ≤ 65535) :
    Calls Try.prog 18 #[.int .u32 src, .int .u32 dst, .agg #[.int .i64 sp, .int .i64 dp, .int .u32 0, .int .u32 0, .int .i64 2, .int .i64 0, .int .i64 0, .slice none 0 0, .slice none 0 0]] w fun e w' => ∃ (ob : Option Addr) (cb : Nat), e = .returned (.tuple #[.slice ob 20 cb, .int .i64 0]) ∧ Junk w w' ∧ Bts w' ob 20 cb (segOf src dst (synTc sp dp)) := by
  have hM := syn_may hs hd
  refine (tput_any src dst (synTc sp dp) [] 0 none none 0 0 w h1 h2 rfl rfl (by omega) (zeroTc_at w) (fun f hf => by cases hf) (Nat.zero_le _) syn_wf).mono fun e w' hp => ?_
  obtain ⟨o1, c1, rfl, hj, hb, _⟩ := hp.ok (tcMay_iff.2 hM)
  rw [syn_sz] at hb
  exact ⟨o1, c1, by rw [syn_sz], hj, hb⟩
set_option maxHeartbeats 4000000 in
theorem tuplePorts_dg (src dst sp dp x : Int) (w : World) (h1 : 0 ≤ src ∧ src ≤ 4294967295) (h2 : 0 ≤ dst ∧ dst ≤ 4294967295) (hs : 0 ≤ sp ∧ sp ≤ 65535) (hd : 0 ≤ dp ∧ dp ≤ 65535) (hx : 0 ≤ x ∧ x ≤ 255) : Calls Try.prog 12 #[.int .u32 src, .int .u32 dst, .int .u16 sp, .int .u16 dp, .bool false, .int .u8 x] w fun e w' => e = .returned (.bool true) ∧ Junk w w' := by
  have HPU := Lib.hid (fun w1 => dg_put src dst sp dp w1 h1 h2 hs hd)
  have HOF := Lib.hid (fun (ob : Option Addr) (cb : Nat) (w1 : World) (hb : Bts w1 ob 8 cb (dgB src dst sp dp)) => of_ok h1 h2 (by omega) (dg_err h1 h2 hs hd) (dg_tup h1 h2 hs hd) ob cb w1 hb)
  obtain ⟨s2, hs2⟩ : ∃ s, bits .xor .u32 src x = s := ⟨_, rfl⟩
  obtain ⟨k1, k2, k3, k4⟩ := ports_s2 h1 hx hs2
  obtain ⟨P, hP⟩ : ∃ P : Int, P = 17 := ⟨_, rfl⟩
  (have hg := tup_guard; have hq : ∀ w, (binOp .eql 58 (.agg #[.int .i64 P, .int .u32 src, .int .i64 sp, .int .u32 dst, .int .i64 dp]) (.agg #[.int .i64 P, .int .u32 src, .int .i64 sp, .int .u32 dst, .int .i64 dp])).run Try.prog w = .ok (.bool true) w := fun w => (by have := tup_eql ⟨P, src, sp, dst, dp⟩ ⟨P, src, sp, dst, dp⟩ w; rw [decide_eq_true rfl] at this; exact this))
  subst hP
  by_cases hx0 : x = 0
  · obtain rfl := k3 hx0
    have HOG := HOF
    subst hx0
    clear k1 k2 k3 k4
    go_enter Try.func12, Try.ntmps12
    go_wp2_with (first | (go_at_call 29; refine (awake09_any _).mono ?_; rintro e w' ⟨rfl, ⟨osj, dj, rfl⟩⟩) | (go_at_call 42; (with_reducible refine (HPU.out _).mono ?_); rintro e w' ⟨o1, c1, rfl, ⟨os1, d1, rfl⟩, h_1⟩; have HB1 := Lib.hid h_1; clear h_1) | (go_at_call 33; (with_reducible refine (HOF.out o1 c1 _ (HB1.out.on (by (first | ((repeat (first | with_reducible exact Junk.refl _ | with_reducible exact Junk.app _ _ _ _ _ | with_reducible apply Junk.alloc | with_reducible apply Junk.junk | with_reducible apply Junk.drew | with_reducible apply Junk.drewN)); done) | ((try simp only [World.junk_junk, Array.append_assoc]); (repeat (first | with_reducible exact Junk.refl _ | with_reducible exact Junk.app _ _ _ _ _ | with_reducible exact Junk.app2 _ _ _ _ _ _ | with_reducible exact Junk.app3 _ _ _ _ _ _ _ | with_reducible exact Junk.app4 _ _ _ _ _ _ _ _ | with_reducible exact Junk.app5 _ _ _ _ _ _ _ _ _ | with_reducible apply Junk.alloc | with_reducible apply Junk.junk | with_reducible apply Junk.drew | with_reducible apply Junk.drewN))))))).mono ?_); rintro e w' ⟨rfl, ⟨osj, dj, rfl⟩⟩) | (go_at_call 33; (with_reducible refine (HOG.out o1 c1 _ (HB1.out.on (by (first | ((repeat (first | with_reducible exact Junk.refl _ | with_reducible exact Junk.app _ _ _ _ _ | with_reducible apply Junk.alloc | with_reducible apply Junk.junk | with_reducible apply Junk.drew | with_reducible apply Junk.drewN)); done) | ((try simp only [World.junk_junk, Array.append_assoc]); (repeat (first | with_reducible exact Junk.refl _ | with_reducible exact Junk.app _ _ _ _ _ | with_reducible exact Junk.app2 _ _ _ _ _ _ | with_reducible exact Junk.app3 _ _ _ _ _ _ _ | with_reducible exact Junk.app4 _ _ _ _ _ _ _ _ | with_reducible exact Junk.app5 _ _ _ _ _ _ _ _ _ | with_reducible apply Junk.alloc | with_reducible apply Junk.junk | with_reducible apply Junk.drew | with_reducible apply Junk.drewN))))))).mono ?_); rintro e w' ⟨rfl, ⟨osj, dj, rfl⟩⟩))
    go_ret
    exact ⟨ret_bool rfl, by (first | ((repeat (first | with_reducible exact Junk.refl _ | with_reducible exact Junk.app _ _ _ _ _ | with_reducible apply Junk.alloc | with_reducible apply Junk.junk | with_reducible apply Junk.drew | with_reducible apply Junk.drewN)); done) | ((try simp only [World.junk_junk, Array.append_assoc]); (repeat (first | with_reducible exact Junk.refl _ | with_reducible exact Junk.app _ _ _ _ _ | with_reducible exact Junk.app2 _ _ _ _ _ _ | with_reducible exact Junk.app3 _ _ _ _ _ _ _ | with_reducible exact Junk.app4 _ _ _ _ _ _ _ _ | with_reducible exact Junk.app5 _ _ _ _ _ _ _ _ _ | with_reducible apply Junk.alloc | with_reducible apply Junk.junk | with_reducible apply Junk.drew | with_reducible apply Junk.drewN))))⟩
  · have HOG := Lib.hid (fun (ob : Option Addr) (cb : Nat) (w1 : World) (hb : Bts w1 ob 8 cb (dgB src dst sp dp)) => of_err5 k1 h2 (by omega) (dg_other h1 h2 hs hd k1 k2 (k4 hx0)) ob cb w1 hb)
    have hx1 : (x == 0) = false := by simpa using hx0
    clear k1 k2 k3 k4 hx0
    go_enter Try.func12, Try.ntmps12
    go_wp2_with (first | (go_at_call 29; refine (awake09_any _).mono ?_; rintro e w' ⟨rfl, ⟨osj, dj, rfl⟩⟩) | (go_at_call 42; (with_reducible refine (HPU.out _).mono ?_); rintro e w' ⟨o1, c1, rfl, ⟨os1, d1, rfl⟩, h_1⟩; have HB1 := Lib.hid h_1; clear h_1) | (go_at_call 33; (with_reducible refine (HOF.out o1 c1 _ (HB1.out.on (by (first | ((repeat (first | with_reducible exact Junk.refl _ | with_reducible exact Junk.app _ _ _ _ _ | with_reducible apply Junk.alloc | with_reducible apply Junk.junk | with_reducible apply Junk.drew | with_reducible apply Junk.drewN)); done) | ((try simp only [World.junk_junk, Array.append_assoc]); (repeat (first | with_reducible exact Junk.refl _ | with_reducible exact Junk.app _ _ _ _ _ | with_reducible exact Junk.app2 _ _ _ _ _ _ | with_reducible exact Junk.app3 _ _ _ _ _ _ _ | with_reducible exact Junk.app4 _ _ _ _ _ _ _ _ | with_reducible exact Junk.app5 _ _ _ _ _ _ _ _ _ | with_reducible apply Junk.alloc | with_reducible apply Junk.junk | with_reducible apply Junk.drew | with_reducible apply Junk.drewN))))))).mono ?_); rintro e w' ⟨rfl, ⟨osj, dj, rfl⟩⟩) | (go_at_call 33; (with_reducible refine (HOG.out o1 c1 _ (HB1.out.on (by (first | ((repeat (first | with_reducible exact Junk.refl _ | with_reducible exact Junk.app _ _ _ _ _ | with_reducible apply Junk.alloc | with_reducible apply Junk.junk | with_reducible apply Junk.drew | with_reducible apply Junk.drewN)); done) | ((try simp only [World.junk_junk, Array.append_assoc]); (repeat (first | with_reducible exact Junk.refl _ | with_reducible exact Junk.app _ _ _ _ _ | with_reducible exact Junk.app2 _ _ _ _ _ _ | with_reducible exact Junk.app3 _ _ _ _ _ _ _ | with_reducible exact Junk.app4 _ _ _ _ _ _ _ _ | with_reducible exact Junk.app5 _ _ _ _ _ _ _ _ _ | with_reducible apply Junk.alloc | with_reducible apply Junk.junk | with_reducible apply Junk.drew | with_reducible apply Junk.drewN))))))).mono ?_); rintro e w' ⟨rfl, ⟨osj, dj, rfl⟩⟩))
    go_ret
    exact ⟨ret_bool rfl, by (first | ((repeat (first | with_reducible exact Junk.refl _ | with_reducible exact Junk.app _ _ _ _ _ | with_reducible apply Junk.alloc | with_reducible apply Junk.junk | with_reducible apply Junk.drew | with_reducible apply Junk.drewN)); done) | ((try simp only [World.junk_junk, Array.append_assoc]); (repeat (first | with_reducible exact Junk.refl _ | with_reducible exact Junk.app _ _ _ _ _ | with_reducible exact Junk.app2 _ _ _ _ _ _ | with_reducible exact Junk.app3 _ _ _ _ _ _ _ | with_reducible exact Junk.app4 _ _ _ _ _ _ _ _ | with_reducible exact Junk.app5 _ _ _ _ _ _ _ _ _ | with_reducible apply Junk.alloc | with_reducible apply Junk.junk | with_reducible apply Junk.drew | with_reducible apply Junk.drewN))))⟩
set_option maxHeartbeats 4000000 in
theorem tuplePorts_syn (src dst sp dp x : Int) (w : World) (h1 : 0 ≤ src ∧ src ≤ 4294967295) (h2 : 0 ≤ dst ∧ dst ≤ 4294967295) (hs : 0 ≤ sp ∧ sp ≤ 65535) (hd : 0 ≤ dp ∧ dp ≤ 65535) (hx : 0 ≤ x ∧ x ≤ 255) : Calls Try.prog 12 #[.int .u32 src, .int .u32 dst, .int .u16 sp, .int .u16 dp, .bool true, .int .u8 x] w fun e w' => e = .returned (.bool true) ∧ Junk w w' := by
  have HPU := Lib.hid (fun w1 => dg_put src dst sp dp w1 h1 h2 hs hd)
  have HPT := Lib.hid (fun w1 => syn_put src dst sp dp w1 h1 h2 hs hd)
  have HOF := Lib.hid (fun (ob : Option Addr) (cb : Nat) (w1 : World) (hb : Bts w1 ob 20 cb (segOf src dst (synTc sp dp))) => of_ok h1 h2 (by omega) (syn_err h1 h2 hs hd) (syn_tup h1 h2 hs hd) ob cb w1 hb)
  obtain ⟨s2, hs2⟩ : ∃ s, bits .xor .u32 src x = s := ⟨_, rfl⟩
  obtain ⟨k1, k2, k3, k4⟩ := ports_s2 h1 hx hs2
  obtain ⟨P, hP⟩ : ∃ P : Int, P = 6 := ⟨_, rfl⟩
  (have hg := tup_guard; have hq : ∀ w, (binOp .eql 58 (.agg #[.int .i64 P, .int .u32 src, .int .i64 sp, .int .u32 dst, .int .i64 dp]) (.agg #[.int .i64 P, .int .u32 src, .int .i64 sp, .int .u32 dst, .int .i64 dp])).run Try.prog w = .ok (.bool true) w := fun w => (by have := tup_eql ⟨P, src, sp, dst, dp⟩ ⟨P, src, sp, dst, dp⟩ w; rw [decide_eq_true rfl] at this; exact this))
  subst hP
  by_cases hx0 : x = 0
  · obtain rfl := k3 hx0
    have HOG := HOF
    subst hx0
    clear k1 k2 k3 k4
    go_enter Try.func12, Try.ntmps12
    go_wp2_with (first | (go_at_call 29; refine (awake09_any _).mono ?_; rintro e w' ⟨rfl, ⟨osj, dj, rfl⟩⟩) | (go_at_call 42; (with_reducible refine (HPU.out _).mono ?_); rintro e w' ⟨o1, c1, rfl, ⟨os1, d1, rfl⟩, h_1⟩; have HB1 := Lib.hid h_1; clear h_1) | (go_at_call 18; (with_reducible refine (HPT.out _).mono ?_); rintro e w' ⟨o1, c1, rfl, ⟨osT, dT, rfl⟩, h_1⟩; have HB1 := Lib.hid h_1; clear h_1) | (go_at_call 33; (with_reducible refine (HOF.out o1 c1 _ (HB1.out.on (by (first | ((repeat (first | with_reducible exact Junk.refl _ | with_reducible exact Junk.app _ _ _ _ _ | with_reducible apply Junk.alloc | with_reducible apply Junk.junk | with_reducible apply Junk.drew | with_reducible apply Junk.drewN)); done) | ((try simp only [World.junk_junk, Array.append_assoc]); (repeat (first | with_reducible exact Junk.refl _ | with_reducible exact Junk.app _ _ _ _ _ | with_reducible exact Junk.app2 _ _ _ _ _ _ | with_reducible exact Junk.app3 _ _ _ _ _ _ _ | with_reducible exact Junk.app4 _ _ _ _ _ _ _ _ | with_reducible exact Junk.app5 _ _ _ _ _ _ _ _ _ | with_reducible apply Junk.alloc | with_reducible apply Junk.junk | with_reducible apply Junk.drew | with_reducible apply Junk.drewN))))))).mono ?_); rintro e w' ⟨rfl, ⟨osj, dj, rfl⟩⟩) | (go_at_call 33; (with_reducible refine (HOG.out o1 c1 _ (HB1.out.on (by (first | ((repeat (first | with_reducible exact Junk.refl _ | with_reducible exact Junk.app _ _ _ _ _ | with_reducible apply Junk.alloc | with_reducible apply Junk.junk | with_reducible apply Junk.drew | with_reducible apply Junk.drewN)); done) | ((try simp only [World.junk_junk, Array.append_assoc]); (repeat (first | with_reducible exact Junk.refl _ | with_reducible exact Junk.app _ _ _ _ _ | with_reducible exact Junk.app2 _ _ _ _ _ _ | with_reducible exact Junk.app3 _ _ _ _ _ _ _ | with_reducible exact Junk.app4 _ _ _ _ _ _ _ _ | with_reducible exact Junk.app5 _ _ _ _ _ _ _ _ _ | with_reducible apply Junk.alloc | with_reducible apply Junk.junk | with_reducible apply Junk.drew | with_reducible apply Junk.drewN))))))).mono ?_); rintro e w' ⟨rfl, ⟨osj, dj, rfl⟩⟩))
    go_ret
    exact ⟨ret_bool rfl, by (first | ((repeat (first | with_reducible exact Junk.refl _ | with_reducible exact Junk.app _ _ _ _ _ | with_reducible apply Junk.alloc | with_reducible apply Junk.junk | with_reducible apply Junk.drew | with_reducible apply Junk.drewN)); done) | ((try simp only [World.junk_junk, Array.append_assoc]); (repeat (first | with_reducible exact Junk.refl _ | with_reducible exact Junk.app _ _ _ _ _ | with_reducible exact Junk.app2 _ _ _ _ _ _ | with_reducible exact Junk.app3 _ _ _ _ _ _ _ | with_reducible exact Junk.app4 _ _ _ _ _ _ _ _ | with_reducible exact Junk.app5 _ _ _ _ _ _ _ _ _ | with_reducible apply Junk.alloc | with_reducible apply Junk.junk | with_reducible apply Junk.drew | with_reducible apply Junk.drewN))))⟩
  · have HOG := Lib.hid (fun (ob : Option Addr) (cb : Nat) (w1 : World) (hb : Bts w1 ob 20 cb (segOf src dst (synTc sp dp))) => of_err5 k1 h2 (by omega) (syn_other h1 h2 hs hd k1 k2 (k4 hx0)) ob cb w1 hb)
    have hx1 : (x == 0) = false := by simpa using hx0
    clear k1 k2 k3 k4 hx0
    go_enter Try.func12, Try.ntmps12
    go_wp2_with (first | (go_at_call 29; refine (awake09_any _).mono ?_; rintro e w' ⟨rfl, ⟨osj, dj, rfl⟩⟩) | (go_at_call 42; (with_reducible refine (HPU.out _).mono ?_); rintro e w' ⟨o1, c1, rfl, ⟨os1, d1, rfl⟩, h_1⟩; have HB1 := Lib.hid h_1; clear h_1) | (go_at_call 18; (with_reducible refine (HPT.out _).mono ?_); rintro e w' ⟨o1, c1, rfl, ⟨osT, dT, rfl⟩, h_1⟩; have HB1 := Lib.hid h_1; clear h_1) | (go_at_call 33; (with_reducible refine (HOF.out o1 c1 _ (HB1.out.on (by (first | ((repeat (first | with_reducible exact Junk.refl _ | with_reducible exact Junk.app _ _ _ _ _ | with_reducible apply Junk.alloc | with_reducible apply Junk.junk | with_reducible apply Junk.drew | with_reducible apply Junk.drewN)); done) | ((try simp only [World.junk_junk, Array.append_assoc]); (repeat (first | with_reducible exact Junk.refl _ | with_reducible exact Junk.app _ _ _ _ _ | with_reducible exact Junk.app2 _ _ _ _ _ _ | with_reducible exact Junk.app3 _ _ _ _ _ _ _ | with_reducible exact Junk.app4 _ _ _ _ _ _ _ _ | with_reducible exact Junk.app5 _ _ _ _ _ _ _ _ _ | with_reducible apply Junk.alloc | with_reducible apply Junk.junk | with_reducible apply Junk.drew | with_reducible apply Junk.drewN))))))).mono ?_); rintro e w' ⟨rfl, ⟨osj, dj, rfl⟩⟩) | (go_at_call 33; (with_reducible refine (HOG.out o1 c1 _ (HB1.out.on (by (first | ((repeat (first | with_reducible exact Junk.refl _ | with_reducible exact Junk.app _ _ _ _ _ | with_reducible apply Junk.alloc | with_reducible apply Junk.junk | with_reducible apply Junk.drew | with_reducible apply Junk.drewN)); done) | ((try simp only [World.junk_junk, Array.append_assoc]); (repeat (first | with_reducible exact Junk.refl _ | with_reducible exact Junk.app _ _ _ _ _ | with_reducible exact Junk.app2 _ _ _ _ _ _ | with_reducible exact Junk.app3 _ _ _ _ _ _ _ | with_reducible exact Junk.app4 _ _ _ _ _ _ _ _ | with_reducible exact Junk.app5 _ _ _ _ _ _ _ _ _ | with_reducible apply Junk.alloc | with_reducible apply Junk.junk | with_reducible apply Junk.drew | with_reducible apply Junk.drewN))))))).mono ?_); rintro e w' ⟨rfl, ⟨osj, dj, rfl⟩⟩))
    go_ret
    exact ⟨ret_bool rfl, by (first | ((repeat (first | with_reducible exact Junk.refl _ | with_reducible exact Junk.app _ _ _ _ _ | with_reducible apply Junk.alloc | with_reducible apply Junk.junk | with_reducible apply Junk.drew | with_reducible apply Junk.drewN)); done) | ((try simp only [World.junk_junk, Array.append_assoc]); (repeat (first | with_reducible exact Junk.refl _ | with_reducible exact Junk.app _ _ _ _ _ | with_reducible exact Junk.app2 _ _ _ _ _ _ | with_reducible exact Junk.app3 _ _ _ _ _ _ _ | with_reducible exact Junk.app4 _ _ _ _ _ _ _ _ | with_reducible exact Junk.app5 _ _ _ _ _ _ _ _ _ | with_reducible apply Junk.alloc | with_reducible apply Junk.junk | with_reducible apply Junk.drew | with_reducible apply Junk.drewN))))⟩
theorem tuplePorts_core (W : World) (base : Nat) (v0 v1 v2 v3 v4 v5 : Value) (a0 : Arg Try.prog W base 22 v0) (a1 : Arg Try.prog W base 22 v1) (a2 : Arg Try.prog W base 43 v2) (a3 : Arg Try.prog W base 43 v3) (a4 : Arg Try.prog W base 4 v4) (a5 : Arg Try.prog W base 5 v5) :
    Calls Try.prog 12 #[v0, v1, v2, v3, v4, v5] W fun e W' => e = .returned (.bool true) ∧ Junk W W' := by
  obtain ⟨src, rfl, w_src⟩ := a0.int Try.underlying22
  obtain ⟨dst, rfl, w_dst⟩ := a1.int Try.underlying22
  obtain ⟨sp, rfl, w_sp⟩ := a2.int Try.underlying43
  obtain ⟨dp, rfl, w_dp⟩ := a3.int Try.underlying43
  obtain ⟨seg, rfl⟩ := a4.bool Try.underlying4
  obtain ⟨x, rfl, w_x⟩ := a5.int Try.underlying5
  cases seg with
  | false => exact tuplePorts_dg src dst sp dp x W (bounds_u32 w_src) (bounds_u32 w_dst) (bounds_u16 w_sp) (bounds_u16 w_dp) (bounds_u8 w_x)
  | true => exact tuplePorts_syn src dst sp dp x W (bounds_u32 w_src) (bounds_u32 w_dst) (bounds_u16 w_sp) (bounds_u16 w_dp) (bounds_u8 w_x)
set_option maxRecDepth 100000 in
theorem tuplePorts_lifted (os : Os) (started : os.Started) (H : Type) (enc : TypeId × Value → H) :
    ReturnsInHanded {} Try.checked os 12 .any (Rows.tuplePortsSpec.pre6 enc Try.prog Try.f12 Rows.tuplePortsRow.domain false) (Rows.tuplePortsSpec.post enc Try.prog Try.f12 false true false false) := by
  refine returnsInHanded_of_change (C := Try.checked) (by kernel_rfl) started (by kernel_rfl) Try.func12
    (ChangeSpec.witness6 (enc := enc) (C := Try.checked) false ⟨#[], #[.int .u32 0, .int .u32 0, .int .u16 0, .int .u16 0, .bool false, .int .u8 0], []⟩ 8 (by kernel_rfl) (by kernel_rfl) (by kernel_rfl) (by kernel_rfl)) ?_
  intro W base args ds gs before hval hW _ _
  obtain ⟨p, q, hA, _, _, _, _⟩ := id hW
  have hargs : Args Try.prog W base Try.f12.params.toList args.toList := args_of (fun j t v h1 h2 => hval j t v (by simpa using h1) (by simpa using h2)) hA
  rw [Try.params12] at hargs
  obtain ⟨v0, l0, e0, a0, r0⟩ := args_cons hargs
  obtain ⟨v1, l1, e1, a1, r1⟩ := args_cons r0
  obtain ⟨v2, l2, e2, a2, r2⟩ := args_cons r1
  obtain ⟨v3, l3, e3, a3, r3⟩ := args_cons r2
  obtain ⟨v4, l4, e4, a4, r4⟩ := args_cons r3
  obtain ⟨v5, l5, e5, a5, r5⟩ := args_cons r4
  have hn := args_nil r5
  have he : args = #[v0, v1, v2, v3, v4, v5] := by
    apply Array.ext'
    simp only [e0, e1, e2, e3, e4, e5, hn]
  subst he
  exact (tuplePorts_core W base v0 v1 v2 v3 v4 v5 a0 a1 a2 a3 a4 a5).mono fun e W' ⟨he, hj⟩ => ⟨_, he, post_true (tb := 4) (by kernel_rfl) (by kernel_rfl) rfl (by kernel_rfl) rfl hW (fun hg hl => by
    subst hg
    match ds, hl with
    | [_, _, _, _, _, _], _ => exact ⟨rfl, rfl, rfl⟩) hj⟩
theorem tuplePorts_holds : Rows.TuplePortsSaid :=
  OpenClaim.holds_of_wide 12 Try.f12 rfl rfl rfl rfl rfl rfl rfl ⟨rfl, rfl, rfl, rfl, rfl⟩ rfl rfl rfl rfl rfl (by kernel_rfl) Try.func12 (by kernel_rfl)
    (of_decide_eq_true (by kernel_rfl)) (by unfold Func.isWrapper; rw [if_neg (of_decide_eq_false (by kernel_rfl))]; exact ⟨rfl, rfl⟩)
    (fun os started H enc _ => tuplePorts_lifted os started H enc)

end Go.Proofs.Ytjmofjcloebgmaa
