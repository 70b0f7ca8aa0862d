/- The law ErrorInner: behind a turn the names are what was asked, and turned back they are as before. -/
import Derived.Test.YtnefphinmjeacaaInF
import Derived.Test.YtnefphinmjeacaaLift2
set_option linter.unusedVariables false
set_option maxRecDepth 100000
set_option linter.unusedSimpArgs false
namespace Go.Proofs.Ytnefphinmjeacaa
open Go.RowKit
set_option maxHeartbeats 4000000 in
theorem errorInner_bad (kind code rest addr port : Int) (oa : Option Addr) (l c : Nat) (xs : Nat → Int) (w : World) (hB : Bts w oa l c xs) (haddr : 0 ≤ addr ∧ addr ≤ 4294967295) (dst : Bool) (hn : ¬ (l ≤ 3000 ∧ nmErr kind xs l = 0)) : Calls Try.prog 4 #[.agg #[.int .i64 kind, .int .i64 code, .int .u32 rest, .slice oa l c], .int .u32 addr, .int .i64 port, .bool dst] w fun e w' => e = .returned (.bool true) ∧ Junk w w' := by
  have HB := Lib.hid hB
  by_cases hl : l ≤ 3000
  · have hl1 : ¬ (3000 : Int) < (l : Int) := by omega
    obtain ⟨E, hE⟩ : ∃ E, nmErr kind xs l = E := ⟨_, rfl⟩
    have h0 : E ≠ 0 := fun h => hn ⟨hl, by rw [hE, h]⟩
    have HN := Lib.hid (fun w1 (hb : Bts w1 oa l c xs) => show Calls Try.prog 11 #[.agg #[.int .i64 kind, .int .i64 code, .int .u32 rest, .slice oa l c]] w1 fun e w' => e = .returned (.tuple #[.agg #[.int .i64 0, .int .u32 0, .int .i64 0, .int .u32 0, .int .i64 0], .int .i64 E]) ∧ Junk w1 w' by rw [← hE]; exact (names_any kind code rest oa l c xs w1 (by omega) hb).mono fun e w' hp => hp.bad (by rw [hE]; exact h0))
    have hne : (E != 0) = true := by simpa using h0
    have hg := tupq_guard
    have hq : ∀ w, (binOp .eql 28 (.agg #[.int .i64 0, .int .u32 0, .int .i64 0, .int .u32 0, .int .i64 0]) (.agg #[.int .i64 0, .int .u32 0, .int .i64 0, .int .u32 0, .int .i64 0])).run Try.prog w = .ok (.bool true) w := fun w => by have := tupq_eql ⟨0, 0, 0, 0, 0⟩ ⟨0, 0, 0, 0, 0⟩ w; exact this
    clear hn hE h0 hB
    go_enter Try.func4, Try.ntmps4
    go_wp2_with (first | (go_at_call 10; refine (awake26_any _).mono ?_; rintro e w' ⟨rfl, ⟨osj, dj, rfl⟩⟩) | (go_at_call 11; (with_reducible refine (HN.out _ (HB.out.on (by (first | ((repeat (first | with_reducible exact Junk.refl _ | with_reducible exact Junk.app _ _ _ _ _ | with_reducible apply Junk.alloc | with_reducible apply Junk.junk | with_reducible apply Junk.drew | with_reducible apply Junk.drewN)); done) | ((try simp only [World.junk_junk, Array.append_assoc]); (repeat (first | with_reducible exact Junk.refl _ | with_reducible exact Junk.app _ _ _ _ _ | with_reducible exact Junk.app2 _ _ _ _ _ _ | with_reducible exact Junk.app3 _ _ _ _ _ _ _ | with_reducible exact Junk.app4 _ _ _ _ _ _ _ _ | with_reducible exact Junk.app5 _ _ _ _ _ _ _ _ _ | with_reducible apply Junk.alloc | with_reducible apply Junk.junk | with_reducible apply Junk.drew | with_reducible apply Junk.drewN))))))).mono ?_); rintro e w' ⟨rfl, ⟨osj, dj, rfl⟩⟩))
    all_goals (go_ret; exact ⟨ret_bool rfl, by (first | ((repeat (first | with_reducible exact Junk.refl _ | with_reducible exact Junk.app _ _ _ _ _ | with_reducible apply Junk.alloc | with_reducible apply Junk.junk | with_reducible apply Junk.drew | with_reducible apply Junk.drewN)); done) | ((try simp only [World.junk_junk, Array.append_assoc]); (repeat (first | with_reducible exact Junk.refl _ | with_reducible exact Junk.app _ _ _ _ _ | with_reducible exact Junk.app2 _ _ _ _ _ _ | with_reducible exact Junk.app3 _ _ _ _ _ _ _ | with_reducible exact Junk.app4 _ _ _ _ _ _ _ _ | with_reducible exact Junk.app5 _ _ _ _ _ _ _ _ _ | with_reducible apply Junk.alloc | with_reducible apply Junk.junk | with_reducible apply Junk.drew | with_reducible apply Junk.drewN))))⟩)
  · have hl1 : (3000 : Int) < (l : Int) := by omega
    clear hn hB
    go_enter Try.func4, Try.ntmps4
    go_wp2_with (first | (go_at_call 10; refine (awake26_any _).mono ?_; rintro e w' ⟨rfl, ⟨osj, dj, rfl⟩⟩))
    all_goals (go_ret; exact ⟨ret_bool rfl, by (first | ((repeat (first | with_reducible exact Junk.refl _ | with_reducible exact Junk.app _ _ _ _ _ | with_reducible apply Junk.alloc | with_reducible apply Junk.junk | with_reducible apply Junk.drew | with_reducible apply Junk.drewN)); done) | ((try simp only [World.junk_junk, Array.append_assoc]); (repeat (first | with_reducible exact Junk.refl _ | with_reducible exact Junk.app _ _ _ _ _ | with_reducible exact Junk.app2 _ _ _ _ _ _ | with_reducible exact Junk.app3 _ _ _ _ _ _ _ | with_reducible exact Junk.app4 _ _ _ _ _ _ _ _ | with_reducible exact Junk.app5 _ _ _ _ _ _ _ _ _ | with_reducible apply Junk.alloc | with_reducible apply Junk.junk | with_reducible apply Junk.drew | with_reducible apply Junk.drewN))))⟩)
set_option maxHeartbeats 4000000 in
theorem errorInner_portS (kind code rest addr port : Int) (oa : Option Addr) (l c : Nat) (xs : Nat → Int) (w : World) (hB : Bts w oa l c xs) (haddr : 0 ≤ addr ∧ addr ≤ 4294967295) (hl : l ≤ 3000) (h0 : nmErr kind xs l = 0) (hp : ¬ (0 ≤ port ∧ port ≤ 65535)) : Calls Try.prog 4 #[.agg #[.int .i64 kind, .int .i64 code, .int .u32 rest, .slice oa l c], .int .u32 addr, .int .i64 port, .bool false] w fun e w' => e = .returned (.bool true) ∧ Junk w w' := by
  have HB := Lib.hid hB
  have hl1 : ¬ (3000 : Int) < (l : Int) := by omega
  obtain ⟨⟨tp, ts, sp, td, dp⟩, hT⟩ : ∃ t, nmTup xs l = t := ⟨_, rfl⟩
  have HN := Lib.hid (fun oa c w1 hb => names_ok (code := code) (rest := rest) (by omega : l ≤ 100000000) h0 hT oa c w1 hb)
  have HE : tnErr kind xs l port = 1 := by unfold tnErr; rw [if_neg (by rw [h0]; decide), if_pos (by omega)]
  have HS := Lib.hid (fun w1 (hb : Bts w1 oa l c xs) => show Calls Try.prog 13 #[.agg #[.int .i64 kind, .int .i64 code, .int .u32 rest, .slice oa l c], .int .u32 addr, .int .i64 port] w1 fun e w' => Junk w1 w' ∧ e = .returned (.tuple #[.agg #[.int .i64 0, .int .i64 0, .int .u32 0, .slice none 0 0], .int .i64 1]) by
    have := (src_any kind code rest addr port oa l c xs w1 (by omega) hb haddr).mono fun e w' hp => hp.bad (by rw [HE]; decide)
    rw [HE] at this
    exact this)
  clear h0 hT HE hB
  by_cases hp0 : port < 0
  · clear hp
    go_enter Try.func4, Try.ntmps4
    go_wp2_with (first | (go_at_call 10; refine (awake26_any _).mono ?_; rintro e w' ⟨rfl, ⟨osj, dj, rfl⟩⟩) | (go_at_call 11; (with_reducible refine (HN.out oa c _ (HB.out.on (by (first | ((repeat (first | with_reducible exact Junk.refl _ | with_reducible exact Junk.app _ _ _ _ _ | with_reducible apply Junk.alloc | with_reducible apply Junk.junk | with_reducible apply Junk.drew | with_reducible apply Junk.drewN)); done) | ((try simp only [World.junk_junk, Array.append_assoc]); (repeat (first | with_reducible exact Junk.refl _ | with_reducible exact Junk.app _ _ _ _ _ | with_reducible exact Junk.app2 _ _ _ _ _ _ | with_reducible exact Junk.app3 _ _ _ _ _ _ _ | with_reducible exact Junk.app4 _ _ _ _ _ _ _ _ | with_reducible exact Junk.app5 _ _ _ _ _ _ _ _ _ | with_reducible apply Junk.alloc | with_reducible apply Junk.junk | with_reducible apply Junk.drew | with_reducible apply Junk.drewN))))))).mono ?_); rintro e w' ⟨rfl, ⟨osj, dj, rfl⟩⟩) | (go_at_call 13; (with_reducible refine (HS.out _ (HB.out.on (by (first | ((repeat (first | with_reducible exact Junk.refl _ | with_reducible exact Junk.app _ _ _ _ _ | with_reducible apply Junk.alloc | with_reducible apply Junk.junk | with_reducible apply Junk.drew | with_reducible apply Junk.drewN)); done) | ((try simp only [World.junk_junk, Array.append_assoc]); (repeat (first | with_reducible exact Junk.refl _ | with_reducible exact Junk.app _ _ _ _ _ | with_reducible exact Junk.app2 _ _ _ _ _ _ | with_reducible exact Junk.app3 _ _ _ _ _ _ _ | with_reducible exact Junk.app4 _ _ _ _ _ _ _ _ | with_reducible exact Junk.app5 _ _ _ _ _ _ _ _ _ | with_reducible apply Junk.alloc | with_reducible apply Junk.junk | with_reducible apply Junk.drew | with_reducible apply Junk.drewN))))))).mono ?_); rintro e w' ⟨⟨os1, d1, rfl⟩, rfl⟩))
    all_goals (go_ret; exact ⟨ret_bool rfl, by (first | ((repeat (first | with_reducible exact Junk.refl _ | with_reducible exact Junk.app _ _ _ _ _ | with_reducible apply Junk.alloc | with_reducible apply Junk.junk | with_reducible apply Junk.drew | with_reducible apply Junk.drewN)); done) | ((try simp only [World.junk_junk, Array.append_assoc]); (repeat (first | with_reducible exact Junk.refl _ | with_reducible exact Junk.app _ _ _ _ _ | with_reducible exact Junk.app2 _ _ _ _ _ _ | with_reducible exact Junk.app3 _ _ _ _ _ _ _ | with_reducible exact Junk.app4 _ _ _ _ _ _ _ _ | with_reducible exact Junk.app5 _ _ _ _ _ _ _ _ _ | with_reducible apply Junk.alloc | with_reducible apply Junk.junk | with_reducible apply Junk.drew | with_reducible apply Junk.drewN))))⟩)
  · have hp1 : 65535 < port := by omega
    clear hp
    go_enter Try.func4, Try.ntmps4
    go_wp2_with (first | (go_at_call 10; refine (awake26_any _).mono ?_; rintro e w' ⟨rfl, ⟨osj, dj, rfl⟩⟩) | (go_at_call 11; (with_reducible refine (HN.out oa c _ (HB.out.on (by (first | ((repeat (first | with_reducible exact Junk.refl _ | with_reducible exact Junk.app _ _ _ _ _ | with_reducible apply Junk.alloc | with_reducible apply Junk.junk | with_reducible apply Junk.drew | with_reducible apply Junk.drewN)); done) | ((try simp only [World.junk_junk, Array.append_assoc]); (repeat (first | with_reducible exact Junk.refl _ | with_reducible exact Junk.app _ _ _ _ _ | with_reducible exact Junk.app2 _ _ _ _ _ _ | with_reducible exact Junk.app3 _ _ _ _ _ _ _ | with_reducible exact Junk.app4 _ _ _ _ _ _ _ _ | with_reducible exact Junk.app5 _ _ _ _ _ _ _ _ _ | with_reducible apply Junk.alloc | with_reducible apply Junk.junk | with_reducible apply Junk.drew | with_reducible apply Junk.drewN))))))).mono ?_); rintro e w' ⟨rfl, ⟨osj, dj, rfl⟩⟩) | (go_at_call 13; (with_reducible refine (HS.out _ (HB.out.on (by (first | ((repeat (first | with_reducible exact Junk.refl _ | with_reducible exact Junk.app _ _ _ _ _ | with_reducible apply Junk.alloc | with_reducible apply Junk.junk | with_reducible apply Junk.drew | with_reducible apply Junk.drewN)); done) | ((try simp only [World.junk_junk, Array.append_assoc]); (repeat (first | with_reducible exact Junk.refl _ | with_reducible exact Junk.app _ _ _ _ _ | with_reducible exact Junk.app2 _ _ _ _ _ _ | with_reducible exact Junk.app3 _ _ _ _ _ _ _ | with_reducible exact Junk.app4 _ _ _ _ _ _ _ _ | with_reducible exact Junk.app5 _ _ _ _ _ _ _ _ _ | with_reducible apply Junk.alloc | with_reducible apply Junk.junk | with_reducible apply Junk.drew | with_reducible apply Junk.drewN))))))).mono ?_); rintro e w' ⟨⟨os1, d1, rfl⟩, rfl⟩))
    all_goals (go_ret; exact ⟨ret_bool rfl, by (first | ((repeat (first | with_reducible exact Junk.refl _ | with_reducible exact Junk.app _ _ _ _ _ | with_reducible apply Junk.alloc | with_reducible apply Junk.junk | with_reducible apply Junk.drew | with_reducible apply Junk.drewN)); done) | ((try simp only [World.junk_junk, Array.append_assoc]); (repeat (first | with_reducible exact Junk.refl _ | with_reducible exact Junk.app _ _ _ _ _ | with_reducible exact Junk.app2 _ _ _ _ _ _ | with_reducible exact Junk.app3 _ _ _ _ _ _ _ | with_reducible exact Junk.app4 _ _ _ _ _ _ _ _ | with_reducible exact Junk.app5 _ _ _ _ _ _ _ _ _ | with_reducible apply Junk.alloc | with_reducible apply Junk.junk | with_reducible apply Junk.drew | with_reducible apply Junk.drewN))))⟩)
set_option maxHeartbeats 4000000 in
theorem errorInner_okS (kind code rest addr port : Int) (oa : Option Addr) (l c : Nat) (xs : Nat → Int) (w : World) (hB : Bts w oa l c xs) (haddr : 0 ≤ addr ∧ addr ≤ 4294967295) (hl : l ≤ 3000) (h0 : nmErr kind xs l = 0) (hp : 0 ≤ port ∧ port ≤ 65535) : Calls Try.prog 4 #[.agg #[.int .i64 kind, .int .i64 code, .int .u32 rest, .slice oa l c], .int .u32 addr, .int .i64 port, .bool false] w fun e w' => e = .returned (.bool true) ∧ Junk w w' := by
  have HB := Lib.hid hB
  have hl1 : ¬ (3000 : Int) < (l : Int) := by omega
  have hl8 : l ≤ 100000000 := by omega
  have hx := hB.byte
  obtain ⟨⟨tp, ts, sp, td, dp⟩, hT⟩ : ∃ t, nmTup xs l = t := ⟨_, rfl⟩
  have hbd := nmTup_bd h0 hT hx
  have hbs := hbd.bs
  have hbsp := hbd.bsp
  have hbt := hbd.bd
  have hbdp := hbd.bdp
  have hbe := hbd.eq
  clear hbd
  have HN0 := Lib.hid (fun oa c w1 hb => names_ok (code := code) (rest := rest) hl8 h0 hT oa c w1 hb)
  have HS1 := Lib.hid (fun oa c w1 hb => src_ok (code := code) (rest := rest) hl8 haddr h0 hp oa c w1 hb)
  obtain ⟨u, hu⟩ : ∃ u, (if tp = 1 then port else dp) = u := ⟨_, rfl⟩
  have hn1 := fun hy => nm_src (addr := addr) (port := port) h0 hT hx hy haddr
  rw [hu] at hn1
  have HN1 := Lib.hid (fun ob cb w1 (hb : Bts w1 ob l cb (tnB xs l 12 0 addr port)) => names_ok (code := code) (rest := rest) hl8 (hn1 hb.byte).1 (hn1 hb.byte).2 ob cb w1 hb)
  have HS2 := Lib.hid (fun ob cb w1 (hb : Bts w1 ob l cb (tnB xs l 12 0 addr port)) => src_ok (code := code) (rest := rest) hl8 hbs (hn1 hb.byte).1 hbsp ob cb w1 hb)
  have HY := fun ob cb w1 (hb : Bts w1 ob l cb (tnB xs l 12 0 addr port)) => Lib.hid hb.byte
  have HN2 := Lib.hid (fun (hy : Hid (∀ i, i < l → 0 ≤ tnB xs l 12 0 addr port i ∧ tnB xs l 12 0 addr port i ≤ 255)) ob cb w1 (hb : Bts w1 ob l cb (tnB (tnB xs l 12 0 addr port) l 12 0 ts sp)) => show Calls Try.prog 11 #[.agg #[.int .i64 kind, .int .i64 code, .int .u32 rest, .slice ob l cb]] w1 fun e w' => e = .returned (.tuple #[.agg #[.int .i64 tp, .int .u32 ts, .int .i64 sp, .int .u32 td, .int .i64 dp], .int .i64 0]) ∧ Junk w1 w' by
    have h2 := nm_src (addr := ts) (port := sp) (hn1 hy.out).1 (hn1 hy.out).2 hy.out hb.byte hbs
    have h3 : (if tp = 1 then sp else u) = dp := by
      rw [← hu]
      split
      · exact  (hbe ‹_›)
      · rfl
    rw [h3] at h2
    exact names_ok (code := code) (rest := rest) hl8 h2.1 h2.2 ob cb w1 hb)
  have hg := tupq_guard
  have hq : ∀ w, (binOp .eql 28 (.agg #[.int .i64 tp, .int .u32 ts, .int .i64 sp, .int .u32 td, .int .i64 dp]) (.agg #[.int .i64 tp, .int .u32 ts, .int .i64 sp, .int .u32 td, .int .i64 dp])).run Try.prog w = .ok (.bool true) w := fun w => by have := tupq_eql ⟨tp, ts, sp, td, dp⟩ ⟨tp, ts, sp, td, dp⟩ w; rw [decide_eq_true rfl] at this; exact this
  have hcase : (u == dp) = true ∨ ((u == dp) = false ∧ (tp == 1) = true ∧ (u == port) = true) := by
    by_cases h1 : u = dp
    · exact .inl (by simpa using h1)
    · refine .inr ⟨by simpa using h1, ?_, ?_⟩
      · by_cases h2 : tp = 1
        · simpa using h2
        · rw [if_neg h2] at hu; exact absurd hu.symm h1
      · by_cases h2 : tp = 1
        · rw [if_pos h2] at hu; simpa using hu.symm
        · rw [if_neg h2] at hu; exact absurd hu.symm h1
  clear h0 hT hu hn1 hB hx hbe HY
  rcases hcase with k1 | ⟨k1, k2, k3⟩
  all_goals
    go_enter Try.func4, Try.ntmps4
    go_wp2_with (first | (go_at_call 10; refine (awake26_any _).mono ?_; rintro e w' ⟨rfl, ⟨osj, dj, rfl⟩⟩) | (go_at_call 11; (with_reducible refine (HN0.out oa c _ (HB.out.on (by (first | ((repeat (first | with_reducible exact Junk.refl _ | with_reducible exact Junk.app _ _ _ _ _ | with_reducible apply Junk.alloc | with_reducible apply Junk.junk | with_reducible apply Junk.drew | with_reducible apply Junk.drewN)); done) | ((try simp only [World.junk_junk, Array.append_assoc]); (repeat (first | with_reducible exact Junk.refl _ | with_reducible exact Junk.app _ _ _ _ _ | with_reducible exact Junk.app2 _ _ _ _ _ _ | with_reducible exact Junk.app3 _ _ _ _ _ _ _ | with_reducible exact Junk.app4 _ _ _ _ _ _ _ _ | with_reducible exact Junk.app5 _ _ _ _ _ _ _ _ _ | with_reducible apply Junk.alloc | with_reducible apply Junk.junk | with_reducible apply Junk.drew | with_reducible apply Junk.drewN))))))).mono ?_); rintro e w' ⟨rfl, ⟨osj, dj, rfl⟩⟩) | (go_at_call 11; (with_reducible refine (HN1.out o1 c1 _ (Hb1.out.on (by (first | ((repeat (first | with_reducible exact Junk.refl _ | with_reducible exact Junk.app _ _ _ _ _ | with_reducible apply Junk.alloc | with_reducible apply Junk.junk | with_reducible apply Junk.drew | with_reducible apply Junk.drewN)); done) | ((try simp only [World.junk_junk, Array.append_assoc]); (repeat (first | with_reducible exact Junk.refl _ | with_reducible exact Junk.app _ _ _ _ _ | with_reducible exact Junk.app2 _ _ _ _ _ _ | with_reducible exact Junk.app3 _ _ _ _ _ _ _ | with_reducible exact Junk.app4 _ _ _ _ _ _ _ _ | with_reducible exact Junk.app5 _ _ _ _ _ _ _ _ _ | with_reducible apply Junk.alloc | with_reducible apply Junk.junk | with_reducible apply Junk.drew | with_reducible apply Junk.drewN))))))).mono ?_); rintro e w' ⟨rfl, ⟨osj, dj, rfl⟩⟩) | (go_at_call 11; (with_reducible refine (HN2.out (Lib.hid Hb1.out.byte) o2 c2 _ (Hb2.out.on (by (first | ((repeat (first | with_reducible exact Junk.refl _ | with_reducible exact Junk.app _ _ _ _ _ | with_reducible apply Junk.alloc | with_reducible apply Junk.junk | with_reducible apply Junk.drew | with_reducible apply Junk.drewN)); done) | ((try simp only [World.junk_junk, Array.append_assoc]); (repeat (first | with_reducible exact Junk.refl _ | with_reducible exact Junk.app _ _ _ _ _ | with_reducible exact Junk.app2 _ _ _ _ _ _ | with_reducible exact Junk.app3 _ _ _ _ _ _ _ | with_reducible exact Junk.app4 _ _ _ _ _ _ _ _ | with_reducible exact Junk.app5 _ _ _ _ _ _ _ _ _ | with_reducible apply Junk.alloc | with_reducible apply Junk.junk | with_reducible apply Junk.drew | with_reducible apply Junk.drewN))))))).mono ?_); rintro e w' ⟨rfl, ⟨osj, dj, rfl⟩⟩) | (go_at_call 13; (with_reducible refine (HS1.out oa c _ (HB.out.on (by (first | ((repeat (first | with_reducible exact Junk.refl _ | with_reducible exact Junk.app _ _ _ _ _ | with_reducible apply Junk.alloc | with_reducible apply Junk.junk | with_reducible apply Junk.drew | with_reducible apply Junk.drewN)); done) | ((try simp only [World.junk_junk, Array.append_assoc]); (repeat (first | with_reducible exact Junk.refl _ | with_reducible exact Junk.app _ _ _ _ _ | with_reducible exact Junk.app2 _ _ _ _ _ _ | with_reducible exact Junk.app3 _ _ _ _ _ _ _ | with_reducible exact Junk.app4 _ _ _ _ _ _ _ _ | with_reducible exact Junk.app5 _ _ _ _ _ _ _ _ _ | with_reducible apply Junk.alloc | with_reducible apply Junk.junk | with_reducible apply Junk.drew | with_reducible apply Junk.drewN))))))).mono ?_); rintro e w' ⟨⟨os1, d1, rfl⟩, o1, c1, hb1, rfl⟩; have Hb1 := Lib.hid hb1; clear hb1) | (go_at_call 13; (with_reducible refine (HS2.out o1 c1 _ (Hb1.out.on (by (first | ((repeat (first | with_reducible exact Junk.refl _ | with_reducible exact Junk.app _ _ _ _ _ | with_reducible apply Junk.alloc | with_reducible apply Junk.junk | with_reducible apply Junk.drew | with_reducible apply Junk.drewN)); done) | ((try simp only [World.junk_junk, Array.append_assoc]); (repeat (first | with_reducible exact Junk.refl _ | with_reducible exact Junk.app _ _ _ _ _ | with_reducible exact Junk.app2 _ _ _ _ _ _ | with_reducible exact Junk.app3 _ _ _ _ _ _ _ | with_reducible exact Junk.app4 _ _ _ _ _ _ _ _ | with_reducible exact Junk.app5 _ _ _ _ _ _ _ _ _ | with_reducible apply Junk.alloc | with_reducible apply Junk.junk | with_reducible apply Junk.drew | with_reducible apply Junk.drewN))))))).mono ?_); rintro e w' ⟨⟨os2, d2, rfl⟩, o2, c2, hb2, rfl⟩; have Hb2 := Lib.hid hb2; clear hb2))
    all_goals (go_ret; exact ⟨ret_bool rfl, by (first | ((repeat (first | with_reducible exact Junk.refl _ | with_reducible exact Junk.app _ _ _ _ _ | with_reducible apply Junk.alloc | with_reducible apply Junk.junk | with_reducible apply Junk.drew | with_reducible apply Junk.drewN)); done) | ((try simp only [World.junk_junk, Array.append_assoc]); (repeat (first | with_reducible exact Junk.refl _ | with_reducible exact Junk.app _ _ _ _ _ | with_reducible exact Junk.app2 _ _ _ _ _ _ | with_reducible exact Junk.app3 _ _ _ _ _ _ _ | with_reducible exact Junk.app4 _ _ _ _ _ _ _ _ | with_reducible exact Junk.app5 _ _ _ _ _ _ _ _ _ | with_reducible apply Junk.alloc | with_reducible apply Junk.junk | with_reducible apply Junk.drew | with_reducible apply Junk.drewN))))⟩)
set_option maxHeartbeats 4000000 in
theorem errorInner_portD (kind code rest addr port : Int) (oa : Option Addr) (l c : Nat) (xs : Nat → Int) (w : World) (hB : Bts w oa l c xs) (haddr : 0 ≤ addr ∧ addr ≤ 4294967295) (hl : l ≤ 3000) (h0 : nmErr kind xs l = 0) (hp : ¬ (0 ≤ port ∧ port ≤ 65535)) : Calls Try.prog 4 #[.agg #[.int .i64 kind, .int .i64 code, .int .u32 rest, .slice oa l c], .int .u32 addr, .int .i64 port, .bool true] w fun e w' => e = .returned (.bool true) ∧ Junk w w' := by
  have HB := Lib.hid hB
  have hl1 : ¬ (3000 : Int) < (l : Int) := by omega
  obtain ⟨⟨tp, ts, sp, td, dp⟩, hT⟩ : ∃ t, nmTup xs l = t := ⟨_, rfl⟩
  have HN := Lib.hid (fun oa c w1 hb => names_ok (code := code) (rest := rest) (by omega : l ≤ 100000000) h0 hT oa c w1 hb)
  have HE : tnErr kind xs l port = 1 := by unfold tnErr; rw [if_neg (by rw [h0]; decide), if_pos (by omega)]
  have HS := Lib.hid (fun w1 (hb : Bts w1 oa l c xs) => show Calls Try.prog 16 #[.agg #[.int .i64 kind, .int .i64 code, .int .u32 rest, .slice oa l c], .int .u32 addr, .int .i64 port] w1 fun e w' => Junk w1 w' ∧ e = .returned (.tuple #[.agg #[.int .i64 0, .int .i64 0, .int .u32 0, .slice none 0 0], .int .i64 1]) by
    have := (dst_any kind code rest addr port oa l c xs w1 (by omega) hb haddr).mono fun e w' hp => hp.bad (by rw [HE]; decide)
    rw [HE] at this
    exact this)
  clear h0 hT HE hB
  by_cases hp0 : port < 0
  · clear hp
    go_enter Try.func4, Try.ntmps4
    go_wp2_with (first | (go_at_call 10; refine (awake26_any _).mono ?_; rintro e w' ⟨rfl, ⟨osj, dj, rfl⟩⟩) | (go_at_call 11; (with_reducible refine (HN.out oa c _ (HB.out.on (by (first | ((repeat (first | with_reducible exact Junk.refl _ | with_reducible exact Junk.app _ _ _ _ _ | with_reducible apply Junk.alloc | with_reducible apply Junk.junk | with_reducible apply Junk.drew | with_reducible apply Junk.drewN)); done) | ((try simp only [World.junk_junk, Array.append_assoc]); (repeat (first | with_reducible exact Junk.refl _ | with_reducible exact Junk.app _ _ _ _ _ | with_reducible exact Junk.app2 _ _ _ _ _ _ | with_reducible exact Junk.app3 _ _ _ _ _ _ _ | with_reducible exact Junk.app4 _ _ _ _ _ _ _ _ | with_reducible exact Junk.app5 _ _ _ _ _ _ _ _ _ | with_reducible apply Junk.alloc | with_reducible apply Junk.junk | with_reducible apply Junk.drew | with_reducible apply Junk.drewN))))))).mono ?_); rintro e w' ⟨rfl, ⟨osj, dj, rfl⟩⟩) | (go_at_call 16; (with_reducible refine (HS.out _ (HB.out.on (by (first | ((repeat (first | with_reducible exact Junk.refl _ | with_reducible exact Junk.app _ _ _ _ _ | with_reducible apply Junk.alloc | with_reducible apply Junk.junk | with_reducible apply Junk.drew | with_reducible apply Junk.drewN)); done) | ((try simp only [World.junk_junk, Array.append_assoc]); (repeat (first | with_reducible exact Junk.refl _ | with_reducible exact Junk.app _ _ _ _ _ | with_reducible exact Junk.app2 _ _ _ _ _ _ | with_reducible exact Junk.app3 _ _ _ _ _ _ _ | with_reducible exact Junk.app4 _ _ _ _ _ _ _ _ | with_reducible exact Junk.app5 _ _ _ _ _ _ _ _ _ | with_reducible apply Junk.alloc | with_reducible apply Junk.junk | with_reducible apply Junk.drew | with_reducible apply Junk.drewN))))))).mono ?_); rintro e w' ⟨⟨os1, d1, rfl⟩, rfl⟩))
    all_goals (go_ret; exact ⟨ret_bool rfl, by (first | ((repeat (first | with_reducible exact Junk.refl _ | with_reducible exact Junk.app _ _ _ _ _ | with_reducible apply Junk.alloc | with_reducible apply Junk.junk | with_reducible apply Junk.drew | with_reducible apply Junk.drewN)); done) | ((try simp only [World.junk_junk, Array.append_assoc]); (repeat (first | with_reducible exact Junk.refl _ | with_reducible exact Junk.app _ _ _ _ _ | with_reducible exact Junk.app2 _ _ _ _ _ _ | with_reducible exact Junk.app3 _ _ _ _ _ _ _ | with_reducible exact Junk.app4 _ _ _ _ _ _ _ _ | with_reducible exact Junk.app5 _ _ _ _ _ _ _ _ _ | with_reducible apply Junk.alloc | with_reducible apply Junk.junk | with_reducible apply Junk.drew | with_reducible apply Junk.drewN))))⟩)
  · have hp1 : 65535 < port := by omega
    clear hp
    go_enter Try.func4, Try.ntmps4
    go_wp2_with (first | (go_at_call 10; refine (awake26_any _).mono ?_; rintro e w' ⟨rfl, ⟨osj, dj, rfl⟩⟩) | (go_at_call 11; (with_reducible refine (HN.out oa c _ (HB.out.on (by (first | ((repeat (first | with_reducible exact Junk.refl _ | with_reducible exact Junk.app _ _ _ _ _ | with_reducible apply Junk.alloc | with_reducible apply Junk.junk | with_reducible apply Junk.drew | with_reducible apply Junk.drewN)); done) | ((try simp only [World.junk_junk, Array.append_assoc]); (repeat (first | with_reducible exact Junk.refl _ | with_reducible exact Junk.app _ _ _ _ _ | with_reducible exact Junk.app2 _ _ _ _ _ _ | with_reducible exact Junk.app3 _ _ _ _ _ _ _ | with_reducible exact Junk.app4 _ _ _ _ _ _ _ _ | with_reducible exact Junk.app5 _ _ _ _ _ _ _ _ _ | with_reducible apply Junk.alloc | with_reducible apply Junk.junk | with_reducible apply Junk.drew | with_reducible apply Junk.drewN))))))).mono ?_); rintro e w' ⟨rfl, ⟨osj, dj, rfl⟩⟩) | (go_at_call 16; (with_reducible refine (HS.out _ (HB.out.on (by (first | ((repeat (first | with_reducible exact Junk.refl _ | with_reducible exact Junk.app _ _ _ _ _ | with_reducible apply Junk.alloc | with_reducible apply Junk.junk | with_reducible apply Junk.drew | with_reducible apply Junk.drewN)); done) | ((try simp only [World.junk_junk, Array.append_assoc]); (repeat (first | with_reducible exact Junk.refl _ | with_reducible exact Junk.app _ _ _ _ _ | with_reducible exact Junk.app2 _ _ _ _ _ _ | with_reducible exact Junk.app3 _ _ _ _ _ _ _ | with_reducible exact Junk.app4 _ _ _ _ _ _ _ _ | with_reducible exact Junk.app5 _ _ _ _ _ _ _ _ _ | with_reducible apply Junk.alloc | with_reducible apply Junk.junk | with_reducible apply Junk.drew | with_reducible apply Junk.drewN))))))).mono ?_); rintro e w' ⟨⟨os1, d1, rfl⟩, rfl⟩))
    all_goals (go_ret; exact ⟨ret_bool rfl, by (first | ((repeat (first | with_reducible exact Junk.refl _ | with_reducible exact Junk.app _ _ _ _ _ | with_reducible apply Junk.alloc | with_reducible apply Junk.junk | with_reducible apply Junk.drew | with_reducible apply Junk.drewN)); done) | ((try simp only [World.junk_junk, Array.append_assoc]); (repeat (first | with_reducible exact Junk.refl _ | with_reducible exact Junk.app _ _ _ _ _ | with_reducible exact Junk.app2 _ _ _ _ _ _ | with_reducible exact Junk.app3 _ _ _ _ _ _ _ | with_reducible exact Junk.app4 _ _ _ _ _ _ _ _ | with_reducible exact Junk.app5 _ _ _ _ _ _ _ _ _ | with_reducible apply Junk.alloc | with_reducible apply Junk.junk | with_reducible apply Junk.drew | with_reducible apply Junk.drewN))))⟩)
set_option maxHeartbeats 4000000 in
theorem errorInner_okD (kind code rest addr port : Int) (oa : Option Addr) (l c : Nat) (xs : Nat → Int) (w : World) (hB : Bts w oa l c xs) (haddr : 0 ≤ addr ∧ addr ≤ 4294967295) (hl : l ≤ 3000) (h0 : nmErr kind xs l = 0) (hp : 0 ≤ port ∧ port ≤ 65535) : Calls Try.prog 4 #[.agg #[.int .i64 kind, .int .i64 code, .int .u32 rest, .slice oa l c], .int .u32 addr, .int .i64 port, .bool true] w fun e w' => e = .returned (.bool true) ∧ Junk w w' := by
  have HB := Lib.hid hB
  have hl1 : ¬ (3000 : Int) < (l : Int) := by omega
  have hl8 : l ≤ 100000000 := by omega
  have hx := hB.byte
  obtain ⟨⟨tp, ts, sp, td, dp⟩, hT⟩ : ∃ t, nmTup xs l = t := ⟨_, rfl⟩
  have hbd := nmTup_bd h0 hT hx
  have hbs := hbd.bs
  have hbsp := hbd.bsp
  have hbt := hbd.bd
  have hbdp := hbd.bdp
  have hbe := hbd.eq
  clear hbd
  have HN0 := Lib.hid (fun oa c w1 hb => names_ok (code := code) (rest := rest) hl8 h0 hT oa c w1 hb)
  have HS1 := Lib.hid (fun oa c w1 hb => dst_ok (code := code) (rest := rest) hl8 haddr h0 hp oa c w1 hb)
  obtain ⟨u, hu⟩ : ∃ u, (if tp = 1 then port else sp) = u := ⟨_, rfl⟩
  have hn1 := fun hy => nm_dst (addr := addr) (port := port) h0 hT hx hy haddr
  rw [hu] at hn1
  have HN1 := Lib.hid (fun ob cb w1 (hb : Bts w1 ob l cb (tnB xs l 16 2 addr port)) => names_ok (code := code) (rest := rest) hl8 (hn1 hb.byte).1 (hn1 hb.byte).2 ob cb w1 hb)
  have HS2 := Lib.hid (fun ob cb w1 (hb : Bts w1 ob l cb (tnB xs l 16 2 addr port)) => dst_ok (code := code) (rest := rest) hl8 hbt (hn1 hb.byte).1 hbdp ob cb w1 hb)
  have HY := fun ob cb w1 (hb : Bts w1 ob l cb (tnB xs l 16 2 addr port)) => Lib.hid hb.byte
  have HN2 := Lib.hid (fun (hy : Hid (∀ i, i < l → 0 ≤ tnB xs l 16 2 addr port i ∧ tnB xs l 16 2 addr port i ≤ 255)) ob cb w1 (hb : Bts w1 ob l cb (tnB (tnB xs l 16 2 addr port) l 16 2 td dp)) => show Calls Try.prog 11 #[.agg #[.int .i64 kind, .int .i64 code, .int .u32 rest, .slice ob l cb]] w1 fun e w' => e = .returned (.tuple #[.agg #[.int .i64 tp, .int .u32 ts, .int .i64 sp, .int .u32 td, .int .i64 dp], .int .i64 0]) ∧ Junk w1 w' by
    have h2 := nm_dst (addr := td) (port := dp) (hn1 hy.out).1 (hn1 hy.out).2 hy.out hb.byte hbt
    have h3 : (if tp = 1 then dp else u) = sp := by
      rw [← hu]
      split
      · exact Eq.symm (hbe ‹_›)
      · rfl
    rw [h3] at h2
    exact names_ok (code := code) (rest := rest) hl8 h2.1 h2.2 ob cb w1 hb)
  have hg := tupq_guard
  have hq : ∀ w, (binOp .eql 28 (.agg #[.int .i64 tp, .int .u32 ts, .int .i64 sp, .int .u32 td, .int .i64 dp]) (.agg #[.int .i64 tp, .int .u32 ts, .int .i64 sp, .int .u32 td, .int .i64 dp])).run Try.prog w = .ok (.bool true) w := fun w => by have := tupq_eql ⟨tp, ts, sp, td, dp⟩ ⟨tp, ts, sp, td, dp⟩ w; rw [decide_eq_true rfl] at this; exact this
  have hcase : (u == sp) = true ∨ ((u == sp) = false ∧ (tp == 1) = true ∧ (u == port) = true) := by
    by_cases h1 : u = sp
    · exact .inl (by simpa using h1)
    · refine .inr ⟨by simpa using h1, ?_, ?_⟩
      · by_cases h2 : tp = 1
        · simpa using h2
        · rw [if_neg h2] at hu; exact absurd hu.symm h1
      · by_cases h2 : tp = 1
        · rw [if_pos h2] at hu; simpa using hu.symm
        · rw [if_neg h2] at hu; exact absurd hu.symm h1
  clear h0 hT hu hn1 hB hx hbe HY
  rcases hcase with k1 | ⟨k1, k2, k3⟩
  all_goals
    go_enter Try.func4, Try.ntmps4
    go_wp2_with (first | (go_at_call 10; refine (awake26_any _).mono ?_; rintro e w' ⟨rfl, ⟨osj, dj, rfl⟩⟩) | (go_at_call 11; (with_reducible refine (HN0.out oa c _ (HB.out.on (by (first | ((repeat (first | with_reducible exact Junk.refl _ | with_reducible exact Junk.app _ _ _ _ _ | with_reducible apply Junk.alloc | with_reducible apply Junk.junk | with_reducible apply Junk.drew | with_reducible apply Junk.drewN)); done) | ((try simp only [World.junk_junk, Array.append_assoc]); (repeat (first | with_reducible exact Junk.refl _ | with_reducible exact Junk.app _ _ _ _ _ | with_reducible exact Junk.app2 _ _ _ _ _ _ | with_reducible exact Junk.app3 _ _ _ _ _ _ _ | with_reducible exact Junk.app4 _ _ _ _ _ _ _ _ | with_reducible exact Junk.app5 _ _ _ _ _ _ _ _ _ | with_reducible apply Junk.alloc | with_reducible apply Junk.junk | with_reducible apply Junk.drew | with_reducible apply Junk.drewN))))))).mono ?_); rintro e w' ⟨rfl, ⟨osj, dj, rfl⟩⟩) | (go_at_call 11; (with_reducible refine (HN1.out o1 c1 _ (Hb1.out.on (by (first | ((repeat (first | with_reducible exact Junk.refl _ | with_reducible exact Junk.app _ _ _ _ _ | with_reducible apply Junk.alloc | with_reducible apply Junk.junk | with_reducible apply Junk.drew | with_reducible apply Junk.drewN)); done) | ((try simp only [World.junk_junk, Array.append_assoc]); (repeat (first | with_reducible exact Junk.refl _ | with_reducible exact Junk.app _ _ _ _ _ | with_reducible exact Junk.app2 _ _ _ _ _ _ | with_reducible exact Junk.app3 _ _ _ _ _ _ _ | with_reducible exact Junk.app4 _ _ _ _ _ _ _ _ | with_reducible exact Junk.app5 _ _ _ _ _ _ _ _ _ | with_reducible apply Junk.alloc | with_reducible apply Junk.junk | with_reducible apply Junk.drew | with_reducible apply Junk.drewN))))))).mono ?_); rintro e w' ⟨rfl, ⟨osj, dj, rfl⟩⟩) | (go_at_call 11; (with_reducible refine (HN2.out (Lib.hid Hb1.out.byte) o2 c2 _ (Hb2.out.on (by (first | ((repeat (first | with_reducible exact Junk.refl _ | with_reducible exact Junk.app _ _ _ _ _ | with_reducible apply Junk.alloc | with_reducible apply Junk.junk | with_reducible apply Junk.drew | with_reducible apply Junk.drewN)); done) | ((try simp only [World.junk_junk, Array.append_assoc]); (repeat (first | with_reducible exact Junk.refl _ | with_reducible exact Junk.app _ _ _ _ _ | with_reducible exact Junk.app2 _ _ _ _ _ _ | with_reducible exact Junk.app3 _ _ _ _ _ _ _ | with_reducible exact Junk.app4 _ _ _ _ _ _ _ _ | with_reducible exact Junk.app5 _ _ _ _ _ _ _ _ _ | with_reducible apply Junk.alloc | with_reducible apply Junk.junk | with_reducible apply Junk.drew | with_reducible apply Junk.drewN))))))).mono ?_); rintro e w' ⟨rfl, ⟨osj, dj, rfl⟩⟩) | (go_at_call 16; (with_reducible refine (HS1.out oa c _ (HB.out.on (by (first | ((repeat (first | with_reducible exact Junk.refl _ | with_reducible exact Junk.app _ _ _ _ _ | with_reducible apply Junk.alloc | with_reducible apply Junk.junk | with_reducible apply Junk.drew | with_reducible apply Junk.drewN)); done) | ((try simp only [World.junk_junk, Array.append_assoc]); (repeat (first | with_reducible exact Junk.refl _ | with_reducible exact Junk.app _ _ _ _ _ | with_reducible exact Junk.app2 _ _ _ _ _ _ | with_reducible exact Junk.app3 _ _ _ _ _ _ _ | with_reducible exact Junk.app4 _ _ _ _ _ _ _ _ | with_reducible exact Junk.app5 _ _ _ _ _ _ _ _ _ | with_reducible apply Junk.alloc | with_reducible apply Junk.junk | with_reducible apply Junk.drew | with_reducible apply Junk.drewN))))))).mono ?_); rintro e w' ⟨⟨os1, d1, rfl⟩, o1, c1, hb1, rfl⟩; have Hb1 := Lib.hid hb1; clear hb1) | (go_at_call 16; (with_reducible refine (HS2.out o1 c1 _ (Hb1.out.on (by (first | ((repeat (first | with_reducible exact Junk.refl _ | with_reducible exact Junk.app _ _ _ _ _ | with_reducible apply Junk.alloc | with_reducible apply Junk.junk | with_reducible apply Junk.drew | with_reducible apply Junk.drewN)); done) | ((try simp only [World.junk_junk, Array.append_assoc]); (repeat (first | with_reducible exact Junk.refl _ | with_reducible exact Junk.app _ _ _ _ _ | with_reducible exact Junk.app2 _ _ _ _ _ _ | with_reducible exact Junk.app3 _ _ _ _ _ _ _ | with_reducible exact Junk.app4 _ _ _ _ _ _ _ _ | with_reducible exact Junk.app5 _ _ _ _ _ _ _ _ _ | with_reducible apply Junk.alloc | with_reducible apply Junk.junk | with_reducible apply Junk.drew | with_reducible apply Junk.drewN))))))).mono ?_); rintro e w' ⟨⟨os2, d2, rfl⟩, o2, c2, hb2, rfl⟩; have Hb2 := Lib.hid hb2; clear hb2))
    all_goals (go_ret; exact ⟨ret_bool rfl, by (first | ((repeat (first | with_reducible exact Junk.refl _ | with_reducible exact Junk.app _ _ _ _ _ | with_reducible apply Junk.alloc | with_reducible apply Junk.junk | with_reducible apply Junk.drew | with_reducible apply Junk.drewN)); done) | ((try simp only [World.junk_junk, Array.append_assoc]); (repeat (first | with_reducible exact Junk.refl _ | with_reducible exact Junk.app _ _ _ _ _ | with_reducible exact Junk.app2 _ _ _ _ _ _ | with_reducible exact Junk.app3 _ _ _ _ _ _ _ | with_reducible exact Junk.app4 _ _ _ _ _ _ _ _ | with_reducible exact Junk.app5 _ _ _ _ _ _ _ _ _ | with_reducible apply Junk.alloc | with_reducible apply Junk.junk | with_reducible apply Junk.drew | with_reducible apply Junk.drewN))))⟩)
theorem errorInner_walk (kind code rest addr port : Int) (oa : Option Addr) (l c : Nat) (xs : Nat → Int) (w : World) (hB : Bts w oa l c xs) (haddr : 0 ≤ addr ∧ addr ≤ 4294967295) (dst : Bool) : Calls Try.prog 4 #[.agg #[.int .i64 kind, .int .i64 code, .int .u32 rest, .slice oa l c], .int .u32 addr, .int .i64 port, .bool dst] w fun e w' => e = .returned (.bool true) ∧ Junk w w' := by
  by_cases h : l ≤ 3000 ∧ nmErr kind xs l = 0
  · by_cases hp : 0 ≤ port ∧ port ≤ 65535
    · cases dst with
      | false => exact errorInner_okS kind code rest addr port oa l c xs w hB haddr h.1 h.2 hp
      | true => exact errorInner_okD kind code rest addr port oa l c xs w hB haddr h.1 h.2 hp
    · cases dst with
      | false => exact errorInner_portS kind code rest addr port oa l c xs w hB haddr h.1 h.2 hp
      | true => exact errorInner_portD kind code rest addr port oa l c xs w hB haddr h.1 h.2 hp
  · exact errorInner_bad kind code rest addr port oa l c xs w hB haddr dst h

theorem errorInner_core (W : World) (base : Nat) (v0 v1 v2 v3 : Value) (a0 : Arg Try.prog W base 25 v0) (a1 : Arg Try.prog W base 22 v1) (a2 : Arg Try.prog W base 3 v2) (a3 : Arg Try.prog W base 4 v3) :
    Calls Try.prog 4 #[v0, v1, v2, v3] W fun e W' => e = .returned (.bool true) ∧ Junk W W' := by
  obtain ⟨cs_m, rfl, h_m⟩ := a0.struct Try.underlying25
  obtain ⟨hl_m, hf_m⟩ := h_m.fields1 Try.underlying25 (by kernel_rfl) (n := 4) (by kernel_rfl)
  obtain ⟨m_Type, lm0, e_m0⟩ : ∃ x l, cs_m = x :: l := by cases cs_m with | nil => simp at hl_m | cons x l => exact ⟨x, l, rfl⟩
  subst e_m0
  obtain ⟨m_Code, lm1, e_m1⟩ : ∃ x l, lm0 = x :: l := by cases lm0 with | nil => simp at hl_m | cons x l => exact ⟨x, l, rfl⟩
  subst e_m1
  obtain ⟨m_Rest, lm2, e_m2⟩ : ∃ x l, lm1 = x :: l := by cases lm1 with | nil => simp at hl_m | cons x l => exact ⟨x, l, rfl⟩
  subst e_m2
  obtain ⟨m_Body, lm3, e_m3⟩ : ∃ x l, lm2 = x :: l := by cases lm2 with | nil => simp at hl_m | cons x l => exact ⟨x, l, rfl⟩
  subst e_m3
  obtain rfl : lm3 = [] := by simpa using hl_m
  have f_m0 : Cells Try.prog W 3 [m_Type] := hf_m 0 _ rfl
  have f_m1 : Cells Try.prog W 3 [m_Code] := hf_m 1 _ rfl
  have f_m2 : Cells Try.prog W 22 [m_Rest] := hf_m 2 _ rfl
  have f_m3 : Cells Try.prog W 23 [m_Body] := hf_m 3 _ rfl
  clear hf_m hl_m
  obtain ⟨m_Type, e_m_Type, w_m_Type⟩ := f_m0.int Try.underlying3; cases e_m_Type
  obtain ⟨m_Code, e_m_Code, w_m_Code⟩ := f_m1.int Try.underlying3; cases e_m_Code
  obtain ⟨m_Rest, e_m_Rest, w_m_Rest⟩ := f_m2.int Try.underlying22; cases e_m_Rest
  obtain ⟨m_Body_a, m_Body_l, m_Body_c, m_Body, e_m_Body, lc_m_Body, cm_m_Body, S_m_Body, w_m_Body⟩ := f_m3.ints Try.underlying23 Try.underlying5 (by kernel_rfl); cases e_m_Body
  obtain ⟨addr, rfl, w_addr⟩ := a1.int Try.underlying22
  obtain ⟨port, rfl, w_port⟩ := a2.int Try.underlying3
  obtain ⟨dst, rfl⟩ := a3.bool Try.underlying4
  have hlm : maxLen = 9223372036854775807 := rfl
  exact errorInner_walk m_Type m_Code m_Rest addr port m_Body_a m_Body_l m_Body_c m_Body W ⟨S_m_Body, fun i hi => bounds_u8 (w_m_Body i hi), Cells.nil_slice Try.underlying23 f_m3, lc_m_Body, cm_m_Body⟩ (bounds_u32 w_addr) dst
set_option maxRecDepth 100000 in
theorem errorInner_lifted (os : Os) (started : os.Started) (H : Type) (enc : TypeId × Value → H) :
    ReturnsInHanded {} Try.checked os 4 .any (Rows.errorInnerSpec.pre6 enc Try.prog Try.f4 Rows.errorInnerRow.domain false) (Rows.errorInnerSpec.post enc Try.prog Try.f4 false true false false) := by
  refine returnsInHanded_of_change (C := Try.checked) (by kernel_rfl) started (by kernel_rfl) Try.func4
    (ChangeSpec.witness6 (enc := enc) (C := Try.checked) false ⟨#[], #[.agg #[.int .i64 0, .int .i64 0, .int .u32 0, .slice none 0 0], .int .u32 0, .int .i64 0, .bool false], []⟩ 8 (by kernel_rfl) (by kernel_rfl) (by kernel_rfl) (by kernel_rfl)) ?_
  intro W base args ds gs before hval hW _ _
  obtain ⟨p, q, hA, _, _, _, _⟩ := id hW
  have hargs : Args Try.prog W base Try.f4.params.toList args.toList := args_of (fun j t v h1 h2 => hval j t v (by simpa using h1) (by simpa using h2)) hA
  rw [Try.params4] at hargs
  obtain ⟨v0, l0, e0, a0, r0⟩ := args_cons hargs
  obtain ⟨v1, l1, e1, a1, r1⟩ := args_cons r0
  obtain ⟨v2, l2, e2, a2, r2⟩ := args_cons r1
  obtain ⟨v3, l3, e3, a3, r3⟩ := args_cons r2
  have hn := args_nil r3
  have he : args = #[v0, v1, v2, v3] := by
    apply Array.ext'
    simp only [e0, e1, e2, e3, hn]
  subst he
  exact (errorInner_core W base v0 v1 v2 v3 a0 a1 a2 a3).mono fun e W' ⟨he, hj⟩ => ⟨_, he, post_true (tb := 4) (by kernel_rfl) (by kernel_rfl) rfl (by kernel_rfl) rfl hW (fun hg hl => by
    subst hg
    match ds, hl with
    | [_, _, _, _], _ => exact ⟨rfl, rfl, rfl⟩) hj⟩
theorem errorInner_holds : Rows.ErrorInnerSaid :=
  OpenClaim.holds_of_wide 4 Try.f4 rfl rfl rfl rfl rfl rfl rfl ⟨rfl, rfl, rfl, rfl, rfl⟩ rfl rfl rfl rfl rfl (by kernel_rfl) Try.func4 (by kernel_rfl)
    (of_decide_eq_true (by kernel_rfl)) (by unfold Func.isWrapper; rw [if_neg (of_decide_eq_false (by kernel_rfl))]; exact ⟨rfl, rfl⟩)
    (fun os started H enc _ => errorInner_lifted os started H enc)

end Go.Proofs.Ytnefphinmjeacaa
