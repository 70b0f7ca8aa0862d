/- The law NatRight: any loans are right or not; any name asks, and is found, as the document says; what is over goes; they stay as they are. -/
import Derived.Test.YtambpmbgfjefcaaNatP
import Derived.Test.YtambpmbgfjefcaaNatO
import Derived.Test.YtambpmbgfjefcaaNatN
set_option linter.unusedVariables false
set_option maxRecDepth 100000
set_option linter.unusedSimpArgs false
namespace Go.Proofs.Ytambpmbgfjefcaa
open Go.RowKit
set_option maxHeartbeats 8000000 in
theorem natRight_main (L : List Ln) (lo hi : Int) (x : Ln) (D : Nat) (now : Int) (oa : Option Addr) (l c : Nat) (w : World) (hL : L.length = l) (hlc : l ≤ c) (hS : LsAt w oa L) (hn : oa = none → l = 0 ∧ c = 0) (hD : D < 4294967296) (h40 : l ≤ 40) (hcase : rightB lo hi = false ∨ (rightB lo hi = true ∧ hi - lo ≤ 300)) :
    Calls Try.prog 8 #[.slice oa l c, .int .i64 lo, .int .i64 hi, x.val, .int .u32 (D : Int), .int .i64 now] w fun e w' => e = .returned (.bool true) ∧ Junk w w' := by
  have HS := Lib.hid hS
  have HL := Lib.hid hL
  have HN := Lib.hid hn
  have HB := Lib.hid (show (lnsL L).length = l * 5 by rw [lnsL_len, hL])
  have hg := ln_guard
  obtain ⟨⟨N, p, er⟩, hR⟩ : ∃ R, R = askP lo hi L x D := ⟨_, rfl⟩
  obtain ⟨n, hnn⟩ : ∃ n, n = N.length := ⟨_, rfl⟩
  obtain ⟨R1, hR1⟩ : ∃ R1, R1 = natRight lo hi L := ⟨_, rfl⟩
  obtain ⟨⟨⟨yp, yi, yn, yo, yt⟩, yb⟩, hY⟩ : ∃ R, R = whoP L x.proto x.port := ⟨_, rfl⟩
  obtain ⟨⟨⟨zp, zi, zn, zo, zt⟩, zb⟩, hZ⟩ : ∃ R, R = whoseP L x.proto x.inn x.inport := ⟨_, rfl⟩
  obtain ⟨T, hT⟩ : ∃ T, T = tickL L now := ⟨_, rfl⟩
  obtain ⟨t, htt⟩ : ∃ t, t = T.length := ⟨_, rfl⟩
  have htl : t ≤ l := by rw [htt, hT, ← hL]; exact List.length_filter_le _ _
  have a1 : ∀ w1 o cc, l ≤ cc → LsAt w1 o L → (o = none → l = 0 ∧ cc = 0) → Calls Try.prog 20 #[.slice o l cc, .int .i64 lo, .int .i64 hi, x.val, .int .u32 (D : Int)] w1 fun e w' => ∃ ob cap, e = .returned (.tuple #[.slice ob n cap, .int .i64 p, .int .i64 er]) ∧ Junk w1 w' ∧ Own w1.heap.size w' 39 5 ob cap n (lnsL N) := fun w1 o cc h1 h2 h3 => by
    have := ask_any lo hi o l cc L x D w1 (by omega) h1 hL h2 h3 hD
    rw [← hR] at this
    exact this.mono fun e w' ⟨o2, p2, q1, q2, q3, q4⟩ => ⟨o2, p2, by rw [q1, hnn], q2, by rw [hnn]; exact q3⟩
  have a2 : ∀ w1, LsAt w1 oa L → Calls Try.prog 21 #[.slice oa l c, .int .i64 lo, .int .i64 hi, x.val, .int .u32 (D : Int)] w1 fun e w' => ∃ ob cap, e = .returned (.tuple #[.slice ob n cap, .int .i64 p, .int .i64 er]) ∧ Junk w1 w' ∧ Own w1.heap.size w' 39 5 ob cap n (lnsL N) := fun w1 h2 => by
    have := rask_any lo hi oa l c L x D w1 (by omega) hL h2 hn hD
    rw [← hR] at this
    exact this.mono fun e w' ⟨o2, p2, q1, q2, q3, q4⟩ => ⟨o2, p2, by rw [q1, hnn], q2, by rw [hnn]; exact q3⟩
  have rt : ∀ w1 o cc, l ≤ cc → LsAt w1 o L → Calls Try.prog 19 #[.slice o l cc, .int .i64 lo, .int .i64 hi] w1 fun e w' => e = .returned (.bool R1) ∧ Junk w1 w' := fun w1 o cc h1 h2 => by rw [hR1]; exact natRight_any lo hi o l cc L w1 (by omega) h1 hL h2
  have rt2 : ∀ w1, LsAt w1 oa L → Calls Try.prog 22 #[.slice oa l c, .int .i64 lo, .int .i64 hi] w1 fun e w' => e = .returned (.bool R1) ∧ Junk w1 w' := fun w1 h2 => by rw [hR1]; exact rrightL_any lo hi oa l c L w1 (by omega) hL h2
  have wh : ∀ w1 o cc, LsAt w1 o L → Calls Try.prog 24 #[.slice o l cc, .int .i64 x.proto, .int .i64 x.port] w1 fun e w' => e = .returned (.tuple #[.agg #[.int .i64 yp, .int .u32 yi, .int .i64 yn, .int .i64 yo, .int .i64 yt], .bool yb]) ∧ Junk w1 w' := fun w1 o cc h => by have := who_any x.proto x.port o l cc L w1 (by omega) hL h; rw [← hY] at this; exact this
  have wh2 : ∀ w1, LsAt w1 oa L → Calls Try.prog 25 #[.slice oa l c, .int .i64 x.proto, .int .i64 x.port] w1 fun e w' => e = .returned (.tuple #[.agg #[.int .i64 yp, .int .u32 yi, .int .i64 yn, .int .i64 yo, .int .i64 yt], .bool yb]) ∧ Junk w1 w' := fun w1 h => by have := rwho_any x.proto x.port oa l c L w1 (by omega) hL h; rw [← hY] at this; exact this
  have ws : ∀ w1 o cc, LsAt w1 o L → Calls Try.prog 26 #[.slice o l cc, .int .i64 x.proto, .int .u32 x.inn, .int .i64 x.inport] w1 fun e w' => e = .returned (.tuple #[.agg #[.int .i64 zp, .int .u32 zi, .int .i64 zn, .int .i64 zo, .int .i64 zt], .bool zb]) ∧ Junk w1 w' := fun w1 o cc h => by have := whose_any x.proto x.inn x.inport o l cc L w1 (by omega) hL h; rw [← hZ] at this; exact this
  have ws2 : ∀ w1, LsAt w1 oa L → Calls Try.prog 27 #[.slice oa l c, .int .i64 x.proto, .int .u32 x.inn, .int .i64 x.inport] w1 fun e w' => e = .returned (.tuple #[.agg #[.int .i64 zp, .int .u32 zi, .int .i64 zn, .int .i64 zo, .int .i64 zt], .bool zb]) ∧ Junk w1 w' := fun w1 h => by have := rwhose_any x.proto x.inn x.inport oa l c L w1 (by omega) hL h; rw [← hZ] at this; exact this
  obtain ⟨q, hq⟩ : ∃ q, q = l - t := ⟨_, rfl⟩
  have tk : ∀ w1 o cc, LsAt w1 o L → (o = none → l = 0 ∧ cc = 0) → Calls Try.prog 28 #[.slice o l cc, .int .i64 now] w1 fun e w' => ∃ ob cap, e = .returned (.tuple #[.slice ob t cap, .int .i64 (q : Int)]) ∧ Junk w1 w' ∧ Own w1.heap.size w' 39 5 ob cap t (lnsL T) := fun w1 o cc h h3 => by
    have := tick_any now o l cc L w1 (by omega) hL h h3
    unfold TickM at this
    rw [← hT, ← htt, hL, ← hq] at this
    exact this
  have tk2 : ∀ w1, LsAt w1 oa L → Calls Try.prog 29 #[.slice oa l c, .int .i64 now] w1 fun e w' => ∃ ob cap, e = .returned (.tuple #[.slice ob t cap, .int .i64 (q : Int)]) ∧ Junk w1 w' ∧ Own w1.heap.size w' 39 5 ob cap t (lnsL T) := fun w1 h => by
    have := rtick_any now oa l c L w1 (by omega) hL h
    unfold TickM at this
    rw [← hT, ← htt, hL, ← hq] at this
    exact this
  have hn9 : n ≤ 1000000 := by
    have : N.length ≤ L.length + 1 := by
      have h := congrArg (fun r => r.1.length) hR
      dsimp only at h
      rw [h]
      unfold askP
      split
      · exact Nat.le_succ _
      · split
        · split
          · rw [List.length_set]; exact Nat.le_succ _
          · exact Nat.le_succ _
        · dsimp only
          split
          · rw [List.length_append]; exact Nat.le_refl _
          · exact Nat.le_succ _
    omega
  have A1 := Lib.hid a1
  have A2 := Lib.hid a2
  have RT := Lib.hid rt
  have RT2 := Lib.hid rt2
  have WH := Lib.hid wh
  have WH2 := Lib.hid wh2
  have WS := Lib.hid ws
  have WS2 := Lib.hid ws2
  have TK := Lib.hid tk
  have TK2 := Lib.hid tk2
  have HNl := Lib.hid hnn.symm
  have HTl := Lib.hid htt.symm
  obtain ⟨xp, xi, xn, xo, xt⟩ := x
  have q1 : ∀ w, (binOp .eql 39 (.agg #[.int .i64 yp, .int .u32 yi, .int .i64 yn, .int .i64 yo, .int .i64 yt]) (.agg #[.int .i64 yp, .int .u32 yi, .int .i64 yn, .int .i64 yo, .int .i64 yt])).run Try.prog w = .ok (.bool true) w := fun w => by have := ln_eql ⟨yp, yi, yn, yo, yt⟩ ⟨yp, yi, yn, yo, yt⟩ w; rw [decide_eq_true rfl] at this; exact this
  have q2 : ∀ w, (binOp .eql 39 (.agg #[.int .i64 zp, .int .u32 zi, .int .i64 zn, .int .i64 zo, .int .i64 zt]) (.agg #[.int .i64 zp, .int .u32 zi, .int .i64 zn, .int .i64 zo, .int .i64 zt])).run Try.prog w = .ok (.bool true) w := fun w => by have := ln_eql ⟨zp, zi, zn, zo, zt⟩ ⟨zp, zi, zn, zo, zt⟩ w; rw [decide_eq_true rfl] at this; exact this
  have h40' : ¬ (40 : Int) < (l : Int) := by omega
  clear hS hL hn hR hR1 hY hZ hT a1 a2 rt rt2 wh wh2 ws ws2 tk tk2 hnn htt hq
  rcases hcase with hr | ⟨hr, h300⟩
  · go_enter Try.func8, Try.ntmps8
    go_wp2_with (first
      | (go_at_call 18; refine (awake17_any _).mono ?_; rintro e w' ⟨rfl, ⟨osj, dj, rfl⟩⟩)
      | (go_at_call 15; refine (rright_any lo hi _).mono ?_; rintro e w' ⟨rfl, rfl⟩; rw [hr])
      | (at_builtin; (refine ap_own (W0 := (w.alloc (.cells #[.int .i64 xp, .int .u32 xi, .int .i64 xn, .int .i64 xo, .int .i64 xt] 39))) rfl _ _ 37 rfl 39 (.agg #[.int .i64 0, .int .u32 0, .int .i64 0, .int .i64 0, .int .i64 0]) 5 40 (by kernel_rfl) rfl (by decide) Try.underlying37 (by ((try simp only [World.junk_junk, Array.append_assoc]); (repeat (first | with_reducible exact Junk.refl _ | with_reducible exact Junk.app _ _ _ _ _ | with_reducible exact Junk.app2 _ _ _ _ _ _ | with_reducible exact Junk.app3 _ _ _ _ _ _ _ | with_reducible exact Junk.app4 _ _ _ _ _ _ _ _ | with_reducible exact Junk.app5 _ _ _ _ _ _ _ _ _ | with_reducible apply Junk.alloc | with_reducible apply Junk.junk | with_reducible apply Junk.drew | with_reducible apply Junk.drewN)))) _ 0 0 [] rfl (own_mk _ _ 5 0 _ _ (by simp) (by simp) (by decide) (by simp)) oa l c rfl (lnsL L) HB.out (LsAt.src (HS.out.on (by ((try simp only [World.junk_junk, Array.append_assoc]); (repeat (first | with_reducible exact Junk.refl _ | with_reducible exact Junk.app _ _ _ _ _ | with_reducible exact Junk.app2 _ _ _ _ _ _ | with_reducible exact Junk.app3 _ _ _ _ _ _ _ | with_reducible exact Junk.app4 _ _ _ _ _ _ _ _ | with_reducible exact Junk.app5 _ _ _ _ _ _ _ _ _ | with_reducible apply Junk.alloc | with_reducible apply Junk.junk | with_reducible apply Junk.drew | with_reducible apply Junk.drewN)))))) HN.out (lnsL_one' L) (by simp only [maxLen]; omega) (by omega) ?_; intro om cm osj dj hown _; rw [List.nil_append, Nat.zero_add] at hown; have Hm := Lib.hid hown; clear hown))
      | (go_at_call 20; refine (A1.out _ _ _ Hm.out.capLe.1 ((own_ls Hm.out).on (by ((try simp only [World.junk_junk, Array.append_assoc]); (repeat (first | with_reducible exact Junk.refl _ | with_reducible exact Junk.app _ _ _ _ _ | with_reducible exact Junk.app2 _ _ _ _ _ _ | with_reducible exact Junk.app3 _ _ _ _ _ _ _ | with_reducible exact Junk.app4 _ _ _ _ _ _ _ _ | with_reducible exact Junk.app5 _ _ _ _ _ _ _ _ _ | with_reducible apply Junk.alloc | with_reducible apply Junk.junk | with_reducible apply Junk.drew | with_reducible apply Junk.drewN))))) (own_none2 Hm.out)).mono ?_; rintro e w' ⟨ob, cap, rfl, ⟨osa, da, rfl⟩, hown⟩; have Ha := Lib.hid hown; clear hown)
      | (go_at_call 21; refine (A2.out _ (HS.out.on (by ((try simp only [World.junk_junk, Array.append_assoc]); (repeat (first | with_reducible exact Junk.refl _ | with_reducible exact Junk.app _ _ _ _ _ | with_reducible exact Junk.app2 _ _ _ _ _ _ | with_reducible exact Junk.app3 _ _ _ _ _ _ _ | with_reducible exact Junk.app4 _ _ _ _ _ _ _ _ | with_reducible exact Junk.app5 _ _ _ _ _ _ _ _ _ | with_reducible apply Junk.alloc | with_reducible apply Junk.junk | with_reducible apply Junk.drew | with_reducible apply Junk.drewN)))))).mono ?_; rintro e w' ⟨ob2, cap2, rfl, ⟨osb, db, rfl⟩, hown⟩; have Hb := Lib.hid hown; clear hown)
      | (go_at_call 19; refine (RT.out _ _ _ Hm.out.capLe.1 ((own_ls Hm.out).on (by ((try simp only [World.junk_junk, Array.append_assoc]); (repeat (first | with_reducible exact Junk.refl _ | with_reducible exact Junk.app _ _ _ _ _ | with_reducible exact Junk.app2 _ _ _ _ _ _ | with_reducible exact Junk.app3 _ _ _ _ _ _ _ | with_reducible exact Junk.app4 _ _ _ _ _ _ _ _ | with_reducible exact Junk.app5 _ _ _ _ _ _ _ _ _ | with_reducible apply Junk.alloc | with_reducible apply Junk.junk | with_reducible apply Junk.drew | with_reducible apply Junk.drewN)))))).mono ?_; rintro e w' ⟨rfl, ⟨osr, dr, rfl⟩⟩)
      | (go_at_call 22; refine (RT2.out _ (HS.out.on (by ((try simp only [World.junk_junk, Array.append_assoc]); (repeat (first | with_reducible exact Junk.refl _ | with_reducible exact Junk.app _ _ _ _ _ | with_reducible exact Junk.app2 _ _ _ _ _ _ | with_reducible exact Junk.app3 _ _ _ _ _ _ _ | with_reducible exact Junk.app4 _ _ _ _ _ _ _ _ | with_reducible exact Junk.app5 _ _ _ _ _ _ _ _ _ | with_reducible apply Junk.alloc | with_reducible apply Junk.junk | with_reducible apply Junk.drew | with_reducible apply Junk.drewN)))))).mono ?_; rintro e w' ⟨rfl, ⟨osr2, dr2, rfl⟩⟩)
      | (go_at_call 23; first | ((with_reducible refine (rsameL_any _ _ _ _ _ _ N N _ (by omega) (by omega) HNl.out HNl.out ((own_ls Ha.out).on (by ((try simp only [World.junk_junk, Array.append_assoc]); (repeat (first | with_reducible exact Junk.refl _ | with_reducible exact Junk.app _ _ _ _ _ | with_reducible exact Junk.app2 _ _ _ _ _ _ | with_reducible exact Junk.app3 _ _ _ _ _ _ _ | with_reducible exact Junk.app4 _ _ _ _ _ _ _ _ | with_reducible exact Junk.app5 _ _ _ _ _ _ _ _ _ | with_reducible apply Junk.alloc | with_reducible apply Junk.junk | with_reducible apply Junk.drew | with_reducible apply Junk.drewN))))) ((own_ls Hb.out).on (by ((try simp only [World.junk_junk, Array.append_assoc]); (repeat (first | with_reducible exact Junk.refl _ | with_reducible exact Junk.app _ _ _ _ _ | with_reducible exact Junk.app2 _ _ _ _ _ _ | with_reducible exact Junk.app3 _ _ _ _ _ _ _ | with_reducible exact Junk.app4 _ _ _ _ _ _ _ _ | with_reducible exact Junk.app5 _ _ _ _ _ _ _ _ _ | with_reducible apply Junk.alloc | with_reducible apply Junk.junk | with_reducible apply Junk.drew | with_reducible apply Junk.drewN)))))).mono ?_); rintro e w' ⟨rfl, ⟨oss, ds, rfl⟩⟩; rw [decide_eq_true (rfl : N = N)]) | ((with_reducible refine (rsameL_any _ _ _ _ _ _ T T _ (by omega) (by omega) HTl.out HTl.out ((own_ls Hc.out).on (by ((try simp only [World.junk_junk, Array.append_assoc]); (repeat (first | with_reducible exact Junk.refl _ | with_reducible exact Junk.app _ _ _ _ _ | with_reducible exact Junk.app2 _ _ _ _ _ _ | with_reducible exact Junk.app3 _ _ _ _ _ _ _ | with_reducible exact Junk.app4 _ _ _ _ _ _ _ _ | with_reducible exact Junk.app5 _ _ _ _ _ _ _ _ _ | with_reducible apply Junk.alloc | with_reducible apply Junk.junk | with_reducible apply Junk.drew | with_reducible apply Junk.drewN))))) ((own_ls Hd.out).on (by ((try simp only [World.junk_junk, Array.append_assoc]); (repeat (first | with_reducible exact Junk.refl _ | with_reducible exact Junk.app _ _ _ _ _ | with_reducible exact Junk.app2 _ _ _ _ _ _ | with_reducible exact Junk.app3 _ _ _ _ _ _ _ | with_reducible exact Junk.app4 _ _ _ _ _ _ _ _ | with_reducible exact Junk.app5 _ _ _ _ _ _ _ _ _ | with_reducible apply Junk.alloc | with_reducible apply Junk.junk | with_reducible apply Junk.drew | with_reducible apply Junk.drewN)))))).mono ?_); rintro e w' ⟨rfl, ⟨oss2, ds2, rfl⟩⟩; rw [decide_eq_true (rfl : T = T)]) | ((with_reducible refine (rsameL_any _ _ _ _ _ _ L L _ (by omega) (by omega) HL.out HL.out ((own_ls Hm.out).on (by ((try simp only [World.junk_junk, Array.append_assoc]); (repeat (first | with_reducible exact Junk.refl _ | with_reducible exact Junk.app _ _ _ _ _ | with_reducible exact Junk.app2 _ _ _ _ _ _ | with_reducible exact Junk.app3 _ _ _ _ _ _ _ | with_reducible exact Junk.app4 _ _ _ _ _ _ _ _ | with_reducible exact Junk.app5 _ _ _ _ _ _ _ _ _ | with_reducible apply Junk.alloc | with_reducible apply Junk.junk | with_reducible apply Junk.drew | with_reducible apply Junk.drewN))))) (HS.out.on (by ((try simp only [World.junk_junk, Array.append_assoc]); (repeat (first | with_reducible exact Junk.refl _ | with_reducible exact Junk.app _ _ _ _ _ | with_reducible exact Junk.app2 _ _ _ _ _ _ | with_reducible exact Junk.app3 _ _ _ _ _ _ _ | with_reducible exact Junk.app4 _ _ _ _ _ _ _ _ | with_reducible exact Junk.app5 _ _ _ _ _ _ _ _ _ | with_reducible apply Junk.alloc | with_reducible apply Junk.junk | with_reducible apply Junk.drew | with_reducible apply Junk.drewN)))))).mono ?_); rintro e w' ⟨rfl, ⟨oss3, ds3, rfl⟩⟩; rw [decide_eq_true (rfl : L = L)]))
      | (go_at_call 24; refine (WH.out _ _ _ ((own_ls Hm.out).on (by ((try simp only [World.junk_junk, Array.append_assoc]); (repeat (first | with_reducible exact Junk.refl _ | with_reducible exact Junk.app _ _ _ _ _ | with_reducible exact Junk.app2 _ _ _ _ _ _ | with_reducible exact Junk.app3 _ _ _ _ _ _ _ | with_reducible exact Junk.app4 _ _ _ _ _ _ _ _ | with_reducible exact Junk.app5 _ _ _ _ _ _ _ _ _ | with_reducible apply Junk.alloc | with_reducible apply Junk.junk | with_reducible apply Junk.drew | with_reducible apply Junk.drewN)))))).mono ?_; rintro e w' ⟨rfl, ⟨osw, dw, rfl⟩⟩)
      | (go_at_call 25; refine (WH2.out _ (HS.out.on (by ((try simp only [World.junk_junk, Array.append_assoc]); (repeat (first | with_reducible exact Junk.refl _ | with_reducible exact Junk.app _ _ _ _ _ | with_reducible exact Junk.app2 _ _ _ _ _ _ | with_reducible exact Junk.app3 _ _ _ _ _ _ _ | with_reducible exact Junk.app4 _ _ _ _ _ _ _ _ | with_reducible exact Junk.app5 _ _ _ _ _ _ _ _ _ | with_reducible apply Junk.alloc | with_reducible apply Junk.junk | with_reducible apply Junk.drew | with_reducible apply Junk.drewN)))))).mono ?_; rintro e w' ⟨rfl, ⟨osw2, dw2, rfl⟩⟩)
      | (go_at_call 26; refine (WS.out _ _ _ ((own_ls Hm.out).on (by ((try simp only [World.junk_junk, Array.append_assoc]); (repeat (first | with_reducible exact Junk.refl _ | with_reducible exact Junk.app _ _ _ _ _ | with_reducible exact Junk.app2 _ _ _ _ _ _ | with_reducible exact Junk.app3 _ _ _ _ _ _ _ | with_reducible exact Junk.app4 _ _ _ _ _ _ _ _ | with_reducible exact Junk.app5 _ _ _ _ _ _ _ _ _ | with_reducible apply Junk.alloc | with_reducible apply Junk.junk | with_reducible apply Junk.drew | with_reducible apply Junk.drewN)))))).mono ?_; rintro e w' ⟨rfl, ⟨osv, dv, rfl⟩⟩)
      | (go_at_call 27; refine (WS2.out _ (HS.out.on (by ((try simp only [World.junk_junk, Array.append_assoc]); (repeat (first | with_reducible exact Junk.refl _ | with_reducible exact Junk.app _ _ _ _ _ | with_reducible exact Junk.app2 _ _ _ _ _ _ | with_reducible exact Junk.app3 _ _ _ _ _ _ _ | with_reducible exact Junk.app4 _ _ _ _ _ _ _ _ | with_reducible exact Junk.app5 _ _ _ _ _ _ _ _ _ | with_reducible apply Junk.alloc | with_reducible apply Junk.junk | with_reducible apply Junk.drew | with_reducible apply Junk.drewN)))))).mono ?_; rintro e w' ⟨rfl, ⟨osv2, dv2, rfl⟩⟩)
      | (go_at_call 28; refine (TK.out _ _ _ ((own_ls Hm.out).on (by ((try simp only [World.junk_junk, Array.append_assoc]); (repeat (first | with_reducible exact Junk.refl _ | with_reducible exact Junk.app _ _ _ _ _ | with_reducible exact Junk.app2 _ _ _ _ _ _ | with_reducible exact Junk.app3 _ _ _ _ _ _ _ | with_reducible exact Junk.app4 _ _ _ _ _ _ _ _ | with_reducible exact Junk.app5 _ _ _ _ _ _ _ _ _ | with_reducible apply Junk.alloc | with_reducible apply Junk.junk | with_reducible apply Junk.drew | with_reducible apply Junk.drewN))))) (own_none2 Hm.out)).mono ?_; rintro e w' ⟨ob3, cap3, rfl, ⟨ost, dt, rfl⟩, hown⟩; have Hc := Lib.hid hown; clear hown)
      | (go_at_call 29; refine (TK2.out _ (HS.out.on (by ((try simp only [World.junk_junk, Array.append_assoc]); (repeat (first | with_reducible exact Junk.refl _ | with_reducible exact Junk.app _ _ _ _ _ | with_reducible exact Junk.app2 _ _ _ _ _ _ | with_reducible exact Junk.app3 _ _ _ _ _ _ _ | with_reducible exact Junk.app4 _ _ _ _ _ _ _ _ | with_reducible exact Junk.app5 _ _ _ _ _ _ _ _ _ | with_reducible apply Junk.alloc | with_reducible apply Junk.junk | with_reducible apply Junk.drew | with_reducible apply Junk.drewN)))))).mono ?_; rintro e w' ⟨ob4, cap4, rfl, ⟨ost2, dt2, rfl⟩, hown⟩; have Hd := Lib.hid hown; clear hown))
    go_ret
    exact ⟨ret_bool (by simp), by ((try simp only [World.junk_junk, Array.append_assoc]); (repeat (first | with_reducible exact Junk.refl _ | with_reducible exact Junk.app _ _ _ _ _ | with_reducible exact Junk.app2 _ _ _ _ _ _ | with_reducible exact Junk.app3 _ _ _ _ _ _ _ | with_reducible exact Junk.app4 _ _ _ _ _ _ _ _ | with_reducible exact Junk.app5 _ _ _ _ _ _ _ _ _ | with_reducible apply Junk.alloc | with_reducible apply Junk.junk | with_reducible apply Junk.drew | with_reducible apply Junk.drewN)))⟩
  · have hr2 : 1 ≤ lo ∧ lo ≤ hi ∧ hi ≤ 65535 := by simpa [rightB] using hr
    obtain ⟨r1, r2, r3⟩ := hr2
    have h300' : ¬ (300 : Int) < hi - lo := by omega
    go_enter Try.func8, Try.ntmps8
    go_wp2_with (first
      | (go_at_call 18; refine (awake17_any _).mono ?_; rintro e w' ⟨rfl, ⟨osj, dj, rfl⟩⟩)
      | (go_at_call 15; refine (rright_any lo hi _).mono ?_; rintro e w' ⟨rfl, rfl⟩; rw [hr])
      | (at_builtin; (refine ap_own (W0 := (w.alloc (.cells #[.int .i64 xp, .int .u32 xi, .int .i64 xn, .int .i64 xo, .int .i64 xt] 39))) rfl _ _ 37 rfl 39 (.agg #[.int .i64 0, .int .u32 0, .int .i64 0, .int .i64 0, .int .i64 0]) 5 40 (by kernel_rfl) rfl (by decide) Try.underlying37 (by ((try simp only [World.junk_junk, Array.append_assoc]); (repeat (first | with_reducible exact Junk.refl _ | with_reducible exact Junk.app _ _ _ _ _ | with_reducible exact Junk.app2 _ _ _ _ _ _ | with_reducible exact Junk.app3 _ _ _ _ _ _ _ | with_reducible exact Junk.app4 _ _ _ _ _ _ _ _ | with_reducible exact Junk.app5 _ _ _ _ _ _ _ _ _ | with_reducible apply Junk.alloc | with_reducible apply Junk.junk | with_reducible apply Junk.drew | with_reducible apply Junk.drewN)))) _ 0 0 [] rfl (own_mk _ _ 5 0 _ _ (by simp) (by simp) (by decide) (by simp)) oa l c rfl (lnsL L) HB.out (LsAt.src (HS.out.on (by ((try simp only [World.junk_junk, Array.append_assoc]); (repeat (first | with_reducible exact Junk.refl _ | with_reducible exact Junk.app _ _ _ _ _ | with_reducible exact Junk.app2 _ _ _ _ _ _ | with_reducible exact Junk.app3 _ _ _ _ _ _ _ | with_reducible exact Junk.app4 _ _ _ _ _ _ _ _ | with_reducible exact Junk.app5 _ _ _ _ _ _ _ _ _ | with_reducible apply Junk.alloc | with_reducible apply Junk.junk | with_reducible apply Junk.drew | with_reducible apply Junk.drewN)))))) HN.out (lnsL_one' L) (by simp only [maxLen]; omega) (by omega) ?_; intro om cm osj dj hown _; rw [List.nil_append, Nat.zero_add] at hown; have Hm := Lib.hid hown; clear hown))
      | (go_at_call 20; refine (A1.out _ _ _ Hm.out.capLe.1 ((own_ls Hm.out).on (by ((try simp only [World.junk_junk, Array.append_assoc]); (repeat (first | with_reducible exact Junk.refl _ | with_reducible exact Junk.app _ _ _ _ _ | with_reducible exact Junk.app2 _ _ _ _ _ _ | with_reducible exact Junk.app3 _ _ _ _ _ _ _ | with_reducible exact Junk.app4 _ _ _ _ _ _ _ _ | with_reducible exact Junk.app5 _ _ _ _ _ _ _ _ _ | with_reducible apply Junk.alloc | with_reducible apply Junk.junk | with_reducible apply Junk.drew | with_reducible apply Junk.drewN))))) (own_none2 Hm.out)).mono ?_; rintro e w' ⟨ob, cap, rfl, ⟨osa, da, rfl⟩, hown⟩; have Ha := Lib.hid hown; clear hown)
      | (go_at_call 21; refine (A2.out _ (HS.out.on (by ((try simp only [World.junk_junk, Array.append_assoc]); (repeat (first | with_reducible exact Junk.refl _ | with_reducible exact Junk.app _ _ _ _ _ | with_reducible exact Junk.app2 _ _ _ _ _ _ | with_reducible exact Junk.app3 _ _ _ _ _ _ _ | with_reducible exact Junk.app4 _ _ _ _ _ _ _ _ | with_reducible exact Junk.app5 _ _ _ _ _ _ _ _ _ | with_reducible apply Junk.alloc | with_reducible apply Junk.junk | with_reducible apply Junk.drew | with_reducible apply Junk.drewN)))))).mono ?_; rintro e w' ⟨ob2, cap2, rfl, ⟨osb, db, rfl⟩, hown⟩; have Hb := Lib.hid hown; clear hown)
      | (go_at_call 19; refine (RT.out _ _ _ Hm.out.capLe.1 ((own_ls Hm.out).on (by ((try simp only [World.junk_junk, Array.append_assoc]); (repeat (first | with_reducible exact Junk.refl _ | with_reducible exact Junk.app _ _ _ _ _ | with_reducible exact Junk.app2 _ _ _ _ _ _ | with_reducible exact Junk.app3 _ _ _ _ _ _ _ | with_reducible exact Junk.app4 _ _ _ _ _ _ _ _ | with_reducible exact Junk.app5 _ _ _ _ _ _ _ _ _ | with_reducible apply Junk.alloc | with_reducible apply Junk.junk | with_reducible apply Junk.drew | with_reducible apply Junk.drewN)))))).mono ?_; rintro e w' ⟨rfl, ⟨osr, dr, rfl⟩⟩)
      | (go_at_call 22; refine (RT2.out _ (HS.out.on (by ((try simp only [World.junk_junk, Array.append_assoc]); (repeat (first | with_reducible exact Junk.refl _ | with_reducible exact Junk.app _ _ _ _ _ | with_reducible exact Junk.app2 _ _ _ _ _ _ | with_reducible exact Junk.app3 _ _ _ _ _ _ _ | with_reducible exact Junk.app4 _ _ _ _ _ _ _ _ | with_reducible exact Junk.app5 _ _ _ _ _ _ _ _ _ | with_reducible apply Junk.alloc | with_reducible apply Junk.junk | with_reducible apply Junk.drew | with_reducible apply Junk.drewN)))))).mono ?_; rintro e w' ⟨rfl, ⟨osr2, dr2, rfl⟩⟩)
      | (go_at_call 23; first | ((with_reducible refine (rsameL_any _ _ _ _ _ _ N N _ (by omega) (by omega) HNl.out HNl.out ((own_ls Ha.out).on (by ((try simp only [World.junk_junk, Array.append_assoc]); (repeat (first | with_reducible exact Junk.refl _ | with_reducible exact Junk.app _ _ _ _ _ | with_reducible exact Junk.app2 _ _ _ _ _ _ | with_reducible exact Junk.app3 _ _ _ _ _ _ _ | with_reducible exact Junk.app4 _ _ _ _ _ _ _ _ | with_reducible exact Junk.app5 _ _ _ _ _ _ _ _ _ | with_reducible apply Junk.alloc | with_reducible apply Junk.junk | with_reducible apply Junk.drew | with_reducible apply Junk.drewN))))) ((own_ls Hb.out).on (by ((try simp only [World.junk_junk, Array.append_assoc]); (repeat (first | with_reducible exact Junk.refl _ | with_reducible exact Junk.app _ _ _ _ _ | with_reducible exact Junk.app2 _ _ _ _ _ _ | with_reducible exact Junk.app3 _ _ _ _ _ _ _ | with_reducible exact Junk.app4 _ _ _ _ _ _ _ _ | with_reducible exact Junk.app5 _ _ _ _ _ _ _ _ _ | with_reducible apply Junk.alloc | with_reducible apply Junk.junk | with_reducible apply Junk.drew | with_reducible apply Junk.drewN)))))).mono ?_); rintro e w' ⟨rfl, ⟨oss, ds, rfl⟩⟩; rw [decide_eq_true (rfl : N = N)]) | ((with_reducible refine (rsameL_any _ _ _ _ _ _ T T _ (by omega) (by omega) HTl.out HTl.out ((own_ls Hc.out).on (by ((try simp only [World.junk_junk, Array.append_assoc]); (repeat (first | with_reducible exact Junk.refl _ | with_reducible exact Junk.app _ _ _ _ _ | with_reducible exact Junk.app2 _ _ _ _ _ _ | with_reducible exact Junk.app3 _ _ _ _ _ _ _ | with_reducible exact Junk.app4 _ _ _ _ _ _ _ _ | with_reducible exact Junk.app5 _ _ _ _ _ _ _ _ _ | with_reducible apply Junk.alloc | with_reducible apply Junk.junk | with_reducible apply Junk.drew | with_reducible apply Junk.drewN))))) ((own_ls Hd.out).on (by ((try simp only [World.junk_junk, Array.append_assoc]); (repeat (first | with_reducible exact Junk.refl _ | with_reducible exact Junk.app _ _ _ _ _ | with_reducible exact Junk.app2 _ _ _ _ _ _ | with_reducible exact Junk.app3 _ _ _ _ _ _ _ | with_reducible exact Junk.app4 _ _ _ _ _ _ _ _ | with_reducible exact Junk.app5 _ _ _ _ _ _ _ _ _ | with_reducible apply Junk.alloc | with_reducible apply Junk.junk | with_reducible apply Junk.drew | with_reducible apply Junk.drewN)))))).mono ?_); rintro e w' ⟨rfl, ⟨oss2, ds2, rfl⟩⟩; rw [decide_eq_true (rfl : T = T)]) | ((with_reducible refine (rsameL_any _ _ _ _ _ _ L L _ (by omega) (by omega) HL.out HL.out ((own_ls Hm.out).on (by ((try simp only [World.junk_junk, Array.append_assoc]); (repeat (first | with_reducible exact Junk.refl _ | with_reducible exact Junk.app _ _ _ _ _ | with_reducible exact Junk.app2 _ _ _ _ _ _ | with_reducible exact Junk.app3 _ _ _ _ _ _ _ | with_reducible exact Junk.app4 _ _ _ _ _ _ _ _ | with_reducible exact Junk.app5 _ _ _ _ _ _ _ _ _ | with_reducible apply Junk.alloc | with_reducible apply Junk.junk | with_reducible apply Junk.drew | with_reducible apply Junk.drewN))))) (HS.out.on (by ((try simp only [World.junk_junk, Array.append_assoc]); (repeat (first | with_reducible exact Junk.refl _ | with_reducible exact Junk.app _ _ _ _ _ | with_reducible exact Junk.app2 _ _ _ _ _ _ | with_reducible exact Junk.app3 _ _ _ _ _ _ _ | with_reducible exact Junk.app4 _ _ _ _ _ _ _ _ | with_reducible exact Junk.app5 _ _ _ _ _ _ _ _ _ | with_reducible apply Junk.alloc | with_reducible apply Junk.junk | with_reducible apply Junk.drew | with_reducible apply Junk.drewN)))))).mono ?_); rintro e w' ⟨rfl, ⟨oss3, ds3, rfl⟩⟩; rw [decide_eq_true (rfl : L = L)]))
      | (go_at_call 24; refine (WH.out _ _ _ ((own_ls Hm.out).on (by ((try simp only [World.junk_junk, Array.append_assoc]); (repeat (first | with_reducible exact Junk.refl _ | with_reducible exact Junk.app _ _ _ _ _ | with_reducible exact Junk.app2 _ _ _ _ _ _ | with_reducible exact Junk.app3 _ _ _ _ _ _ _ | with_reducible exact Junk.app4 _ _ _ _ _ _ _ _ | with_reducible exact Junk.app5 _ _ _ _ _ _ _ _ _ | with_reducible apply Junk.alloc | with_reducible apply Junk.junk | with_reducible apply Junk.drew | with_reducible apply Junk.drewN)))))).mono ?_; rintro e w' ⟨rfl, ⟨osw, dw, rfl⟩⟩)
      | (go_at_call 25; refine (WH2.out _ (HS.out.on (by ((try simp only [World.junk_junk, Array.append_assoc]); (repeat (first | with_reducible exact Junk.refl _ | with_reducible exact Junk.app _ _ _ _ _ | with_reducible exact Junk.app2 _ _ _ _ _ _ | with_reducible exact Junk.app3 _ _ _ _ _ _ _ | with_reducible exact Junk.app4 _ _ _ _ _ _ _ _ | with_reducible exact Junk.app5 _ _ _ _ _ _ _ _ _ | with_reducible apply Junk.alloc | with_reducible apply Junk.junk | with_reducible apply Junk.drew | with_reducible apply Junk.drewN)))))).mono ?_; rintro e w' ⟨rfl, ⟨osw2, dw2, rfl⟩⟩)
      | (go_at_call 26; refine (WS.out _ _ _ ((own_ls Hm.out).on (by ((try simp only [World.junk_junk, Array.append_assoc]); (repeat (first | with_reducible exact Junk.refl _ | with_reducible exact Junk.app _ _ _ _ _ | with_reducible exact Junk.app2 _ _ _ _ _ _ | with_reducible exact Junk.app3 _ _ _ _ _ _ _ | with_reducible exact Junk.app4 _ _ _ _ _ _ _ _ | with_reducible exact Junk.app5 _ _ _ _ _ _ _ _ _ | with_reducible apply Junk.alloc | with_reducible apply Junk.junk | with_reducible apply Junk.drew | with_reducible apply Junk.drewN)))))).mono ?_; rintro e w' ⟨rfl, ⟨osv, dv, rfl⟩⟩)
      | (go_at_call 27; refine (WS2.out _ (HS.out.on (by ((try simp only [World.junk_junk, Array.append_assoc]); (repeat (first | with_reducible exact Junk.refl _ | with_reducible exact Junk.app _ _ _ _ _ | with_reducible exact Junk.app2 _ _ _ _ _ _ | with_reducible exact Junk.app3 _ _ _ _ _ _ _ | with_reducible exact Junk.app4 _ _ _ _ _ _ _ _ | with_reducible exact Junk.app5 _ _ _ _ _ _ _ _ _ | with_reducible apply Junk.alloc | with_reducible apply Junk.junk | with_reducible apply Junk.drew | with_reducible apply Junk.drewN)))))).mono ?_; rintro e w' ⟨rfl, ⟨osv2, dv2, rfl⟩⟩)
      | (go_at_call 28; refine (TK.out _ _ _ ((own_ls Hm.out).on (by ((try simp only [World.junk_junk, Array.append_assoc]); (repeat (first | with_reducible exact Junk.refl _ | with_reducible exact Junk.app _ _ _ _ _ | with_reducible exact Junk.app2 _ _ _ _ _ _ | with_reducible exact Junk.app3 _ _ _ _ _ _ _ | with_reducible exact Junk.app4 _ _ _ _ _ _ _ _ | with_reducible exact Junk.app5 _ _ _ _ _ _ _ _ _ | with_reducible apply Junk.alloc | with_reducible apply Junk.junk | with_reducible apply Junk.drew | with_reducible apply Junk.drewN))))) (own_none2 Hm.out)).mono ?_; rintro e w' ⟨ob3, cap3, rfl, ⟨ost, dt, rfl⟩, hown⟩; have Hc := Lib.hid hown; clear hown)
      | (go_at_call 29; refine (TK2.out _ (HS.out.on (by ((try simp only [World.junk_junk, Array.append_assoc]); (repeat (first | with_reducible exact Junk.refl _ | with_reducible exact Junk.app _ _ _ _ _ | with_reducible exact Junk.app2 _ _ _ _ _ _ | with_reducible exact Junk.app3 _ _ _ _ _ _ _ | with_reducible exact Junk.app4 _ _ _ _ _ _ _ _ | with_reducible exact Junk.app5 _ _ _ _ _ _ _ _ _ | with_reducible apply Junk.alloc | with_reducible apply Junk.junk | with_reducible apply Junk.drew | with_reducible apply Junk.drewN)))))).mono ?_; rintro e w' ⟨ob4, cap4, rfl, ⟨ost2, dt2, rfl⟩, hown⟩; have Hd := Lib.hid hown; clear hown))
    go_ret
    exact ⟨ret_bool (by simp), by ((try simp only [World.junk_junk, Array.append_assoc]); (repeat (first | with_reducible exact Junk.refl _ | with_reducible exact Junk.app _ _ _ _ _ | with_reducible exact Junk.app2 _ _ _ _ _ _ | with_reducible exact Junk.app3 _ _ _ _ _ _ _ | with_reducible exact Junk.app4 _ _ _ _ _ _ _ _ | with_reducible exact Junk.app5 _ _ _ _ _ _ _ _ _ | with_reducible apply Junk.alloc | with_reducible apply Junk.junk | with_reducible apply Junk.drew | with_reducible apply Junk.drewN)))⟩
set_option maxHeartbeats 2000000 in
theorem natRight_core (W : World) (base : Nat) (v0 v1 v2 v3 v4 v5 : Value) (a0 : Arg Try.prog W base 37 v0) (a1 : Arg Try.prog W base 3 v1) (a2 : Arg Try.prog W base 3 v2) (a3 : Arg Try.prog W base 39 v3) (a4 : Arg Try.prog W base 23 v4) (a5 : Arg Try.prog W base 3 v5) :
    Calls Try.prog 8 #[v0, v1, v2, v3, v4, v5] W fun e W' => e = .returned (.bool true) ∧ Junk W W' := by
  have f_l := a0.slice Try.underlying37
  obtain ⟨l_a, l_l, l_c, l, e_l, lc_l, cm_l, S_l, r_l⟩ := f_l.slice Try.underlying37 (Nat.lt_of_lt_of_eq (by decide : 0 < 5) (by kernel_rfl)); cases e_l
  obtain ⟨lo, rfl, w_lo⟩ := a1.int Try.underlying3
  obtain ⟨hi, rfl, w_hi⟩ := a2.int Try.underlying3
  obtain ⟨cs_x, rfl, h_x⟩ := a3.struct Try.underlying39
  obtain ⟨hl_x, hf_x⟩ := h_x.fields1 Try.underlying39 (by kernel_rfl) (n := 5) (by kernel_rfl)
  obtain ⟨x_Proto, lx0, e_x0⟩ : ∃ x l, cs_x = x :: l := by cases cs_x with | nil => simp at hl_x | cons x l => exact ⟨x, l, rfl⟩
  subst e_x0
  obtain ⟨x_In, lx1, e_x1⟩ : ∃ x l, lx0 = x :: l := by cases lx0 with | nil => simp at hl_x | cons x l => exact ⟨x, l, rfl⟩
  subst e_x1
  obtain ⟨x_Inport, lx2, e_x2⟩ : ∃ x l, lx1 = x :: l := by cases lx1 with | nil => simp at hl_x | cons x l => exact ⟨x, l, rfl⟩
  subst e_x2
  obtain ⟨x_Port, lx3, e_x3⟩ : ∃ x l, lx2 = x :: l := by cases lx2 with | nil => simp at hl_x | cons x l => exact ⟨x, l, rfl⟩
  subst e_x3
  obtain ⟨x_Until, lx4, e_x4⟩ : ∃ x l, lx3 = x :: l := by cases lx3 with | nil => simp at hl_x | cons x l => exact ⟨x, l, rfl⟩
  subst e_x4
  obtain rfl : lx4 = [] := by simpa using hl_x
  have f_x0 : Cells Try.prog W 3 [x_Proto] := hf_x 0 _ rfl
  have f_x1 : Cells Try.prog W 23 [x_In] := hf_x 1 _ rfl
  have f_x2 : Cells Try.prog W 3 [x_Inport] := hf_x 2 _ rfl
  have f_x3 : Cells Try.prog W 3 [x_Port] := hf_x 3 _ rfl
  have f_x4 : Cells Try.prog W 3 [x_Until] := hf_x 4 _ rfl
  clear hf_x hl_x
  obtain ⟨x_Proto, e_x_Proto, w_x_Proto⟩ := f_x0.int Try.underlying3; cases e_x_Proto
  obtain ⟨x_In, e_x_In, w_x_In⟩ := f_x1.int Try.underlying23; cases e_x_In
  obtain ⟨x_Inport, e_x_Inport, w_x_Inport⟩ := f_x2.int Try.underlying3; cases e_x_Inport
  obtain ⟨x_Port, e_x_Port, w_x_Port⟩ := f_x3.int Try.underlying3; cases e_x_Port
  obtain ⟨x_Until, e_x_Until, w_x_Until⟩ := f_x4.int Try.underlying3; cases e_x_Until
  obtain ⟨draw, rfl, w_draw⟩ := a4.int Try.underlying23
  obtain ⟨now, rfl, w_now⟩ := a5.int Try.underlying3
  obtain ⟨L, hL, hS, hwf⟩ := loans_of S_l r_l
  have b_lo := bounds_i64 w_lo
  have b_hi := bounds_i64 w_hi
  have b_draw := bounds_u32 w_draw
  obtain ⟨D, rfl⟩ : ∃ D : Nat, draw = (D : Int) := ⟨draw.toNat, by omega⟩
  by_cases h40 : l_l ≤ 40
  case neg =>
    have h40' : (40 : Int) < (l_l : Int) := by omega
    clear S_l r_l hS hwf
    go_enter Try.func8, Try.ntmps8
    go_wp2_with (first
      | (go_at_call 18; refine (awake17_any _).mono ?_; rintro e w' ⟨rfl, ⟨osj, dj, rfl⟩⟩))
    go_ret
    exact ⟨ret_bool rfl, by ((try simp only [World.junk_junk, Array.append_assoc]); (repeat (first | with_reducible exact Junk.refl _ | with_reducible exact Junk.app _ _ _ _ _ | with_reducible exact Junk.app2 _ _ _ _ _ _ | with_reducible exact Junk.app3 _ _ _ _ _ _ _ | with_reducible exact Junk.app4 _ _ _ _ _ _ _ _ | with_reducible exact Junk.app5 _ _ _ _ _ _ _ _ _ | with_reducible apply Junk.alloc | with_reducible apply Junk.junk | with_reducible apply Junk.drew | with_reducible apply Junk.drewN)))⟩
  cases hr : rightB lo hi with
  | false => exact natRight_main L lo hi ⟨x_Proto, x_In, x_Inport, x_Port, x_Until⟩ D now l_a l_l l_c W hL lc_l hS (Cells.nil_slice Try.underlying37 f_l) (by omega) h40 (.inl hr)
  | true =>
    by_cases h300 : hi - lo ≤ 300
    · exact natRight_main L lo hi ⟨x_Proto, x_In, x_Inport, x_Port, x_Until⟩ D now l_a l_l l_c W hL lc_l hS (Cells.nil_slice Try.underlying37 f_l) (by omega) h40 (.inr ⟨hr, h300⟩)
    · have h40' : ¬ (40 : Int) < (l_l : Int) := by omega
      have hr2 : 1 ≤ lo ∧ lo ≤ hi ∧ hi ≤ 65535 := by simpa [rightB] using hr
      obtain ⟨r1, r2, r3⟩ := hr2
      have h300' : (300 : Int) < hi - lo := by omega
      clear S_l r_l hS hwf
      go_enter Try.func8, Try.ntmps8
      go_wp2_with (first
        | (go_at_call 18; refine (awake17_any _).mono ?_; rintro e w' ⟨rfl, ⟨osj, dj, rfl⟩⟩)
        | (go_at_call 15; refine (rright_any lo hi _).mono ?_; rintro e w' ⟨rfl, rfl⟩; rw [hr]))
      go_ret
      exact ⟨ret_bool rfl, by ((try simp only [World.junk_junk, Array.append_assoc]); (repeat (first | with_reducible exact Junk.refl _ | with_reducible exact Junk.app _ _ _ _ _ | with_reducible exact Junk.app2 _ _ _ _ _ _ | with_reducible exact Junk.app3 _ _ _ _ _ _ _ | with_reducible exact Junk.app4 _ _ _ _ _ _ _ _ | with_reducible exact Junk.app5 _ _ _ _ _ _ _ _ _ | with_reducible apply Junk.alloc | with_reducible apply Junk.junk | with_reducible apply Junk.drew | with_reducible apply Junk.drewN)))⟩
set_option maxRecDepth 100000 in
theorem natRight_lifted (os : Os) (started : os.Started) (H : Type) (enc : TypeId × Value → H) :
    ReturnsInHanded {} Try.checked os 8 .any (Rows.natRightSpec.pre6 enc Try.prog Try.f8 Rows.natRightRow.domain false) (Rows.natRightSpec.post enc Try.prog Try.f8 false true false false) := by
  refine returnsInHanded_of_change (C := Try.checked) (by kernel_rfl) started (by kernel_rfl) Try.func8
    (ChangeSpec.witness6 (enc := enc) (C := Try.checked) false ⟨#[], #[.slice none 0 0, .int .i64 0, .int .i64 0, .agg #[.int .i64 0, .int .u32 0, .int .i64 0, .int .i64 0, .int .i64 0], .int .u32 0, .int .i64 0], []⟩ 8 (by kernel_rfl) (by kernel_rfl) (by kernel_rfl) (by kernel_rfl)) ?_
  intro W base args ds gs before hval hW _ _
  obtain ⟨p, q, hA, _, _, _, _⟩ := id hW
  have hargs : Args Try.prog W base Try.f8.params.toList args.toList := args_of (fun j t v h1 h2 => hval j t v (by simpa using h1) (by simpa using h2)) hA
  rw [Try.params8] at hargs
  obtain ⟨v0, l0, e0, a0, r0⟩ := args_cons hargs
  obtain ⟨v1, l1, e1, a1, r1⟩ := args_cons r0
  obtain ⟨v2, l2, e2, a2, r2⟩ := args_cons r1
  obtain ⟨v3, l3, e3, a3, r3⟩ := args_cons r2
  obtain ⟨v4, l4, e4, a4, r4⟩ := args_cons r3
  obtain ⟨v5, l5, e5, a5, r5⟩ := args_cons r4
  have hn := args_nil r5
  have he : args = #[v0, v1, v2, v3, v4, v5] := by
    apply Array.ext'
    simp only [e0, e1, e2, e3, e4, e5, hn]
  subst he
  exact (natRight_core W base v0 v1 v2 v3 v4 v5 a0 a1 a2 a3 a4 a5).mono fun e W' ⟨he, hj⟩ => ⟨_, he, post_true (tb := 4) (by kernel_rfl) (by kernel_rfl) rfl (by kernel_rfl) rfl hW (fun hg hl => by
    subst hg
    match ds, hl with
    | [_, _, _, _, _, _], _ => exact ⟨rfl, rfl, rfl⟩) hj⟩
theorem natRight_holds : Rows.NatRightSaid :=
  OpenClaim.holds_of_wide 8 Try.f8 rfl rfl rfl rfl rfl rfl rfl ⟨rfl, rfl, rfl, rfl, rfl⟩ rfl rfl rfl rfl rfl (by kernel_rfl) Try.func8 (by kernel_rfl)
    (of_decide_eq_true (by kernel_rfl)) (by unfold Func.isWrapper; rw [if_neg (of_decide_eq_false (by kernel_rfl))]; exact ⟨rfl, rfl⟩)
    (fun os started H enc _ => natRight_lifted os started H enc)

end Go.Proofs.Ytambpmbgfjefcaa
