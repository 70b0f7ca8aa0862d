/- The law IcmpBack. -/
import Derived.Test.YtbijbcpalmepiaaIcmpBackP
import Derived.Test.YtbijbcpalmepiaaLift2
import Derived.Deep.DeepCutAuto
set_option linter.unusedVariables false
set_option maxRecDepth 100000
set_option linter.unusedSimpArgs false
namespace Go.Proofs.Ytbijbcpalmepiaa
open Go.RowKit
theorem AboutM.okk {w w' : World} {kind : Int} {xs : Nat → Int} {l : Nat} {e : Ending} (h : AboutM w kind xs l e w') (h0 : aboutErr kind xs l = 0) :
    ∃ (oo ob : Option Addr) (oc bc : Nat), e = .returned (.tuple #[.agg #[.int .i64 (aboutIp xs l).tos, .int .i64 (aboutIp xs l).id, .bool (aboutIp xs l).df, .bool (aboutIp xs l).mf, .int .i64 (aboutIp xs l).off, .int .i64 (aboutIp xs l).ttl, .int .i64 (aboutIp xs l).proto, .int .u32 (aboutIp xs l).src, .int .u32 (aboutIp xs l).dst, .slice oo (aboutIp xs l).ol oc, .slice ob (aboutIp xs l).bl bc], .int .i64 0]) ∧ Junk w w' ∧ IpAt w' (aboutIp xs l) oo oc ob bc := by
  obtain ⟨p, oo, ob, oc, bc, rfl, hj, ha, ⟨h1, rfl⟩ | ⟨h1, _⟩⟩ := h
  · exact ⟨oo, ob, oc, bc, by rw [h0], hj, ha⟩
  · exact absurd h0 h1
theorem bts_sub5 {w : World} {b off l c : Nat} {xs : Nat → Int} (h : Bts w (some ⟨b, off, none⟩) l c xs) (i j : Nat) (hij : i ≤ j) (hj : j ≤ l) (hc : c ≠ i) : Bts w (some ⟨b, off + i, none⟩) (j - i) (c - i) (fun k => xs (i + k)) := by
  have := bts_sub h i j hij hj
  rwa [if_neg hc] at this
set_option maxHeartbeats 4000000 in
theorem icmpBack_walk (t c r : Int) (oa : Option Addr) (l ca : Nat) (xs : Nat → Int) (og : Option Addr) (gl gc n : Nat) (ys : Nat → Int) (p : Ip) (oo ob : Option Addr) (oc bc : Nat) (w : World) (hr : 0 ≤ r ∧ r ≤ 4294967295) (hM : Bts w oa l ca xs) (hG : Bts w og gl gc ys) (hP : IpAt w p oo oc ob bc) (hmin : (min (gl : Int) 3000).toNat = n) (hn : n ≤ gl) (hn3 : n ≤ 3000) :
    Calls Try.prog 12 #[.agg #[.int .i64 t, .int .i64 c, .int .u32 r, .slice oa l ca], .slice og gl gc, .agg #[.int .i64 p.tos, .int .i64 p.id, .bool p.df, .bool p.mf, .int .i64 p.off, .int .i64 p.ttl, .int .i64 p.proto, .int .u32 p.src, .int .u32 p.dst, .slice oo p.ol oc, .slice ob p.bl bc]] w fun e w' => e = .returned (.bool true) ∧ Junk w w' := by
  have HP := Lib.hid hP
  have HM := Lib.hid hM
  have HG := Lib.hid (bts_short hG n hn)
  have hlc := hG.le
  have hcm : gc ≤ 9223372036854775807 := hG.cap
  clear hP hG hM
  by_cases hl : l ≤ 3000
  case neg =>
    have hl' : l > 3000 := by omega
    go_enter Try.func12, Try.ntmps12
    go_wp2_with (first | (go_at_call 22; refine (awake06_any _).mono ?_; rintro e w' ⟨rfl, ⟨osj, dj, rfl⟩⟩))
    go_ret
    exact ⟨ret_bool rfl, by ((try simp only [World.junk_junk, Array.append_assoc]); (repeat (first | with_reducible exact Junk.refl _ | with_reducible exact Junk.app _ _ _ _ _ | with_reducible exact Junk.app2 _ _ _ _ _ _ | with_reducible exact Junk.app3 _ _ _ _ _ _ _ | with_reducible exact Junk.app4 _ _ _ _ _ _ _ _ | with_reducible exact Junk.app5 _ _ _ _ _ _ _ _ _ | with_reducible apply Junk.alloc | with_reducible apply Junk.junk | with_reducible apply Junk.drew | with_reducible apply Junk.drewN)))⟩
  cases hs : shortB p with
  | false =>
    go_enter Try.func12, Try.ntmps12
    go_wp2_with (first | (go_at_call 22; refine (awake06_any _).mono ?_; rintro e w' ⟨rfl, ⟨osj, dj, rfl⟩⟩) | (go_at_call 14; refine (short_any p oo ob oc bc _).mono ?_; rintro e w' ⟨rfl, ⟨osj, dj, rfl⟩⟩))
    go_ret
    exact ⟨ret_bool rfl, by ((try simp only [World.junk_junk, Array.append_assoc]); (repeat (first | with_reducible exact Junk.refl _ | with_reducible exact Junk.app _ _ _ _ _ | with_reducible exact Junk.app2 _ _ _ _ _ _ | with_reducible exact Junk.app3 _ _ _ _ _ _ _ | with_reducible exact Junk.app4 _ _ _ _ _ _ _ _ | with_reducible exact Junk.app5 _ _ _ _ _ _ _ _ _ | with_reducible apply Junk.alloc | with_reducible apply Junk.junk | with_reducible apply Junk.drew | with_reducible apply Junk.drewN)))⟩
  | true =>
  obtain ⟨s1, s2⟩ := shortB_true hs
  go_enter Try.func12, Try.ntmps12
  go_upto_if 43 with (first | (go_at_call 22; refine (awake06_any _).mono ?_; rintro e w' ⟨rfl, ⟨osj, dj, rfl⟩⟩) | (go_at_call 14; refine (short_any p oo ob oc bc _).mono ?_; rintro e w' ⟨rfl, ⟨osj, dj, rfl⟩⟩) | (go_at_call 41; (try simp only [World.junk_junk]); refine calls_gen (fun osA dA => ?_); refine (parse_any og n gc ys _ (by omega) (HG.out.on (by ((try simp only [World.junk_junk, Array.append_assoc]); (repeat (first | with_reducible exact Junk.refl _ | with_reducible exact Junk.app _ _ _ _ _ | with_reducible exact Junk.app2 _ _ _ _ _ _ | with_reducible exact Junk.app3 _ _ _ _ _ _ _ | with_reducible exact Junk.app4 _ _ _ _ _ _ _ _ | with_reducible exact Junk.app5 _ _ _ _ _ _ _ _ _ | with_reducible apply Junk.alloc | with_reducible apply Junk.junk | with_reducible apply Junk.drew | with_reducible apply Junk.drewN)))))).mono ?_; intro e w' hp; obtain ⟨t1, c1, r1, o1, l1, k1, rfl, ⟨osj2, dj2, rfl⟩, hb1, hcase⟩ := hp; have HQ := Lib.hid hb1; have HC := Lib.hid hcase; clear hb1 hcase))
  go_cut [] (fun wx => Junk ((w.alloc (.cells #[.int .i64 t, .int .i64 c, .int .u32 r, .slice oa l ca] 42)).alloc (.cells #[.int .i64 p.tos, .int .i64 p.id, .bool p.df, .bool p.mf, .int .i64 p.off, .int .i64 p.ttl, .int .i64 p.proto, .int .u32 p.src, .int .u32 p.dst, .slice oo p.ol oc, .slice ob p.bl bc] 25)) wx)
  case first =>
    by_cases h0 : pErr ys n = 0
    · have he : (pErr ys n == 0) = true := by simp [h0]
      obtain ⟨h8, hpe, r0, r9, hpp⟩ := parsed_put HG.out h0
      have hq : t1 = ys 0 ∧ c1 = ys 1 ∧ r1 = pRest ys ∧ l1 = n - 8 := by
        rcases HC.out with ⟨_, h⟩ | ⟨h, _⟩
        · exact h
        · exact absurd h0 h
      obtain ⟨rfl, rfl, rfl, rfl⟩ := hq
      obtain ⟨b, off, rfl, hblk, hc0⟩ := HG.out.at_ 0 (by omega)
      have hc1 := (bts_cell HG.out 1 (by omega)).2
      have e0 := hpp 0 (by omega) (by omega) (by omega)
      have e1 := hpp 1 (by omega) (by omega) (by omega)
      have hs4 : sameN (fun k => putB (ys 0) (ys 1) (pRest ys) (fun k => ys (8 + k)) (n - 8) (4 + k)) (fun k => ys (4 + k)) (n - 4) (n - 4) = true := by
        simp only [sameN, decide_eq_true_eq, true_and]
        exact fun i hi => hpp (4 + i) (by omega) (by omega) (by omega)
      have HN8 := Lib.hid (show 8 + (n - 8) = n by omega)
      have hcc := HG.out.le
      have HG4 := Lib.hid (bts_sub5 HG.out 4 n (by omega) (Nat.le_refl _) (by omega))
      have m1 : ¬ gc = 4 := by omega
      have m2 : (4 : Int) ≤ (n : Int) := by omega
      have m3 : (0 : Int) < (n : Int) := by omega
      have m4 : (1 : Int) < (n : Int) := by omega
      have m5 : 0 < n := by omega
      have m6 : 1 < n := by omega
      simp only [Nat.add_zero] at hc0
      clear hpp h0 HC
      go_wp2_with (first | (go_at_call 42; refine (put_any (ys 0) (ys 1) (pRest ys) o1 (n - 8) k1 (fun k => ys (8 + k)) _ (by omega) ⟨r0, r9⟩ (HQ.out.on (by ((try simp only [World.junk_junk, Array.append_assoc]); (repeat (first | with_reducible exact Junk.refl _ | with_reducible exact Junk.app _ _ _ _ _ | with_reducible exact Junk.app2 _ _ _ _ _ _ | with_reducible exact Junk.app3 _ _ _ _ _ _ _ | with_reducible exact Junk.app4 _ _ _ _ _ _ _ _ | with_reducible exact Junk.app5 _ _ _ _ _ _ _ _ _ | with_reducible apply Junk.alloc | with_reducible apply Junk.junk | with_reducible apply Junk.drew | with_reducible apply Junk.drewN)))))).mono ?_; intro e w' hp; obtain ⟨o2, k2, rfl, ⟨osj5, dj5, rfl⟩, hb⟩ := hp.ok hpe; clear hp; rw [HN8.out] at hb ⊢; obtain ⟨g, goff, rfl, hgS, _⟩ := hb.at_ 0 (by omega); have hv0 := fun os d => (World.cell?_junk _ os d g _ hgS).trans (bts_cell hb 0 (by omega)).2; have hv1 := fun os d => (World.cell?_junk _ os d g _ hgS).trans (bts_cell hb 1 (by omega)).2; have hk2 := hb.le; have Hb4 := Lib.hid (bts_sub5 hb 4 n (by omega) (Nat.le_refl _) (by omega)); (try simp only [World.junk_junk, Array.append_assoc, Nat.add_zero] at hv0 hv1 hgS ⊢); clear hb))
      have m7 : ¬ k2 = 4 := by omega
      (try simp only [Nat.add_zero] at hv0)
      rw [e0] at hv0
      rw [e1] at hv1
      have hw0 := fun d => hv0 #[] d
      have hw1 := fun d => hv1 #[] d
      simp only [Array.append_empty] at hw0 hw1
      simp only [World.size_junk, World.size_alloc] at hgS
      refine wp_region_junk (by kernel_rfl) (by kernel_rfl) ?_; (repeat (refine wpQuiet_step (fun K hK => ?_); (go_simp; try go_bits); first | (refine hK _ ?_; clear hK K) | (apply Exists.intro; refine ⟨fun _ => ?_, hK _ ?_⟩; (first | (go_at_call 21; exact Calls.junk_of2 (rsame_any _ _ (n - 4) _ (n - 4) _ (fun k => putB (ys 0) (ys 1) (pRest ys) (fun k => ys (8 + k)) (n - 8) (4 + k)) (fun k => ys (4 + k)) _ (by omega) (by omega) (Hb4.out.at_.on (by ((try simp only [World.junk_junk, Array.append_assoc]); (repeat (first | with_reducible exact Junk.refl _ | with_reducible exact Junk.app _ _ _ _ _ | with_reducible exact Junk.app2 _ _ _ _ _ _ | with_reducible exact Junk.app3 _ _ _ _ _ _ _ | with_reducible exact Junk.app4 _ _ _ _ _ _ _ _ | with_reducible exact Junk.app5 _ _ _ _ _ _ _ _ _ | with_reducible apply Junk.alloc | with_reducible apply Junk.junk | with_reducible apply Junk.drew | with_reducible apply Junk.drewN))))) (HG4.out.at_.on (by ((try simp only [World.junk_junk, Array.append_assoc]); (repeat (first | with_reducible exact Junk.refl _ | with_reducible exact Junk.app _ _ _ _ _ | with_reducible exact Junk.app2 _ _ _ _ _ _ | with_reducible exact Junk.app3 _ _ _ _ _ _ _ | with_reducible exact Junk.app4 _ _ _ _ _ _ _ _ | with_reducible exact Junk.app5 _ _ _ _ _ _ _ _ _ | with_reducible apply Junk.alloc | with_reducible apply Junk.junk | with_reducible apply Junk.drew | with_reducible apply Junk.drewN)))))))); clear hK K))); refine wpQuiet_nil ?_; rintro _ ⟨⟨osq, dq⟩, rfl⟩
      go_wp2
      all_goals
        go_meet
        exact (by ((try simp only [World.junk_junk, Array.append_assoc]); (repeat (first | with_reducible exact Junk.refl _ | with_reducible exact Junk.app _ _ _ _ _ | with_reducible exact Junk.app2 _ _ _ _ _ _ | with_reducible exact Junk.app3 _ _ _ _ _ _ _ | with_reducible exact Junk.app4 _ _ _ _ _ _ _ _ | with_reducible exact Junk.app5 _ _ _ _ _ _ _ _ _ | with_reducible apply Junk.alloc | with_reducible apply Junk.junk | with_reducible apply Junk.drew | with_reducible apply Junk.drewN))))
    · have he : (pErr ys n == 0) = false := by simp [h0]
      have H0 := Lib.hid h0
      clear h0
      go_wp2
      go_meet
      exact (by ((try simp only [World.junk_junk, Array.append_assoc]); (repeat (first | with_reducible exact Junk.refl _ | with_reducible exact Junk.app _ _ _ _ _ | with_reducible exact Junk.app2 _ _ _ _ _ _ | with_reducible exact Junk.app3 _ _ _ _ _ _ _ | with_reducible exact Junk.app4 _ _ _ _ _ _ _ _ | with_reducible exact Junk.app5 _ _ _ _ _ _ _ _ _ | with_reducible apply Junk.alloc | with_reducible apply Junk.junk | with_reducible apply Junk.drew | with_reducible apply Junk.drewN))))
  case rest =>
    obtain ⟨os, d, rfl⟩ := hcut
    go_upto_if 90 with (go_at_call 42; refine (put_any t c r oa l ca xs _ (by omega) hr (HM.out.on (by ((try simp only [World.junk_junk, Array.append_assoc]); (repeat (first | with_reducible exact Junk.refl _ | with_reducible exact Junk.app _ _ _ _ _ | with_reducible exact Junk.app2 _ _ _ _ _ _ | with_reducible exact Junk.app3 _ _ _ _ _ _ _ | with_reducible exact Junk.app4 _ _ _ _ _ _ _ _ | with_reducible exact Junk.app5 _ _ _ _ _ _ _ _ _ | with_reducible apply Junk.alloc | with_reducible apply Junk.junk | with_reducible apply Junk.drew | with_reducible apply Junk.drewN)))))).mono ?_; intro e w' hp; obtain ⟨o1, l1, k1, rfl, ⟨osj5, dj5, rfl⟩, hb, hcase⟩ := hp; have HQ := Lib.hid hb; have HC := Lib.hid hcase; clear hb hcase)
    go_cut [] (fun wx => Junk ((w.alloc (.cells #[.int .i64 t, .int .i64 c, .int .u32 r, .slice oa l ca] 42)).alloc (.cells #[.int .i64 p.tos, .int .i64 p.id, .bool p.df, .bool p.mf, .int .i64 p.off, .int .i64 p.ttl, .int .i64 p.proto, .int .u32 p.src, .int .u32 p.dst, .slice oo p.ol oc, .slice ob p.bl bc] 25)) wx)
    case first =>
      by_cases h0 : putErr t c l = 0
      · have he : (putErr t c l == 0) = true := by simp [h0]
        obtain ⟨hpe, hms⟩ := put_parsed6 (r := r) h0 hl hr HM.out.byte
        have hq : l1 = 8 + l := by
          rcases HC.out with ⟨_, h⟩ | ⟨h, _⟩
          · exact h
          · exact absurd h0 h
        subst hq
        clear HC h0
        go_wp2_with (first | (go_at_call 41; refine (parse_any o1 (8 + l) k1 (putB t c r xs l) _ (by omega) (HQ.out.on (by ((try simp only [World.junk_junk, Array.append_assoc]); (repeat (first | with_reducible exact Junk.refl _ | with_reducible exact Junk.app _ _ _ _ _ | with_reducible exact Junk.app2 _ _ _ _ _ _ | with_reducible exact Junk.app3 _ _ _ _ _ _ _ | with_reducible exact Junk.app4 _ _ _ _ _ _ _ _ | with_reducible exact Junk.app5 _ _ _ _ _ _ _ _ _ | with_reducible apply Junk.alloc | with_reducible apply Junk.junk | with_reducible apply Junk.drew | with_reducible apply Junk.drewN)))))).mono ?_; intro e w' hp; obtain ⟨o2, k2, rfl, ⟨osj6, dj6, rfl⟩, hb⟩ := hp.ok hpe; clear hp; rw [Nat.add_sub_cancel_left] at hb ⊢; have HR := Lib.hid hb; clear hb) | (go_at_call 43; refine (msame_any _ _ _ t c r _ oa l _ l ca (fun i => putB t c r xs l (8 + i)) xs _ (HR.out.on (by ((try simp only [World.junk_junk, Array.append_assoc]); (repeat (first | with_reducible exact Junk.refl _ | with_reducible exact Junk.app _ _ _ _ _ | with_reducible exact Junk.app2 _ _ _ _ _ _ | with_reducible exact Junk.app3 _ _ _ _ _ _ _ | with_reducible exact Junk.app4 _ _ _ _ _ _ _ _ | with_reducible exact Junk.app5 _ _ _ _ _ _ _ _ _ | with_reducible apply Junk.alloc | with_reducible apply Junk.junk | with_reducible apply Junk.drew | with_reducible apply Junk.drewN))))) (HM.out.on (by ((try simp only [World.junk_junk, Array.append_assoc]); (repeat (first | with_reducible exact Junk.refl _ | with_reducible exact Junk.app _ _ _ _ _ | with_reducible exact Junk.app2 _ _ _ _ _ _ | with_reducible exact Junk.app3 _ _ _ _ _ _ _ | with_reducible exact Junk.app4 _ _ _ _ _ _ _ _ | with_reducible exact Junk.app5 _ _ _ _ _ _ _ _ _ | with_reducible apply Junk.alloc | with_reducible apply Junk.junk | with_reducible apply Junk.drew | with_reducible apply Junk.drewN)))))).mono ?_; rintro e w' ⟨rfl, ⟨osj, dj, rfl⟩⟩))
        go_meet
        exact (by ((try simp only [World.junk_junk, Array.append_assoc]); (repeat (first | with_reducible exact Junk.refl _ | with_reducible exact Junk.app _ _ _ _ _ | with_reducible exact Junk.app2 _ _ _ _ _ _ | with_reducible exact Junk.app3 _ _ _ _ _ _ _ | with_reducible exact Junk.app4 _ _ _ _ _ _ _ _ | with_reducible exact Junk.app5 _ _ _ _ _ _ _ _ _ | with_reducible apply Junk.alloc | with_reducible apply Junk.junk | with_reducible apply Junk.drew | with_reducible apply Junk.drewN))))
      · have he : (putErr t c l == 0) = false := by simp [h0]
        have H0 := Lib.hid h0
        clear h0
        go_wp2
        go_meet
        exact (by ((try simp only [World.junk_junk, Array.append_assoc]); (repeat (first | with_reducible exact Junk.refl _ | with_reducible exact Junk.app _ _ _ _ _ | with_reducible exact Junk.app2 _ _ _ _ _ _ | with_reducible exact Junk.app3 _ _ _ _ _ _ _ | with_reducible exact Junk.app4 _ _ _ _ _ _ _ _ | with_reducible exact Junk.app5 _ _ _ _ _ _ _ _ _ | with_reducible apply Junk.alloc | with_reducible apply Junk.junk | with_reducible apply Junk.drew | with_reducible apply Junk.drewN))))
    case rest =>
      obtain ⟨os, d, rfl⟩ := hcut
      cases hm : mayB p with
      | false =>
        go_wp2_with (first | (go_at_call 19; refine (ipPut_any p oo ob oc bc _ (by omega) (by omega) (HP.out.on (by ((try simp only [World.junk_junk, Array.append_assoc]); (repeat (first | with_reducible exact Junk.refl _ | with_reducible exact Junk.app _ _ _ _ _ | with_reducible exact Junk.app2 _ _ _ _ _ _ | with_reducible exact Junk.app3 _ _ _ _ _ _ _ | with_reducible exact Junk.app4 _ _ _ _ _ _ _ _ | with_reducible exact Junk.app5 _ _ _ _ _ _ _ _ _ | with_reducible apply Junk.alloc | with_reducible apply Junk.junk | with_reducible apply Junk.drew | with_reducible apply Junk.drewN)))))).mono ?_; intro e w' hp; obtain ⟨rfl, ⟨osj2, dj2, rfl⟩⟩ := hp.bad hm; clear hp))
        all_goals (go_ret; exact ⟨ret_bool rfl, by ((try simp only [World.junk_junk, Array.append_assoc]); (repeat (first | with_reducible exact Junk.refl _ | with_reducible exact Junk.app _ _ _ _ _ | with_reducible exact Junk.app2 _ _ _ _ _ _ | with_reducible exact Junk.app3 _ _ _ _ _ _ _ | with_reducible exact Junk.app4 _ _ _ _ _ _ _ _ | with_reducible exact Junk.app5 _ _ _ _ _ _ _ _ _ | with_reducible apply Junk.alloc | with_reducible apply Junk.junk | with_reducible apply Junk.drew | with_reducible apply Junk.drewN)))⟩)
      | true =>
        have MP := may_iff.1 hm
        obtain ⟨N, hN⟩ : ∃ N, N = 20 + p.ol + p.bl := ⟨_, rfl⟩
        obtain ⟨ZS, hZS⟩ : ∃ ZS, ZS = behind N (pktB p) (fun _ => 0) := ⟨_, rfl⟩
        have hz : ∀ i, i < N → pktB p i = ZS i := fun i hi => by rw [hZS]; unfold behind; rw [if_pos hi]
        obtain ⟨hpe, hsame⟩ := parse_put (m := 0) (xs := fun _ => 0) MP HP.out.src HP.out.dst HP.out.opts.byte HP.out.body.byte
        rw [← hN, ← hZS] at hpe hsame
        rw [hN] at hpe
        obtain ⟨a1, a2, a3, a4, a5⟩ := put_about MP.ol hpe hsame
        obtain ⟨K, hK⟩ : ∃ K, K = min 8 p.bl := ⟨_, rfl⟩
        obtain ⟨L, hL⟩ : ∃ L, L = 20 + p.ol + K := ⟨_, rfl⟩
        rw [← hK] at a3 a4 a5
        rw [← hL] at a3 a4 a5
        have k1 : min 8 (p.bl : Int) = (K : Int) := by omega
        have k2 : (20 : Int) + (p.ol : Int) + (K : Int) = (L : Int) := by omega
        have k3 : K ≤ p.bl := by omega
        have k4 : L ≤ 5000 := by omega
        have hot := MP.ol
        have ht : tellErr 3 1 ZS N = if mute (parseIp ZS) = true then 14 else 0 := by
          unfold tellErr
          rw [if_neg (by decide), hN, if_neg (by simpa using hpe)]
        have HN := Lib.hid hN.symm
        have HZ := Lib.hid hz
        have n3 : N ≤ 5000 := by omega
        have hbb := HP.out.body.le
        have A5 := Lib.hid a5
        clear hN hZS hz hpe hsame hK hL MP a5
        cases hmu : mute (parseIp ZS) with
        | true =>
          rw [if_pos hmu] at ht
          have hne : tellErr 3 1 ZS N ≠ 0 := by rw [ht]; decide
          have hor : (p.off != 0) = true ∨ ((p.off != 0) = false ∧ (p.proto == 1) = true) := by
            unfold mute at hmu
            rw [a1, a2] at hmu
            cases h1 : (p.off != 0) with
            | true => exact .inl rfl
            | false =>
              rw [h1] at hmu
              simp only [Bool.false_or, Bool.and_eq_true] at hmu
              exact .inr ⟨rfl, hmu.1⟩
          have HT := Lib.hid ht
          have HNE := Lib.hid hne
          clear ht hne hmu a4 a1 a2
          rcases hor with h1 | ⟨h1, h2⟩
          all_goals
            go_wp2_with (first | (go_at_call 19; refine (ipPut_any p oo ob oc bc _ (by omega) (by omega) (HP.out.on (by ((try simp only [World.junk_junk, Array.append_assoc]); (repeat (first | with_reducible exact Junk.refl _ | with_reducible exact Junk.app _ _ _ _ _ | with_reducible exact Junk.app2 _ _ _ _ _ _ | with_reducible exact Junk.app3 _ _ _ _ _ _ _ | with_reducible exact Junk.app4 _ _ _ _ _ _ _ _ | with_reducible exact Junk.app5 _ _ _ _ _ _ _ _ _ | with_reducible apply Junk.alloc | with_reducible apply Junk.junk | with_reducible apply Junk.drew | with_reducible apply Junk.drewN)))))).mono ?_; intro e w' hp; obtain ⟨o3, c3, rfl, ⟨osj2, dj2, rfl⟩, hb, _⟩ := hp.ok hm; clear hp; rw [HN.out] at hb ⊢; have hb3 := bts_congr hb HZ.out; have Hb3 := Lib.hid hb3; clear hb hb3) | (go_at_call 25; refine (tell_any 3 1 0 o3 N c3 ZS _ (by omega) (Hb3.out.on (by ((try simp only [World.junk_junk, Array.append_assoc]); (repeat (first | with_reducible exact Junk.refl _ | with_reducible exact Junk.app _ _ _ _ _ | with_reducible exact Junk.app2 _ _ _ _ _ _ | with_reducible exact Junk.app3 _ _ _ _ _ _ _ | with_reducible exact Junk.app4 _ _ _ _ _ _ _ _ | with_reducible exact Junk.app5 _ _ _ _ _ _ _ _ _ | with_reducible apply Junk.alloc | with_reducible apply Junk.junk | with_reducible apply Junk.drew | with_reducible apply Junk.drewN)))))).mono ?_; intro e w' hp; obtain ⟨q1, n1, rfl, ⟨osj4, dj4, rfl⟩, _⟩ := hp.any (E := 14) (t := 0) (c := 0) (r := 0) (n := 0) HT.out.symm rfl rfl rfl rfl; clear hp))
            go_ret
            exact ⟨ret_bool rfl, by ((try simp only [World.junk_junk, Array.append_assoc]); (repeat (first | with_reducible exact Junk.refl _ | with_reducible exact Junk.app _ _ _ _ _ | with_reducible exact Junk.app2 _ _ _ _ _ _ | with_reducible exact Junk.app3 _ _ _ _ _ _ _ | with_reducible exact Junk.app4 _ _ _ _ _ _ _ _ | with_reducible exact Junk.app5 _ _ _ _ _ _ _ _ _ | with_reducible apply Junk.alloc | with_reducible apply Junk.junk | with_reducible apply Junk.drew | with_reducible apply Junk.drewN)))⟩
        | false =>
          rw [if_neg (by simp [hmu])] at ht
          have HT := Lib.hid ht
          have A3 := Lib.hid a3
          have hab : aboutErr 3 ZS L = 0 := by unfold aboutErr; rw [if_neg (by decide)]; exact a4
          have HAB := Lib.hid hab
          clear ht hmu a4 a1 a2 a3 hab
          have HPK : Hid (IpAt w { p with bl := K } oo oc ob bc) := Lib.hid ⟨HP.out.opts, bts_short HP.out.body K k3, HP.out.src, HP.out.dst⟩
          have a5 := A5.out
          go_wp2_with (first | (go_at_call 19; refine (ipPut_any p oo ob oc bc _ (by omega) (by omega) (HP.out.on (by ((try simp only [World.junk_junk, Array.append_assoc]); (repeat (first | with_reducible exact Junk.refl _ | with_reducible exact Junk.app _ _ _ _ _ | with_reducible exact Junk.app2 _ _ _ _ _ _ | with_reducible exact Junk.app3 _ _ _ _ _ _ _ | with_reducible exact Junk.app4 _ _ _ _ _ _ _ _ | with_reducible exact Junk.app5 _ _ _ _ _ _ _ _ _ | with_reducible apply Junk.alloc | with_reducible apply Junk.junk | with_reducible apply Junk.drew | with_reducible apply Junk.drewN)))))).mono ?_; intro e w' hp; obtain ⟨o3, c3, rfl, ⟨osj2, dj2, rfl⟩, hb, _⟩ := hp.ok hm; clear hp; rw [HN.out] at hb ⊢; have hb3 := bts_congr hb HZ.out; have Hb3 := Lib.hid hb3; clear hb hb3) | (go_at_call 25; refine (tell_any 3 1 0 o3 N c3 ZS _ (by omega) (Hb3.out.on (by ((try simp only [World.junk_junk, Array.append_assoc]); (repeat (first | with_reducible exact Junk.refl _ | with_reducible exact Junk.app _ _ _ _ _ | with_reducible exact Junk.app2 _ _ _ _ _ _ | with_reducible exact Junk.app3 _ _ _ _ _ _ _ | with_reducible exact Junk.app4 _ _ _ _ _ _ _ _ | with_reducible exact Junk.app5 _ _ _ _ _ _ _ _ _ | with_reducible apply Junk.alloc | with_reducible apply Junk.junk | with_reducible apply Junk.drew | with_reducible apply Junk.drewN)))))).mono ?_; intro e w' hp; obtain ⟨q1, n1, rfl, ⟨osj4, dj4, rfl⟩, hb⟩ := hp.any (E := 0) (t := 3) (c := 1) (r := 0) (n := L) HT.out.symm rfl rfl rfl (by rw [A3.out]; rfl); clear hp; have Hq1 := Lib.hid hb; clear hb) | (go_at_call 23; refine (about_any 3 1 0 q1 L n1 ZS _ (by omega) (Hq1.out.on (by ((try simp only [World.junk_junk, Array.append_assoc]); (repeat (first | with_reducible exact Junk.refl _ | with_reducible exact Junk.app _ _ _ _ _ | with_reducible exact Junk.app2 _ _ _ _ _ _ | with_reducible exact Junk.app3 _ _ _ _ _ _ _ | with_reducible exact Junk.app4 _ _ _ _ _ _ _ _ | with_reducible exact Junk.app5 _ _ _ _ _ _ _ _ _ | with_reducible apply Junk.alloc | with_reducible apply Junk.junk | with_reducible apply Junk.drew | with_reducible apply Junk.drewN)))))).mono ?_; intro e w' hp; obtain ⟨o5, o6, k5, k6, rfl, ⟨osj6, dj6, rfl⟩, hb⟩ := hp.okk HAB.out; clear hp; have Hq2 := Lib.hid hb; clear hb) | (go_at_call 20; refine (ipSame_any (aboutIp ZS L) { p with bl := K } _ _ _ _ _ _ _ _ _ (Hq2.out.on (by ((try simp only [World.junk_junk, Array.append_assoc]); (repeat (first | with_reducible exact Junk.refl _ | with_reducible exact Junk.app _ _ _ _ _ | with_reducible exact Junk.app2 _ _ _ _ _ _ | with_reducible exact Junk.app3 _ _ _ _ _ _ _ | with_reducible exact Junk.app4 _ _ _ _ _ _ _ _ | with_reducible exact Junk.app5 _ _ _ _ _ _ _ _ _ | with_reducible apply Junk.alloc | with_reducible apply Junk.junk | with_reducible apply Junk.drew | with_reducible apply Junk.drewN))))) (HPK.out.on (by ((try simp only [World.junk_junk, Array.append_assoc]); (repeat (first | with_reducible exact Junk.refl _ | with_reducible exact Junk.app _ _ _ _ _ | with_reducible exact Junk.app2 _ _ _ _ _ _ | with_reducible exact Junk.app3 _ _ _ _ _ _ _ | with_reducible exact Junk.app4 _ _ _ _ _ _ _ _ | with_reducible exact Junk.app5 _ _ _ _ _ _ _ _ _ | with_reducible apply Junk.alloc | with_reducible apply Junk.junk | with_reducible apply Junk.drew | with_reducible apply Junk.drewN)))))).mono ?_; rintro e w' ⟨rfl, ⟨osj, dj, rfl⟩⟩))
          all_goals (go_ret; exact ⟨ret_bool rfl, by ((try simp only [World.junk_junk, Array.append_assoc]); (repeat (first | with_reducible exact Junk.refl _ | with_reducible exact Junk.app _ _ _ _ _ | with_reducible exact Junk.app2 _ _ _ _ _ _ | with_reducible exact Junk.app3 _ _ _ _ _ _ _ | with_reducible exact Junk.app4 _ _ _ _ _ _ _ _ | with_reducible exact Junk.app5 _ _ _ _ _ _ _ _ _ | with_reducible apply Junk.alloc | with_reducible apply Junk.junk | with_reducible apply Junk.drew | with_reducible apply Junk.drewN)))⟩)
theorem icmpBack_core (W : World) (base : Nat) (v0 v1 v2 : Value) (a0 : Arg Try.prog W base 42 v0) (a1 : Arg Try.prog W base 23 v1) (a2 : Arg Try.prog W base 25 v2) :
    Calls Try.prog 12 #[v0, v1, v2] W fun e W' => e = .returned (.bool true) ∧ Junk W W' := by
  obtain ⟨cs_m, rfl, h_m⟩ := a0.struct Try.underlying42
  obtain ⟨hl_m, hf_m⟩ := h_m.fields1 Try.underlying42 (by kernel_rfl) (n := 4) (by kernel_rfl)
  obtain ⟨m_Type, lm0, e_m0⟩ : ∃ x l, cs_m = x :: l := by cases cs_m with | nil => simp at hl_m | cons x l => exact ⟨x, l, rfl⟩
  subst e_m0
  obtain ⟨m_Code, lm1, e_m1⟩ : ∃ x l, lm0 = x :: l := by cases lm0 with | nil => simp at hl_m | cons x l => exact ⟨x, l, rfl⟩
  subst e_m1
  obtain ⟨m_Rest, lm2, e_m2⟩ : ∃ x l, lm1 = x :: l := by cases lm1 with | nil => simp at hl_m | cons x l => exact ⟨x, l, rfl⟩
  subst e_m2
  obtain ⟨m_Body, lm3, e_m3⟩ : ∃ x l, lm2 = x :: l := by cases lm2 with | nil => simp at hl_m | cons x l => exact ⟨x, l, rfl⟩
  subst e_m3
  obtain rfl : lm3 = [] := by simpa using hl_m
  have f_m0 : Cells Try.prog W 3 [m_Type] := hf_m 0 _ rfl
  have f_m1 : Cells Try.prog W 3 [m_Code] := hf_m 1 _ rfl
  have f_m2 : Cells Try.prog W 22 [m_Rest] := hf_m 2 _ rfl
  have f_m3 : Cells Try.prog W 23 [m_Body] := hf_m 3 _ rfl
  clear hf_m hl_m
  obtain ⟨m_Type, e_m_Type, w_m_Type⟩ := f_m0.int Try.underlying3; cases e_m_Type
  obtain ⟨m_Code, e_m_Code, w_m_Code⟩ := f_m1.int Try.underlying3; cases e_m_Code
  obtain ⟨m_Rest, e_m_Rest, w_m_Rest⟩ := f_m2.int Try.underlying22; cases e_m_Rest
  obtain ⟨m_Body_a, m_Body_l, m_Body_c, m_Body, e_m_Body, lc_m_Body, cm_m_Body, S_m_Body, w_m_Body⟩ := f_m3.ints Try.underlying23 Try.underlying5 (by kernel_rfl); cases e_m_Body
  have f_b := a1.slice Try.underlying23
  obtain ⟨b_a, b_l, b_c, b, e_b, lc_b, cm_b, S_b, w_b⟩ := f_b.ints Try.underlying23 Try.underlying5 (by kernel_rfl); cases e_b
  obtain ⟨cs_p, rfl, h_p⟩ := a2.struct Try.underlying25
  obtain ⟨hl_p, hf_p⟩ := h_p.fields1 Try.underlying25 (by kernel_rfl) (n := 11) (by kernel_rfl)
  obtain ⟨p_TOS, lp0, e_p0⟩ : ∃ x l, cs_p = x :: l := by cases cs_p with | nil => simp at hl_p | cons x l => exact ⟨x, l, rfl⟩
  subst e_p0
  obtain ⟨p_ID, lp1, e_p1⟩ : ∃ x l, lp0 = x :: l := by cases lp0 with | nil => simp at hl_p | cons x l => exact ⟨x, l, rfl⟩
  subst e_p1
  obtain ⟨p_DF, lp2, e_p2⟩ : ∃ x l, lp1 = x :: l := by cases lp1 with | nil => simp at hl_p | cons x l => exact ⟨x, l, rfl⟩
  subst e_p2
  obtain ⟨p_MF, lp3, e_p3⟩ : ∃ x l, lp2 = x :: l := by cases lp2 with | nil => simp at hl_p | cons x l => exact ⟨x, l, rfl⟩
  subst e_p3
  obtain ⟨p_Off, lp4, e_p4⟩ : ∃ x l, lp3 = x :: l := by cases lp3 with | nil => simp at hl_p | cons x l => exact ⟨x, l, rfl⟩
  subst e_p4
  obtain ⟨p_TTL, lp5, e_p5⟩ : ∃ x l, lp4 = x :: l := by cases lp4 with | nil => simp at hl_p | cons x l => exact ⟨x, l, rfl⟩
  subst e_p5
  obtain ⟨p_Proto, lp6, e_p6⟩ : ∃ x l, lp5 = x :: l := by cases lp5 with | nil => simp at hl_p | cons x l => exact ⟨x, l, rfl⟩
  subst e_p6
  obtain ⟨p_Src, lp7, e_p7⟩ : ∃ x l, lp6 = x :: l := by cases lp6 with | nil => simp at hl_p | cons x l => exact ⟨x, l, rfl⟩
  subst e_p7
  obtain ⟨p_Dst, lp8, e_p8⟩ : ∃ x l, lp7 = x :: l := by cases lp7 with | nil => simp at hl_p | cons x l => exact ⟨x, l, rfl⟩
  subst e_p8
  obtain ⟨p_Opts, lp9, e_p9⟩ : ∃ x l, lp8 = x :: l := by cases lp8 with | nil => simp at hl_p | cons x l => exact ⟨x, l, rfl⟩
  subst e_p9
  obtain ⟨p_Body, lp10, e_p10⟩ : ∃ x l, lp9 = x :: l := by cases lp9 with | nil => simp at hl_p | cons x l => exact ⟨x, l, rfl⟩
  subst e_p10
  obtain rfl : lp10 = [] := by simpa using hl_p
  have f_p0 : Cells Try.prog W 3 [p_TOS] := hf_p 0 _ rfl
  have f_p1 : Cells Try.prog W 3 [p_ID] := hf_p 1 _ rfl
  have f_p2 : Cells Try.prog W 4 [p_DF] := hf_p 2 _ rfl
  have f_p3 : Cells Try.prog W 4 [p_MF] := hf_p 3 _ rfl
  have f_p4 : Cells Try.prog W 3 [p_Off] := hf_p 4 _ rfl
  have f_p5 : Cells Try.prog W 3 [p_TTL] := hf_p 5 _ rfl
  have f_p6 : Cells Try.prog W 3 [p_Proto] := hf_p 6 _ rfl
  have f_p7 : Cells Try.prog W 22 [p_Src] := hf_p 7 _ rfl
  have f_p8 : Cells Try.prog W 22 [p_Dst] := hf_p 8 _ rfl
  have f_p9 : Cells Try.prog W 23 [p_Opts] := hf_p 9 _ rfl
  have f_p10 : Cells Try.prog W 23 [p_Body] := hf_p 10 _ rfl
  clear hf_p hl_p
  obtain ⟨p_TOS, e_p_TOS, w_p_TOS⟩ := f_p0.int Try.underlying3; cases e_p_TOS
  obtain ⟨p_ID, e_p_ID, w_p_ID⟩ := f_p1.int Try.underlying3; cases e_p_ID
  obtain ⟨p_DF, e_p_DF⟩ := f_p2.bool Try.underlying4; cases e_p_DF
  obtain ⟨p_MF, e_p_MF⟩ := f_p3.bool Try.underlying4; cases e_p_MF
  obtain ⟨p_Off, e_p_Off, w_p_Off⟩ := f_p4.int Try.underlying3; cases e_p_Off
  obtain ⟨p_TTL, e_p_TTL, w_p_TTL⟩ := f_p5.int Try.underlying3; cases e_p_TTL
  obtain ⟨p_Proto, e_p_Proto, w_p_Proto⟩ := f_p6.int Try.underlying3; cases e_p_Proto
  obtain ⟨p_Src, e_p_Src, w_p_Src⟩ := f_p7.int Try.underlying22; cases e_p_Src
  obtain ⟨p_Dst, e_p_Dst, w_p_Dst⟩ := f_p8.int Try.underlying22; cases e_p_Dst
  obtain ⟨p_Opts_a, p_Opts_l, p_Opts_c, p_Opts, e_p_Opts, lc_p_Opts, cm_p_Opts, S_p_Opts, w_p_Opts⟩ := f_p9.ints Try.underlying23 Try.underlying5 (by kernel_rfl); cases e_p_Opts
  obtain ⟨p_Body_a, p_Body_l, p_Body_c, p_Body, e_p_Body, lc_p_Body, cm_p_Body, S_p_Body, w_p_Body⟩ := f_p10.ints Try.underlying23 Try.underlying5 (by kernel_rfl); cases e_p_Body
  have hlm : maxLen = 9223372036854775807 := rfl
  exact icmpBack_walk m_Type m_Code m_Rest m_Body_a m_Body_l m_Body_c m_Body b_a b_l b_c (min b_l 3000) b ⟨p_TOS, p_ID, p_DF, p_MF, p_Off, p_TTL, p_Proto, p_Src, p_Dst, p_Opts_l, p_Opts, p_Body_l, p_Body⟩ p_Opts_a p_Body_a p_Opts_c p_Body_c W (bounds_u32 w_m_Rest) ⟨S_m_Body, fun i hi => bounds_u8 (w_m_Body i hi), Cells.nil_slice Try.underlying23 f_m3, lc_m_Body, cm_m_Body⟩ ⟨S_b, fun i hi => bounds_u8 (w_b i hi), Cells.nil_slice Try.underlying23 f_b, lc_b, cm_b⟩ ⟨⟨S_p_Opts, fun i hi => bounds_u8 (w_p_Opts i hi), Cells.nil_slice Try.underlying23 f_p9, lc_p_Opts, cm_p_Opts⟩, ⟨S_p_Body, fun i hi => bounds_u8 (w_p_Body i hi), Cells.nil_slice Try.underlying23 f_p10, lc_p_Body, cm_p_Body⟩, bounds_u32 w_p_Src, bounds_u32 w_p_Dst⟩ (by omega) (by omega) (by omega)
set_option maxRecDepth 100000 in
theorem icmpBack_lifted (os : Os) (started : os.Started) (H : Type) (enc : TypeId × Value → H) :
    ReturnsInHanded {} Try.checked os 12 .any (Rows.icmpBackSpec.pre6 enc Try.prog Try.f12 Rows.icmpBackRow.domain false) (Rows.icmpBackSpec.post enc Try.prog Try.f12 false true false false) := by
  refine returnsInHanded_of_change (C := Try.checked) (by kernel_rfl) started (by kernel_rfl) Try.func12
    (ChangeSpec.witness6 (enc := enc) (C := Try.checked) false ⟨#[], #[.agg #[.int .i64 0, .int .i64 0, .int .u32 0, .slice none 0 0], .slice none 0 0, .agg #[.int .i64 0, .int .i64 0, .bool false, .bool false, .int .i64 0, .int .i64 0, .int .i64 0, .int .u32 0, .int .u32 0, .slice none 0 0, .slice none 0 0]], []⟩ 8 (by kernel_rfl) (by kernel_rfl) (by kernel_rfl) (by kernel_rfl)) ?_
  intro W base args ds gs before hval hW _ _
  obtain ⟨p, q, hA, _, _, _, _⟩ := id hW
  have hargs : Args Try.prog W base Try.f12.params.toList args.toList := args_of (fun j t v h1 h2 => hval j t v (by simpa using h1) (by simpa using h2)) hA
  rw [Try.params12] at hargs
  obtain ⟨v0, l0, e0, a0, r0⟩ := args_cons hargs
  obtain ⟨v1, l1, e1, a1, r1⟩ := args_cons r0
  obtain ⟨v2, l2, e2, a2, r2⟩ := args_cons r1
  have hn := args_nil r2
  have he : args = #[v0, v1, v2] := by
    apply Array.ext'
    simp only [e0, e1, e2, hn]
  subst he
  exact (icmpBack_core W base v0 v1 v2 a0 a1 a2).mono fun e W' ⟨he, hj⟩ => ⟨_, he, post_true (tb := 4) (by kernel_rfl) (by kernel_rfl) rfl (by kernel_rfl) rfl hW (fun hg hl => by
    subst hg
    match ds, hl with
    | [_, _, _], _ => exact ⟨rfl, rfl, rfl⟩) hj⟩
theorem icmpBack_holds : Rows.IcmpBackSaid :=
  OpenClaim.holds_of_wide 12 Try.f12 rfl rfl rfl rfl rfl rfl rfl ⟨rfl, rfl, rfl, rfl, rfl⟩ rfl rfl rfl rfl rfl (by kernel_rfl) Try.func12 (by kernel_rfl)
    (of_decide_eq_true (by kernel_rfl)) (by unfold Func.isWrapper; rw [if_neg (of_decide_eq_false (by kernel_rfl))]; exact ⟨rfl, rfl⟩)
    (fun os started H enc _ => icmpBack_lifted os started H enc)

end Go.Proofs.Ytbijbcpalmepiaa
