/- The law CutOnce: pieces for a way are not cut again for it, nor for a wider one; for a narrower one there are at least as many. -/
import Derived.Test.YtbijbcpalmepiaaCutP
import Derived.Test.YtbijbcpalmepiaaLift2
set_option linter.unusedVariables false
set_option maxRecDepth 100000
set_option linter.unusedSimpArgs false
namespace Go.Proofs.Ytbijbcpalmepiaa
open Go.RowKit
set_option maxHeartbeats 4000000 in
theorem cutOnce_walk (p : Ip) (mtu more : Int) (oo ob : Option Addr) (oc bc : Nat) (w : World) (hP : IpAt w p oo oc ob bc) :
    Calls Try.prog 4 #[.agg #[.int .i64 p.tos, .int .i64 p.id, .bool p.df, .bool p.mf, .int .i64 p.off, .int .i64 p.ttl, .int .i64 p.proto, .int .u32 p.src, .int .u32 p.dst, .slice oo p.ol oc, .slice ob p.bl bc], .int .i64 mtu, .int .i64 more] w fun e w' => e = .returned (.bool true) ∧ Junk w w' := by
  have HP := Lib.hid hP
  clear hP
  cases hs : shortB p with
  | false =>
    go_enter Try.func4, Try.ntmps4
    go_wp2_with (first | (go_at_call 13; refine (awake08_any _).mono ?_; rintro e w' ⟨rfl, ⟨osj, dj, rfl⟩⟩) | (go_at_call 14; refine (short_any p oo ob oc bc _).mono ?_; rintro e w' ⟨rfl, ⟨osj, dj, rfl⟩⟩))
    go_ret
    exact ⟨ret_bool rfl, by ((try simp only [World.junk_junk, Array.append_assoc]); (repeat (first | with_reducible exact Junk.refl _ | with_reducible exact Junk.app _ _ _ _ _ | with_reducible exact Junk.app2 _ _ _ _ _ _ | with_reducible exact Junk.app3 _ _ _ _ _ _ _ | with_reducible exact Junk.app4 _ _ _ _ _ _ _ _ | with_reducible exact Junk.app5 _ _ _ _ _ _ _ _ _ | with_reducible apply Junk.alloc | with_reducible apply Junk.junk | with_reducible apply Junk.drew | with_reducible apply Junk.drewN)))⟩
  | true =>
  obtain ⟨s1, s2⟩ := shortB_true hs
  by_cases hbl : p.bl ≤ 1000
  case neg =>
    go_enter Try.func4, Try.ntmps4
    go_wp2_with (first | (go_at_call 13; refine (awake08_any _).mono ?_; rintro e w' ⟨rfl, ⟨osj, dj, rfl⟩⟩) | (go_at_call 14; refine (short_any p oo ob oc bc _).mono ?_; rintro e w' ⟨rfl, ⟨osj, dj, rfl⟩⟩))
    go_ret
    exact ⟨ret_bool rfl, by ((try simp only [World.junk_junk, Array.append_assoc]); (repeat (first | with_reducible exact Junk.refl _ | with_reducible exact Junk.app _ _ _ _ _ | with_reducible exact Junk.app2 _ _ _ _ _ _ | with_reducible exact Junk.app3 _ _ _ _ _ _ _ | with_reducible exact Junk.app4 _ _ _ _ _ _ _ _ | with_reducible exact Junk.app5 _ _ _ _ _ _ _ _ _ | with_reducible apply Junk.alloc | with_reducible apply Junk.junk | with_reducible apply Junk.drew | with_reducible apply Junk.drewN)))⟩
  obtain ⟨n, hn⟩ : ∃ n, n = (cutL p mtu).length := ⟨_, rfl⟩
  have HN := Lib.hid hn
  by_cases hE : cutErr p mtu = 0
  case neg =>
    have he : (cutErr p mtu != 0) = true := by simp [hE]
    have hn0 : n = 0 := by rw [hn]; exact cutL_bad hE
    subst hn0
    have HE := Lib.hid hE
    clear hE hn
    go_enter Try.func4, Try.ntmps4
    go_wp2_with (first | (go_at_call 13; refine (awake08_any _).mono ?_; rintro e w' ⟨rfl, ⟨osj, dj, rfl⟩⟩) | (go_at_call 14; refine (short_any p oo ob oc bc _).mono ?_; rintro e w' ⟨rfl, ⟨osj, dj, rfl⟩⟩) | (go_at_call 15; (try simp only [World.junk_junk]); refine calls_gen (fun osA dA => ?_); refine (cut_any p mtu oo ob oc bc _ (by omega) (by omega) (HP.out.on (by ((try simp only [World.junk_junk, Array.append_assoc]); (repeat (first | with_reducible exact Junk.refl _ | with_reducible exact Junk.app _ _ _ _ _ | with_reducible exact Junk.app2 _ _ _ _ _ _ | with_reducible exact Junk.app3 _ _ _ _ _ _ _ | with_reducible exact Junk.app4 _ _ _ _ _ _ _ _ | with_reducible exact Junk.app5 _ _ _ _ _ _ _ _ _ | with_reducible apply Junk.alloc | with_reducible apply Junk.junk | with_reducible apply Junk.drew | with_reducible apply Junk.drewN)))))).mono ?_; intro e w' hp; obtain ⟨L1, oa1, cap1, rfl, ⟨osj2, dj2, rfl⟩, hL1, hn1, hown1, hat1⟩ := hp.len HN.out; clear hp; have HL1 := Lib.hid hL1; have HO1 := Lib.hid hown1; have HA1 := Lib.hid hat1; have hn9 := hown1.capLe; clear hL1 hn1 hown1 hat1) | (go_at_call 17; refine (most_any p mtu oo ob oc bc _ (by omega) (by omega) (HP.out.on (by ((try simp only [World.junk_junk, Array.append_assoc]); (repeat (first | with_reducible exact Junk.refl _ | with_reducible exact Junk.app _ _ _ _ _ | with_reducible exact Junk.app2 _ _ _ _ _ _ | with_reducible exact Junk.app3 _ _ _ _ _ _ _ | with_reducible exact Junk.app4 _ _ _ _ _ _ _ _ | with_reducible exact Junk.app5 _ _ _ _ _ _ _ _ _ | with_reducible apply Junk.alloc | with_reducible apply Junk.junk | with_reducible apply Junk.drew | with_reducible apply Junk.drewN)))))).mono ?_; rintro e w' ⟨rfl, ⟨osj4, dj4, rfl⟩⟩; rw [← HN.out]))
    go_ret
    exact ⟨ret_bool rfl, by ((try simp only [World.junk_junk, Array.append_assoc]); (repeat (first | with_reducible exact Junk.refl _ | with_reducible exact Junk.app _ _ _ _ _ | with_reducible exact Junk.app2 _ _ _ _ _ _ | with_reducible exact Junk.app3 _ _ _ _ _ _ _ | with_reducible exact Junk.app4 _ _ _ _ _ _ _ _ | with_reducible exact Junk.app5 _ _ _ _ _ _ _ _ _ | with_reducible apply Junk.alloc | with_reducible apply Junk.junk | with_reducible apply Junk.drew | with_reducible apply Junk.drewN)))⟩
  have hpos := cutL_pos hE
  rw [← hn] at hpos
  have he : (cutErr p mtu != 0) = false := by simp [hE]
  have HE := Lib.hid hE
  clear hE hn
  go_enter Try.func4, Try.ntmps4
  go_wp2_with (first | (go_at_call 13; refine (awake08_any _).mono ?_; rintro e w' ⟨rfl, ⟨osj, dj, rfl⟩⟩) | (go_at_call 14; refine (short_any p oo ob oc bc _).mono ?_; rintro e w' ⟨rfl, ⟨osj, dj, rfl⟩⟩) | (go_at_call 15; (try simp only [World.junk_junk]); refine calls_gen (fun osA dA => ?_); refine (cut_any p mtu oo ob oc bc _ (by omega) (by omega) (HP.out.on (by ((try simp only [World.junk_junk, Array.append_assoc]); (repeat (first | with_reducible exact Junk.refl _ | with_reducible exact Junk.app _ _ _ _ _ | with_reducible exact Junk.app2 _ _ _ _ _ _ | with_reducible exact Junk.app3 _ _ _ _ _ _ _ | with_reducible exact Junk.app4 _ _ _ _ _ _ _ _ | with_reducible exact Junk.app5 _ _ _ _ _ _ _ _ _ | with_reducible apply Junk.alloc | with_reducible apply Junk.junk | with_reducible apply Junk.drew | with_reducible apply Junk.drewN)))))).mono ?_; intro e w' hp; obtain ⟨L1, oa1, cap1, rfl, ⟨osj2, dj2, rfl⟩, hL1, hn1, hown1, hat1⟩ := hp.len HN.out; clear hp; have HL1 := Lib.hid hL1; have HO1 := Lib.hid hown1; have HA1 := Lib.hid hat1; have hn9 := hown1.capLe; clear hL1 hn1 hown1 hat1))
  go_loopw [9] (fun i wr => ∃ j : Nat, i = .int .i64 (j : Int) ∧ Junk ((w.alloc (.cells #[.int .i64 p.tos, .int .i64 p.id, .bool p.df, .bool p.mf, .int .i64 p.off, .int .i64 p.ttl, .int .i64 p.proto, .int .u32 p.src, .int .u32 p.dst, .slice oo p.ol oc, .slice ob p.bl bc] 25)).junk (osA ++ osj2) dj2) wr ∧ j ≤ n) (fun i _ => n + 1 - (intOf i).toNat)
  case atStart => exact ⟨0, rfl, by ((try simp only [World.junk_junk, Array.append_assoc]); (repeat (first | with_reducible exact Junk.refl _ | with_reducible exact Junk.app _ _ _ _ _ | with_reducible exact Junk.app2 _ _ _ _ _ _ | with_reducible exact Junk.app3 _ _ _ _ _ _ _ | with_reducible exact Junk.app4 _ _ _ _ _ _ _ _ | with_reducible exact Junk.app5 _ _ _ _ _ _ _ _ _ | with_reducible apply Junk.alloc | with_reducible apply Junk.junk | with_reducible apply Junk.drew | with_reducible apply Junk.drewN))), by omega⟩
  case round =>
    obtain ⟨j, rfl, ⟨os, d, rfl⟩, hj⟩ := hrel
    have hm9 : maxLen = 9223372036854775807 := rfl
    by_cases hlt : j < n
    · have hlt' : j < (cutL p mtu).length := by rw [← HN.out]; exact hlt
      have hq : (cutL p mtu)[j]? = some (cutL p mtu)[j] := List.getElem?_eq_getElem hlt'
      obtain ⟨at_, to, hpc⟩ := piece_of HE.out hq
      have hone := cut_again HE.out hq
      have hql : (cutL p mtu)[j].ol ≤ 100000000 ∧ (cutL p mtu)[j].bl ≤ 100000 := by
        have e1 := hpc.eq
        have e2 := hpc.tl
        rw [e1]
        exact ⟨by show p.ol ≤ _; omega, by show to - at_ ≤ _; omega⟩
      generalize (cutL p mtu)[j] = q at hq hone hql
      obtain ⟨⟨q1, oo1, oc1, ob1, bc1⟩, hf1, hp1⟩ := frame_at HL1.out j hq
      simp only at hp1
      subst hp1
      have A1 := Lib.hid (show IpAt _ q1 oo1 oc1 ob1 bc1 from HA1.out _ (List.mem_of_getElem? hf1))
      obtain ⟨g1, rfl, _, hg1, _⟩ := own_some HO1.out (by omega)
      have ld1 := cells_at (HO1.out.on (show Junk _ ((w.alloc (.cells #[.int .i64 p.tos, .int .i64 p.id, .bool p.df, .bool p.mf, .int .i64 p.off, .int .i64 p.ttl, .int .i64 p.proto, .int .u32 p.src, .int .u32 p.dst, .slice oo p.ol oc, .slice ob p.bl bc] 25)).junk (osA ++ (osj2 ++ os)) d) from by ((try simp only [World.junk_junk, Array.append_assoc]); (repeat (first | with_reducible exact Junk.refl _ | with_reducible exact Junk.app _ _ _ _ _ | with_reducible exact Junk.app2 _ _ _ _ _ _ | with_reducible exact Junk.app3 _ _ _ _ _ _ _ | with_reducible exact Junk.app4 _ _ _ _ _ _ _ _ | with_reducible exact Junk.app5 _ _ _ _ _ _ _ _ _ | with_reducible apply Junk.alloc | with_reducible apply Junk.junk | with_reducible apply Junk.drew | with_reducible apply Junk.drewN))))) j _ hf1
      simp only at ld1
      have j1 : (j : Int) < (n : Int) := by omega
      obtain ⟨v1, v2⟩ := hql
      have HM := Lib.hid hone
      clear hf1 hq hpc hone
      go_wp2_with (first | (go_at_call 17; refine (most_any q1 mtu oo1 ob1 oc1 bc1 _ v1 v2 (A1.out.on (by ((try simp only [World.junk_junk, Array.append_assoc]); (repeat (first | with_reducible exact Junk.refl _ | with_reducible exact Junk.app _ _ _ _ _ | with_reducible exact Junk.app2 _ _ _ _ _ _ | with_reducible exact Junk.app3 _ _ _ _ _ _ _ | with_reducible exact Junk.app4 _ _ _ _ _ _ _ _ | with_reducible exact Junk.app5 _ _ _ _ _ _ _ _ _ | with_reducible apply Junk.alloc | with_reducible apply Junk.junk | with_reducible apply Junk.drew | with_reducible apply Junk.drewN)))))).mono ?_; rintro e w' ⟨rfl, ⟨osj4, dj4, rfl⟩⟩; rw [HM.out]))
      exact ⟨⟨j + 1, by go_num, by ((try simp only [World.junk_junk, Array.append_assoc]); (repeat (first | with_reducible exact Junk.refl _ | with_reducible exact Junk.app _ _ _ _ _ | with_reducible exact Junk.app2 _ _ _ _ _ _ | with_reducible exact Junk.app3 _ _ _ _ _ _ _ | with_reducible exact Junk.app4 _ _ _ _ _ _ _ _ | with_reducible exact Junk.app5 _ _ _ _ _ _ _ _ _ | with_reducible apply Junk.alloc | with_reducible apply Junk.junk | with_reducible apply Junk.drew | with_reducible apply Junk.drewN))), by omega⟩, by simp [intOf]; omega⟩
    · have j1 : ¬ (j : Int) < (n : Int) := by omega
      obtain ⟨m, hm⟩ : ∃ m, m = (cutL p more).length := ⟨_, rfl⟩
      have HM := Lib.hid hm
      by_cases hz : cutErr p more = 0
      case neg =>
        have hm0 : m = 0 := by rw [hm]; exact cutL_bad hz
        subst hm0
        clear hm hz
        go_wp2_with (first | (go_at_call 17; refine (most_any p more oo ob oc bc _ (by omega) (by omega) (HP.out.on (by ((try simp only [World.junk_junk, Array.append_assoc]); (repeat (first | with_reducible exact Junk.refl _ | with_reducible exact Junk.app _ _ _ _ _ | with_reducible exact Junk.app2 _ _ _ _ _ _ | with_reducible exact Junk.app3 _ _ _ _ _ _ _ | with_reducible exact Junk.app4 _ _ _ _ _ _ _ _ | with_reducible exact Junk.app5 _ _ _ _ _ _ _ _ _ | with_reducible apply Junk.alloc | with_reducible apply Junk.junk | with_reducible apply Junk.drew | with_reducible apply Junk.drewN)))))).mono ?_; rintro e w' ⟨rfl, ⟨osj4, dj4, rfl⟩⟩; rw [← HM.out]))
        go_ret
        exact ⟨ret_bool rfl, by ((try simp only [World.junk_junk, Array.append_assoc]); (repeat (first | with_reducible exact Junk.refl _ | with_reducible exact Junk.app _ _ _ _ _ | with_reducible exact Junk.app2 _ _ _ _ _ _ | with_reducible exact Junk.app3 _ _ _ _ _ _ _ | with_reducible exact Junk.app4 _ _ _ _ _ _ _ _ | with_reducible exact Junk.app5 _ _ _ _ _ _ _ _ _ | with_reducible apply Junk.alloc | with_reducible apply Junk.junk | with_reducible apply Junk.drew | with_reducible apply Junk.drewN)))⟩
      have hmp := cutL_pos hz
      have hge : more ≤ mtu → n ≤ m := fun h => by rw [HN.out, hm]; exact cutL_mono hz HE.out h
      have hle : mtu ≤ more → m ≤ n := fun h => by rw [HN.out, hm]; exact cutL_mono HE.out hz h
      rw [← hm] at hmp
      have m0 : ((m : Int) == 0) = false := by simp; omega
      clear hm hz
      rcases Int.lt_trichotomy more mtu with h3 | h3 | h3
      · have g1 : (n : Int) ≤ (m : Int) := by have := hge (by omega); omega
        have g2 : ¬ mtu < more := by omega
        clear hge hle
        go_wp2_with (first | (go_at_call 17; refine (most_any p more oo ob oc bc _ (by omega) (by omega) (HP.out.on (by ((try simp only [World.junk_junk, Array.append_assoc]); (repeat (first | with_reducible exact Junk.refl _ | with_reducible exact Junk.app _ _ _ _ _ | with_reducible exact Junk.app2 _ _ _ _ _ _ | with_reducible exact Junk.app3 _ _ _ _ _ _ _ | with_reducible exact Junk.app4 _ _ _ _ _ _ _ _ | with_reducible exact Junk.app5 _ _ _ _ _ _ _ _ _ | with_reducible apply Junk.alloc | with_reducible apply Junk.junk | with_reducible apply Junk.drew | with_reducible apply Junk.drewN)))))).mono ?_; rintro e w' ⟨rfl, ⟨osj4, dj4, rfl⟩⟩; rw [← HM.out]))
        go_ret
        exact ⟨ret_bool rfl, by ((try simp only [World.junk_junk, Array.append_assoc]); (repeat (first | with_reducible exact Junk.refl _ | with_reducible exact Junk.app _ _ _ _ _ | with_reducible exact Junk.app2 _ _ _ _ _ _ | with_reducible exact Junk.app3 _ _ _ _ _ _ _ | with_reducible exact Junk.app4 _ _ _ _ _ _ _ _ | with_reducible exact Junk.app5 _ _ _ _ _ _ _ _ _ | with_reducible apply Junk.alloc | with_reducible apply Junk.junk | with_reducible apply Junk.drew | with_reducible apply Junk.drewN)))⟩
      · have g1 : n = m := by have := hge (by omega); have := hle (by omega); omega
        have g2 : ¬ more < mtu := by omega
        have g3 : ¬ mtu < more := by omega
        subst g1
        clear hge hle h3
        go_wp2_with (first | (go_at_call 17; refine (most_any p more oo ob oc bc _ (by omega) (by omega) (HP.out.on (by ((try simp only [World.junk_junk, Array.append_assoc]); (repeat (first | with_reducible exact Junk.refl _ | with_reducible exact Junk.app _ _ _ _ _ | with_reducible exact Junk.app2 _ _ _ _ _ _ | with_reducible exact Junk.app3 _ _ _ _ _ _ _ | with_reducible exact Junk.app4 _ _ _ _ _ _ _ _ | with_reducible exact Junk.app5 _ _ _ _ _ _ _ _ _ | with_reducible apply Junk.alloc | with_reducible apply Junk.junk | with_reducible apply Junk.drew | with_reducible apply Junk.drewN)))))).mono ?_; rintro e w' ⟨rfl, ⟨osj4, dj4, rfl⟩⟩; rw [← HM.out]))
        go_ret
        exact ⟨ret_bool rfl, by ((try simp only [World.junk_junk, Array.append_assoc]); (repeat (first | with_reducible exact Junk.refl _ | with_reducible exact Junk.app _ _ _ _ _ | with_reducible exact Junk.app2 _ _ _ _ _ _ | with_reducible exact Junk.app3 _ _ _ _ _ _ _ | with_reducible exact Junk.app4 _ _ _ _ _ _ _ _ | with_reducible exact Junk.app5 _ _ _ _ _ _ _ _ _ | with_reducible apply Junk.alloc | with_reducible apply Junk.junk | with_reducible apply Junk.drew | with_reducible apply Junk.drewN)))⟩
      · have g1 : (m : Int) ≤ (n : Int) := by have := hle (by omega); omega
        have g2 : ¬ more < mtu := by omega
        clear hge hle
        go_wp2_with (first | (go_at_call 17; refine (most_any p more oo ob oc bc _ (by omega) (by omega) (HP.out.on (by ((try simp only [World.junk_junk, Array.append_assoc]); (repeat (first | with_reducible exact Junk.refl _ | with_reducible exact Junk.app _ _ _ _ _ | with_reducible exact Junk.app2 _ _ _ _ _ _ | with_reducible exact Junk.app3 _ _ _ _ _ _ _ | with_reducible exact Junk.app4 _ _ _ _ _ _ _ _ | with_reducible exact Junk.app5 _ _ _ _ _ _ _ _ _ | with_reducible apply Junk.alloc | with_reducible apply Junk.junk | with_reducible apply Junk.drew | with_reducible apply Junk.drewN)))))).mono ?_; rintro e w' ⟨rfl, ⟨osj4, dj4, rfl⟩⟩; rw [← HM.out]))
        go_ret
        exact ⟨ret_bool rfl, by ((try simp only [World.junk_junk, Array.append_assoc]); (repeat (first | with_reducible exact Junk.refl _ | with_reducible exact Junk.app _ _ _ _ _ | with_reducible exact Junk.app2 _ _ _ _ _ _ | with_reducible exact Junk.app3 _ _ _ _ _ _ _ | with_reducible exact Junk.app4 _ _ _ _ _ _ _ _ | with_reducible exact Junk.app5 _ _ _ _ _ _ _ _ _ | with_reducible apply Junk.alloc | with_reducible apply Junk.junk | with_reducible apply Junk.drew | with_reducible apply Junk.drewN)))⟩

theorem cutOnce_core (W : World) (base : Nat) (v0 v1 v2 : Value) (a0 : Arg Try.prog W base 25 v0) (a1 : Arg Try.prog W base 3 v1) (a2 : Arg Try.prog W base 3 v2) :
    Calls Try.prog 4 #[v0, v1, v2] W fun e W' => e = .returned (.bool true) ∧ Junk W W' := by
  obtain ⟨cs_p, rfl, h_p⟩ := a0.struct Try.underlying25
  obtain ⟨hl_p, hf_p⟩ := h_p.fields1 Try.underlying25 (by kernel_rfl) (n := 11) (by kernel_rfl)
  obtain ⟨p_TOS, lp0, e_p0⟩ : ∃ x l, cs_p = x :: l := by cases cs_p with | nil => simp at hl_p | cons x l => exact ⟨x, l, rfl⟩
  subst e_p0
  obtain ⟨p_ID, lp1, e_p1⟩ : ∃ x l, lp0 = x :: l := by cases lp0 with | nil => simp at hl_p | cons x l => exact ⟨x, l, rfl⟩
  subst e_p1
  obtain ⟨p_DF, lp2, e_p2⟩ : ∃ x l, lp1 = x :: l := by cases lp1 with | nil => simp at hl_p | cons x l => exact ⟨x, l, rfl⟩
  subst e_p2
  obtain ⟨p_MF, lp3, e_p3⟩ : ∃ x l, lp2 = x :: l := by cases lp2 with | nil => simp at hl_p | cons x l => exact ⟨x, l, rfl⟩
  subst e_p3
  obtain ⟨p_Off, lp4, e_p4⟩ : ∃ x l, lp3 = x :: l := by cases lp3 with | nil => simp at hl_p | cons x l => exact ⟨x, l, rfl⟩
  subst e_p4
  obtain ⟨p_TTL, lp5, e_p5⟩ : ∃ x l, lp4 = x :: l := by cases lp4 with | nil => simp at hl_p | cons x l => exact ⟨x, l, rfl⟩
  subst e_p5
  obtain ⟨p_Proto, lp6, e_p6⟩ : ∃ x l, lp5 = x :: l := by cases lp5 with | nil => simp at hl_p | cons x l => exact ⟨x, l, rfl⟩
  subst e_p6
  obtain ⟨p_Src, lp7, e_p7⟩ : ∃ x l, lp6 = x :: l := by cases lp6 with | nil => simp at hl_p | cons x l => exact ⟨x, l, rfl⟩
  subst e_p7
  obtain ⟨p_Dst, lp8, e_p8⟩ : ∃ x l, lp7 = x :: l := by cases lp7 with | nil => simp at hl_p | cons x l => exact ⟨x, l, rfl⟩
  subst e_p8
  obtain ⟨p_Opts, lp9, e_p9⟩ : ∃ x l, lp8 = x :: l := by cases lp8 with | nil => simp at hl_p | cons x l => exact ⟨x, l, rfl⟩
  subst e_p9
  obtain ⟨p_Body, lp10, e_p10⟩ : ∃ x l, lp9 = x :: l := by cases lp9 with | nil => simp at hl_p | cons x l => exact ⟨x, l, rfl⟩
  subst e_p10
  obtain rfl : lp10 = [] := by simpa using hl_p
  have f_p0 : Cells Try.prog W 3 [p_TOS] := hf_p 0 _ rfl
  have f_p1 : Cells Try.prog W 3 [p_ID] := hf_p 1 _ rfl
  have f_p2 : Cells Try.prog W 4 [p_DF] := hf_p 2 _ rfl
  have f_p3 : Cells Try.prog W 4 [p_MF] := hf_p 3 _ rfl
  have f_p4 : Cells Try.prog W 3 [p_Off] := hf_p 4 _ rfl
  have f_p5 : Cells Try.prog W 3 [p_TTL] := hf_p 5 _ rfl
  have f_p6 : Cells Try.prog W 3 [p_Proto] := hf_p 6 _ rfl
  have f_p7 : Cells Try.prog W 22 [p_Src] := hf_p 7 _ rfl
  have f_p8 : Cells Try.prog W 22 [p_Dst] := hf_p 8 _ rfl
  have f_p9 : Cells Try.prog W 23 [p_Opts] := hf_p 9 _ rfl
  have f_p10 : Cells Try.prog W 23 [p_Body] := hf_p 10 _ rfl
  clear hf_p hl_p
  obtain ⟨p_TOS, e_p_TOS, w_p_TOS⟩ := f_p0.int Try.underlying3; cases e_p_TOS
  obtain ⟨p_ID, e_p_ID, w_p_ID⟩ := f_p1.int Try.underlying3; cases e_p_ID
  obtain ⟨p_DF, e_p_DF⟩ := f_p2.bool Try.underlying4; cases e_p_DF
  obtain ⟨p_MF, e_p_MF⟩ := f_p3.bool Try.underlying4; cases e_p_MF
  obtain ⟨p_Off, e_p_Off, w_p_Off⟩ := f_p4.int Try.underlying3; cases e_p_Off
  obtain ⟨p_TTL, e_p_TTL, w_p_TTL⟩ := f_p5.int Try.underlying3; cases e_p_TTL
  obtain ⟨p_Proto, e_p_Proto, w_p_Proto⟩ := f_p6.int Try.underlying3; cases e_p_Proto
  obtain ⟨p_Src, e_p_Src, w_p_Src⟩ := f_p7.int Try.underlying22; cases e_p_Src
  obtain ⟨p_Dst, e_p_Dst, w_p_Dst⟩ := f_p8.int Try.underlying22; cases e_p_Dst
  obtain ⟨p_Opts_a, p_Opts_l, p_Opts_c, p_Opts, e_p_Opts, lc_p_Opts, cm_p_Opts, S_p_Opts, w_p_Opts⟩ := f_p9.ints Try.underlying23 Try.underlying5 (by kernel_rfl); cases e_p_Opts
  obtain ⟨p_Body_a, p_Body_l, p_Body_c, p_Body, e_p_Body, lc_p_Body, cm_p_Body, S_p_Body, w_p_Body⟩ := f_p10.ints Try.underlying23 Try.underlying5 (by kernel_rfl); cases e_p_Body
  obtain ⟨mtu, rfl, w_mtu⟩ := a1.int Try.underlying3
  obtain ⟨more, rfl, w_more⟩ := a2.int Try.underlying3
  exact cutOnce_walk ⟨p_TOS, p_ID, p_DF, p_MF, p_Off, p_TTL, p_Proto, p_Src, p_Dst, p_Opts_l, p_Opts, p_Body_l, p_Body⟩ mtu more p_Opts_a p_Body_a p_Opts_c p_Body_c W ⟨⟨S_p_Opts, fun i hi => bounds_u8 (w_p_Opts i hi), Cells.nil_slice Try.underlying23 f_p9, lc_p_Opts, cm_p_Opts⟩, ⟨S_p_Body, fun i hi => bounds_u8 (w_p_Body i hi), Cells.nil_slice Try.underlying23 f_p10, lc_p_Body, cm_p_Body⟩, bounds_u32 w_p_Src, bounds_u32 w_p_Dst⟩
set_option maxRecDepth 100000 in
theorem cutOnce_lifted (os : Os) (started : os.Started) (H : Type) (enc : TypeId × Value → H) :
    ReturnsInHanded {} Try.checked os 4 .any (Rows.cutOnceSpec.pre6 enc Try.prog Try.f4 Rows.cutOnceRow.domain false) (Rows.cutOnceSpec.post enc Try.prog Try.f4 false true false false) := by
  refine returnsInHanded_of_change (C := Try.checked) (by kernel_rfl) started (by kernel_rfl) Try.func4
    (ChangeSpec.witness6 (enc := enc) (C := Try.checked) false ⟨#[], #[.agg #[.int .i64 0, .int .i64 0, .bool false, .bool false, .int .i64 0, .int .i64 0, .int .i64 0, .int .u32 0, .int .u32 0, .slice none 0 0, .slice none 0 0], .int .i64 0, .int .i64 0], []⟩ 8 (by kernel_rfl) (by kernel_rfl) (by kernel_rfl) (by kernel_rfl)) ?_
  intro W base args ds gs before hval hW _ _
  obtain ⟨p, q, hA, _, _, _, _⟩ := id hW
  have hargs : Args Try.prog W base Try.f4.params.toList args.toList := args_of (fun j t v h1 h2 => hval j t v (by simpa using h1) (by simpa using h2)) hA
  rw [Try.params4] at hargs
  obtain ⟨v0, l0, e0, a0, r0⟩ := args_cons hargs
  obtain ⟨v1, l1, e1, a1, r1⟩ := args_cons r0
  obtain ⟨v2, l2, e2, a2, r2⟩ := args_cons r1
  have hn := args_nil r2
  have he : args = #[v0, v1, v2] := by
    apply Array.ext'
    simp only [e0, e1, e2, hn]
  subst he
  exact (cutOnce_core W base v0 v1 v2 a0 a1 a2).mono fun e W' ⟨he, hj⟩ => ⟨_, he, post_true (tb := 4) (by kernel_rfl) (by kernel_rfl) rfl (by kernel_rfl) rfl hW (fun hg hl => by
    subst hg
    match ds, hl with
    | [_, _, _], _ => exact ⟨rfl, rfl, rfl⟩) hj⟩
theorem cutOnce_holds : Rows.CutOnceSaid :=
  OpenClaim.holds_of_wide 4 Try.f4 rfl rfl rfl rfl rfl rfl rfl ⟨rfl, rfl, rfl, rfl, rfl⟩ rfl rfl rfl rfl rfl (by kernel_rfl) Try.func4 (by kernel_rfl)
    (of_decide_eq_true (by kernel_rfl)) (by unfold Func.isWrapper; rw [if_neg (of_decide_eq_false (by kernel_rfl))]; exact ⟨rfl, rfl⟩)
    (fun os started H enc _ => cutOnce_lifted os started H enc)

end Go.Proofs.Ytbijbcpalmepiaa
