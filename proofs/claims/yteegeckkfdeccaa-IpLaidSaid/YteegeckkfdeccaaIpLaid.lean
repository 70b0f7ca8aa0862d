/- The law IpLaid: what is put has as many bytes as its head says, the head's sum fits, and options and body stand behind it as they are. -/
import Derived.Test.YteegeckkfdeccaaIpPlain
set_option linter.unusedVariables false
set_option linter.unusedSimpArgs false
namespace Go.Proofs.Yteegeckkfdeccaa
open Go.RowKit
theorem bts_sub2 {w : World} {oa : Option Addr} {n c : Nat} {xs : Nat → Int} (h : Bts w oa n c xs) (i l : Nat) (hij : i ≤ l) (hj : l ≤ n) (b off : Nat) (ho : oa = some ⟨b, off, none⟩) :
    Bts w (if c = i then some ⟨b, off, none⟩ else some ⟨b, off + i, none⟩) (l - i) (c - i) (fun k => xs (i + k)) := by
  subst ho; exact bts_sub h i l hij hj
set_option maxHeartbeats 2000000 in
theorem ipLaid_walk (p : Ip) (oo ob : Option Addr) (oc bc : Nat) (w : World) (hP : IpAt w p oo oc ob bc) :
    Calls Try.prog 7 #[.agg #[.int .i64 p.tos, .int .i64 p.id, .bool p.df, .bool p.mf, .int .i64 p.off, .int .i64 p.ttl, .int .i64 p.proto, .int .u32 p.src, .int .u32 p.dst, .slice oo p.ol oc, .slice ob p.bl bc]] w fun e w' => e = .returned (.bool true) ∧ Junk w w' := by
  have HP := Lib.hid hP
  clear hP
  cases hs : shortB p with
  | false =>
    go_enter Try.func7, Try.ntmps7
    go_wp2_with (first | (go_at_call 29; refine (awake03_any _).mono ?_; rintro e w' ⟨rfl, ⟨osj, dj, rfl⟩⟩) | (go_at_call 30; refine (short_any p oo ob oc bc _).mono ?_; rintro e w' ⟨rfl, ⟨osj, dj, rfl⟩⟩))
    go_ret
    exact ⟨ret_bool rfl, by ((try simp only [World.junk_junk, Array.append_assoc]); (repeat (first | with_reducible exact Junk.refl _ | with_reducible exact Junk.app _ _ _ _ _ | with_reducible exact Junk.app2 _ _ _ _ _ _ | with_reducible exact Junk.app3 _ _ _ _ _ _ _ | with_reducible exact Junk.app4 _ _ _ _ _ _ _ _ | with_reducible exact Junk.app5 _ _ _ _ _ _ _ _ _ | with_reducible apply Junk.alloc | with_reducible apply Junk.junk | with_reducible apply Junk.drew | with_reducible apply Junk.drewN)))⟩
  | true =>
    obtain ⟨s1, s2⟩ := shortB_true hs
    cases hm : mayB p with
    | false =>
      go_enter Try.func7, Try.ntmps7
      go_wp2_with (first | (go_at_call 29; refine (awake03_any _).mono ?_; rintro e w' ⟨rfl, ⟨osj, dj, rfl⟩⟩) | (go_at_call 30; refine (short_any p oo ob oc bc _).mono ?_; rintro e w' ⟨rfl, ⟨osj, dj, rfl⟩⟩) | (go_at_call 31; refine (ipPut_any p oo ob oc bc _ (by omega) (by omega) (HP.out.on (by ((try simp only [World.junk_junk, Array.append_assoc]); (repeat (first | with_reducible exact Junk.refl _ | with_reducible exact Junk.app _ _ _ _ _ | with_reducible exact Junk.app2 _ _ _ _ _ _ | with_reducible exact Junk.app3 _ _ _ _ _ _ _ | with_reducible exact Junk.app4 _ _ _ _ _ _ _ _ | with_reducible exact Junk.app5 _ _ _ _ _ _ _ _ _ | with_reducible apply Junk.alloc | with_reducible apply Junk.junk | with_reducible apply Junk.drew | with_reducible apply Junk.drewN)))))).mono ?_; intro e w' hp; obtain ⟨rfl, ⟨osj2, dj2, rfl⟩⟩ := hp.bad hm; clear hp))
      go_ret
      exact ⟨ret_bool rfl, by ((try simp only [World.junk_junk, Array.append_assoc]); (repeat (first | with_reducible exact Junk.refl _ | with_reducible exact Junk.app _ _ _ _ _ | with_reducible exact Junk.app2 _ _ _ _ _ _ | with_reducible exact Junk.app3 _ _ _ _ _ _ _ | with_reducible exact Junk.app4 _ _ _ _ _ _ _ _ | with_reducible exact Junk.app5 _ _ _ _ _ _ _ _ _ | with_reducible apply Junk.alloc | with_reducible apply Junk.junk | with_reducible apply Junk.drew | with_reducible apply Junk.drewN)))⟩
    | true =>
      have M := Lib.hid (may_iff.1 hm)
      have hol := M.out.ol
      have hfit := M.out.fit
      have hoff := M.out.off
      have ht := M.out.ttl
      have hpr := M.out.proto
      have hsum := pkt_sum M.out HP.out.src HP.out.dst HP.out.opts.byte
      have hso := pkt_opts p
      have hsb := pkt_body p
      have p0 : pktB p 0 = 64 + (20 + (p.ol : Int)) / 4 := pkt_head p 0 (by omega)
      have p2 : pktB p 2 = (20 + (p.ol : Int) + p.bl) / 256 := pkt_head p 2 (by omega)
      have p3 : pktB p 3 = (20 + (p.ol : Int) + p.bl) % 256 := pkt_head p 3 (by omega)
      have p8 : pktB p 8 = p.ttl := pkt_head p 8 (by omega)
      have p9 : pktB p 9 = p.proto := pkt_head p 9 (by omega)
      obtain ⟨S, hS⟩ : ∃ S, S = 20 + p.ol := ⟨_, rfl⟩
      obtain ⟨N, hN⟩ : ∃ N, N = S + p.bl := ⟨_, rfl⟩
      have e1 : (20 : Int) + (p.ol : Int) = (S : Int) := by omega
      have e2 : (S : Int) + (p.bl : Int) = (N : Int) := by omega
      have f1 : 20 + p.ol = S := hS.symm
      have f2 : S + p.bl = N := hN.symm
      rw [e1] at p0
      rw [e1, e2] at p2 p3
      rw [f1] at hsum hsb
      have n1 : 20 ≤ S := by omega
      have n2 : S ≤ N := by omega
      have n3 : N ≤ 65535 := by omega
      have n4 : S ≤ 60 := by omega
      have E0 : ((64 : Int) + (S : Int) / 4 == 64 + (S : Int) / 4) = true := by simp
      have E2 : ((N : Int) / 256 * 256 + (N : Int) % 256 == (N : Int)) = true := by rw [beq_iff_eq]; omega
      have F1 := Lib.hid f1
      have F2 := Lib.hid f2
      have g1 : S - 20 = p.ol := by omega
      have g2 : N - S = p.bl := by omega
      have G1 := Lib.hid g1
      have G2 := Lib.hid g2
      have j0 : (0 : Int) < (N : Int) := by omega
      have j2 : (2 : Int) < (N : Int) := by omega
      have j3 : (3 : Int) < (N : Int) := by omega
      have j8 : (8 : Int) < (N : Int) := by omega
      have j9 : (9 : Int) < (N : Int) := by omega
      have i0 : 0 < N := by omega
      have i2 : 2 < N := by omega
      have i3 : 3 < N := by omega
      have i8 : 8 < N := by omega
      have i9 : 9 < N := by omega
      have j20 : (20 : Int) ≤ (S : Int) := by omega
      have js : (S : Int) ≤ (N : Int) := by omega
      clear hS hN
      go_enter Try.func7, Try.ntmps7
      go_wp2_with (first | (go_at_call 29; refine (awake03_any _).mono ?_; rintro e w' ⟨rfl, ⟨osj, dj, rfl⟩⟩) | (go_at_call 30; refine (short_any p oo ob oc bc _).mono ?_; rintro e w' ⟨rfl, ⟨osj, dj, rfl⟩⟩) | (go_at_call 31; (try simp only [World.junk_junk]); refine calls_gen (fun osA dA => ?_); refine (ipPut_any p oo ob oc bc _ (by omega) (by omega) (HP.out.on (by ((try simp only [World.junk_junk, Array.append_assoc]); (repeat (first | with_reducible exact Junk.refl _ | with_reducible exact Junk.app _ _ _ _ _ | with_reducible exact Junk.app2 _ _ _ _ _ _ | with_reducible exact Junk.app3 _ _ _ _ _ _ _ | with_reducible exact Junk.app4 _ _ _ _ _ _ _ _ | with_reducible exact Junk.app5 _ _ _ _ _ _ _ _ _ | with_reducible apply Junk.alloc | with_reducible apply Junk.junk | with_reducible apply Junk.drew | with_reducible apply Junk.drewN)))))).mono ?_; intro e w' hp; obtain ⟨o1, c1, rfl, ⟨osj2, dj2, rfl⟩, hb, _⟩ := hp.ok hm; clear hp; rw [F1.out, F2.out] at hb ⊢; have Hb := Lib.hid hb; clear hb))
      have hle := Hb.out.le
      have jc : (S : Int) ≤ (c1 : Int) := by omega
      have hso1 := bts_sub2 Hb.out 20 S (by omega) (by omega)
      have hsb1 := bts_sub2 Hb.out S N (by omega) (Nat.le_refl _)
      have hsh1 := bts_short Hb.out S (by omega)
      obtain ⟨g, off, rfl, hgl, hc0⟩ := Hb.out.at_ 0 (by omega)
      have hd0 := fun os d => (World.cell?_junk _ os d g _ hgl).trans hc0
      have hd2 := fun os d => (World.cell?_junk _ os d g _ hgl).trans (bts_cell Hb.out 2 (by omega)).2
      have hd3 := fun os d => (World.cell?_junk _ os d g _ hgl).trans (bts_cell Hb.out 3 (by omega)).2
      have hd8 := fun os d => (World.cell?_junk _ os d g _ hgl).trans (bts_cell Hb.out 8 (by omega)).2
      have hd9 := fun os d => (World.cell?_junk _ os d g _ hgl).trans (bts_cell Hb.out 9 (by omega)).2
      simp only [World.junk_junk, Array.append_assoc, Nat.add_zero, p0, p2, p3, p8, p9] at hd0 hd2 hd3 hd8 hd9
      have hso2 := hso1 g off rfl
      have hsb2 := hsb1 g off rfl
      rw [G1.out] at hso2
      rw [G2.out] at hsb2
      have HO := Lib.hid hso2
      have HBd := Lib.hid hsb2
      have HS := Lib.hid hsh1
      clear hso1 hsb1 hsh1 hso2 hsb2 hc0 hgl Hb g1 g2
      have k1 : S - 20 = p.ol := G1.out
      have k2 : N - S = p.bl := G2.out
      simp only [List.append_eq, List.cons_append, List.nil_append]
      refine wp_region_junk (by kernel_rfl) (by kernel_rfl) ?_; (repeat (refine wpQuiet_step (fun K hK => ?_); (go_simp; try go_bits); first | (refine hK _ ?_; clear hK K) | (apply Exists.intro; refine ⟨fun _ => ?_, hK _ ?_⟩; (first | (go_at_call 28; first | with_reducible exact Calls.junk_of5 (rsum_any _ S _ (pktB p) _ (by omega) (HS.out.at_.on (by ((try simp only [World.junk_junk, Array.append_assoc]); (repeat (first | with_reducible exact Junk.refl _ | with_reducible exact Junk.app _ _ _ _ _ | with_reducible exact Junk.app2 _ _ _ _ _ _ | with_reducible exact Junk.app3 _ _ _ _ _ _ _ | with_reducible exact Junk.app4 _ _ _ _ _ _ _ _ | with_reducible exact Junk.app5 _ _ _ _ _ _ _ _ _ | with_reducible apply Junk.alloc | with_reducible apply Junk.junk | with_reducible apply Junk.drew | with_reducible apply Junk.drewN))))) HS.out.byte) | with_reducible exact Calls.junk_of4 (rsum_any _ S _ (pktB p) _ (by omega) (HS.out.at_.on (by ((try simp only [World.junk_junk, Array.append_assoc]); (repeat (first | with_reducible exact Junk.refl _ | with_reducible exact Junk.app _ _ _ _ _ | with_reducible exact Junk.app2 _ _ _ _ _ _ | with_reducible exact Junk.app3 _ _ _ _ _ _ _ | with_reducible exact Junk.app4 _ _ _ _ _ _ _ _ | with_reducible exact Junk.app5 _ _ _ _ _ _ _ _ _ | with_reducible apply Junk.alloc | with_reducible apply Junk.junk | with_reducible apply Junk.drew | with_reducible apply Junk.drewN))))) HS.out.byte) | with_reducible exact Calls.junk_of3 (rsum_any _ S _ (pktB p) _ (by omega) (HS.out.at_.on (by ((try simp only [World.junk_junk, Array.append_assoc]); (repeat (first | with_reducible exact Junk.refl _ | with_reducible exact Junk.app _ _ _ _ _ | with_reducible exact Junk.app2 _ _ _ _ _ _ | with_reducible exact Junk.app3 _ _ _ _ _ _ _ | with_reducible exact Junk.app4 _ _ _ _ _ _ _ _ | with_reducible exact Junk.app5 _ _ _ _ _ _ _ _ _ | with_reducible apply Junk.alloc | with_reducible apply Junk.junk | with_reducible apply Junk.drew | with_reducible apply Junk.drewN))))) HS.out.byte) | with_reducible exact Calls.junk_of2 (rsum_any _ S _ (pktB p) _ (by omega) (HS.out.at_.on (by ((try simp only [World.junk_junk, Array.append_assoc]); (repeat (first | with_reducible exact Junk.refl _ | with_reducible exact Junk.app _ _ _ _ _ | with_reducible exact Junk.app2 _ _ _ _ _ _ | with_reducible exact Junk.app3 _ _ _ _ _ _ _ | with_reducible exact Junk.app4 _ _ _ _ _ _ _ _ | with_reducible exact Junk.app5 _ _ _ _ _ _ _ _ _ | with_reducible apply Junk.alloc | with_reducible apply Junk.junk | with_reducible apply Junk.drew | with_reducible apply Junk.drewN))))) HS.out.byte) | exact Calls.junk_of (rsum_any _ S _ (pktB p) _ (by omega) (HS.out.at_.on (by ((try simp only [World.junk_junk, Array.append_assoc]); (repeat (first | with_reducible exact Junk.refl _ | with_reducible exact Junk.app _ _ _ _ _ | with_reducible exact Junk.app2 _ _ _ _ _ _ | with_reducible exact Junk.app3 _ _ _ _ _ _ _ | with_reducible exact Junk.app4 _ _ _ _ _ _ _ _ | with_reducible exact Junk.app5 _ _ _ _ _ _ _ _ _ | with_reducible apply Junk.alloc | with_reducible apply Junk.junk | with_reducible apply Junk.drew | with_reducible apply Junk.drewN))))) HS.out.byte)) | (go_at_call 21; first | with_reducible exact Calls.junk_of3 (rsame_any _ oo p.ol _ p.ol oc (fun k => pktB p (20 + k)) p.opts _ (by omega) (by omega) (HO.out.at_.on (by ((try simp only [World.junk_junk, Array.append_assoc]); (repeat (first | with_reducible exact Junk.refl _ | with_reducible exact Junk.app _ _ _ _ _ | with_reducible exact Junk.app2 _ _ _ _ _ _ | with_reducible exact Junk.app3 _ _ _ _ _ _ _ | with_reducible exact Junk.app4 _ _ _ _ _ _ _ _ | with_reducible exact Junk.app5 _ _ _ _ _ _ _ _ _ | with_reducible apply Junk.alloc | with_reducible apply Junk.junk | with_reducible apply Junk.drew | with_reducible apply Junk.drewN))))) (HP.out.opts.at_.on (by ((try simp only [World.junk_junk, Array.append_assoc]); (repeat (first | with_reducible exact Junk.refl _ | with_reducible exact Junk.app _ _ _ _ _ | with_reducible exact Junk.app2 _ _ _ _ _ _ | with_reducible exact Junk.app3 _ _ _ _ _ _ _ | with_reducible exact Junk.app4 _ _ _ _ _ _ _ _ | with_reducible exact Junk.app5 _ _ _ _ _ _ _ _ _ | with_reducible apply Junk.alloc | with_reducible apply Junk.junk | with_reducible apply Junk.drew | with_reducible apply Junk.drewN)))))) | exact Calls.junk_of3 (rsame_any _ ob p.bl _ p.bl bc (fun k => pktB p (S + k)) p.body _ (by omega) (by omega) (HBd.out.at_.on (by ((try simp only [World.junk_junk, Array.append_assoc]); (repeat (first | with_reducible exact Junk.refl _ | with_reducible exact Junk.app _ _ _ _ _ | with_reducible exact Junk.app2 _ _ _ _ _ _ | with_reducible exact Junk.app3 _ _ _ _ _ _ _ | with_reducible exact Junk.app4 _ _ _ _ _ _ _ _ | with_reducible exact Junk.app5 _ _ _ _ _ _ _ _ _ | with_reducible apply Junk.alloc | with_reducible apply Junk.junk | with_reducible apply Junk.drew | with_reducible apply Junk.drewN))))) (HP.out.body.at_.on (by ((try simp only [World.junk_junk, Array.append_assoc]); (repeat (first | with_reducible exact Junk.refl _ | with_reducible exact Junk.app _ _ _ _ _ | with_reducible exact Junk.app2 _ _ _ _ _ _ | with_reducible exact Junk.app3 _ _ _ _ _ _ _ | with_reducible exact Junk.app4 _ _ _ _ _ _ _ _ | with_reducible exact Junk.app5 _ _ _ _ _ _ _ _ _ | with_reducible apply Junk.alloc | with_reducible apply Junk.junk | with_reducible apply Junk.drew | with_reducible apply Junk.drewN)))))))); clear hK K))); refine wpQuiet_nil ?_; rintro _ ⟨⟨osq, dq⟩, rfl⟩
      go_wp2
      all_goals (go_ret; exact ⟨ret_bool rfl, by ((try simp only [World.junk_junk, Array.append_assoc]); (repeat (first | with_reducible exact Junk.refl _ | with_reducible exact Junk.app _ _ _ _ _ | with_reducible exact Junk.app2 _ _ _ _ _ _ | with_reducible exact Junk.app3 _ _ _ _ _ _ _ | with_reducible exact Junk.app4 _ _ _ _ _ _ _ _ | with_reducible exact Junk.app5 _ _ _ _ _ _ _ _ _ | with_reducible apply Junk.alloc | with_reducible apply Junk.junk | with_reducible apply Junk.drew | with_reducible apply Junk.drewN)))⟩)

theorem ipLaid_core (W : World) (base : Nat) (v0 : Value) (a0 : Arg Try.prog W base 45 v0) :
    Calls Try.prog 7 #[v0] W fun e W' => e = .returned (.bool true) ∧ Junk W W' := by
  obtain ⟨cs_p, rfl, h_p⟩ := a0.struct Try.underlying45
  obtain ⟨hl_p, hf_p⟩ := h_p.fields1 Try.underlying45 (by kernel_rfl) (n := 11) (by kernel_rfl)
  obtain ⟨p_TOS, lp0, e_p0⟩ : ∃ x l, cs_p = x :: l := by cases cs_p with | nil => simp at hl_p | cons x l => exact ⟨x, l, rfl⟩
  subst e_p0
  obtain ⟨p_ID, lp1, e_p1⟩ : ∃ x l, lp0 = x :: l := by cases lp0 with | nil => simp at hl_p | cons x l => exact ⟨x, l, rfl⟩
  subst e_p1
  obtain ⟨p_DF, lp2, e_p2⟩ : ∃ x l, lp1 = x :: l := by cases lp1 with | nil => simp at hl_p | cons x l => exact ⟨x, l, rfl⟩
  subst e_p2
  obtain ⟨p_MF, lp3, e_p3⟩ : ∃ x l, lp2 = x :: l := by cases lp2 with | nil => simp at hl_p | cons x l => exact ⟨x, l, rfl⟩
  subst e_p3
  obtain ⟨p_Off, lp4, e_p4⟩ : ∃ x l, lp3 = x :: l := by cases lp3 with | nil => simp at hl_p | cons x l => exact ⟨x, l, rfl⟩
  subst e_p4
  obtain ⟨p_TTL, lp5, e_p5⟩ : ∃ x l, lp4 = x :: l := by cases lp4 with | nil => simp at hl_p | cons x l => exact ⟨x, l, rfl⟩
  subst e_p5
  obtain ⟨p_Proto, lp6, e_p6⟩ : ∃ x l, lp5 = x :: l := by cases lp5 with | nil => simp at hl_p | cons x l => exact ⟨x, l, rfl⟩
  subst e_p6
  obtain ⟨p_Src, lp7, e_p7⟩ : ∃ x l, lp6 = x :: l := by cases lp6 with | nil => simp at hl_p | cons x l => exact ⟨x, l, rfl⟩
  subst e_p7
  obtain ⟨p_Dst, lp8, e_p8⟩ : ∃ x l, lp7 = x :: l := by cases lp7 with | nil => simp at hl_p | cons x l => exact ⟨x, l, rfl⟩
  subst e_p8
  obtain ⟨p_Opts, lp9, e_p9⟩ : ∃ x l, lp8 = x :: l := by cases lp8 with | nil => simp at hl_p | cons x l => exact ⟨x, l, rfl⟩
  subst e_p9
  obtain ⟨p_Body, lp10, e_p10⟩ : ∃ x l, lp9 = x :: l := by cases lp9 with | nil => simp at hl_p | cons x l => exact ⟨x, l, rfl⟩
  subst e_p10
  obtain rfl : lp10 = [] := by simpa using hl_p
  have f_p0 : Cells Try.prog W 3 [p_TOS] := hf_p 0 _ rfl
  have f_p1 : Cells Try.prog W 3 [p_ID] := hf_p 1 _ rfl
  have f_p2 : Cells Try.prog W 4 [p_DF] := hf_p 2 _ rfl
  have f_p3 : Cells Try.prog W 4 [p_MF] := hf_p 3 _ rfl
  have f_p4 : Cells Try.prog W 3 [p_Off] := hf_p 4 _ rfl
  have f_p5 : Cells Try.prog W 3 [p_TTL] := hf_p 5 _ rfl
  have f_p6 : Cells Try.prog W 3 [p_Proto] := hf_p 6 _ rfl
  have f_p7 : Cells Try.prog W 24 [p_Src] := hf_p 7 _ rfl
  have f_p8 : Cells Try.prog W 24 [p_Dst] := hf_p 8 _ rfl
  have f_p9 : Cells Try.prog W 22 [p_Opts] := hf_p 9 _ rfl
  have f_p10 : Cells Try.prog W 22 [p_Body] := hf_p 10 _ rfl
  clear hf_p hl_p
  obtain ⟨p_TOS, e_p_TOS, w_p_TOS⟩ := f_p0.int Try.underlying3; cases e_p_TOS
  obtain ⟨p_ID, e_p_ID, w_p_ID⟩ := f_p1.int Try.underlying3; cases e_p_ID
  obtain ⟨p_DF, e_p_DF⟩ := f_p2.bool Try.underlying4; cases e_p_DF
  obtain ⟨p_MF, e_p_MF⟩ := f_p3.bool Try.underlying4; cases e_p_MF
  obtain ⟨p_Off, e_p_Off, w_p_Off⟩ := f_p4.int Try.underlying3; cases e_p_Off
  obtain ⟨p_TTL, e_p_TTL, w_p_TTL⟩ := f_p5.int Try.underlying3; cases e_p_TTL
  obtain ⟨p_Proto, e_p_Proto, w_p_Proto⟩ := f_p6.int Try.underlying3; cases e_p_Proto
  obtain ⟨p_Src, e_p_Src, w_p_Src⟩ := f_p7.int Try.underlying24; cases e_p_Src
  obtain ⟨p_Dst, e_p_Dst, w_p_Dst⟩ := f_p8.int Try.underlying24; cases e_p_Dst
  obtain ⟨p_Opts_a, p_Opts_l, p_Opts_c, p_Opts, e_p_Opts, lc_p_Opts, cm_p_Opts, S_p_Opts, w_p_Opts⟩ := f_p9.ints Try.underlying22 Try.underlying5 (by kernel_rfl); cases e_p_Opts
  obtain ⟨p_Body_a, p_Body_l, p_Body_c, p_Body, e_p_Body, lc_p_Body, cm_p_Body, S_p_Body, w_p_Body⟩ := f_p10.ints Try.underlying22 Try.underlying5 (by kernel_rfl); cases e_p_Body
  have hlm : maxLen = 9223372036854775807 := rfl
  exact ipLaid_walk ⟨p_TOS, p_ID, p_DF, p_MF, p_Off, p_TTL, p_Proto, p_Src, p_Dst, p_Opts_l, p_Opts, p_Body_l, p_Body⟩ p_Opts_a p_Body_a p_Opts_c p_Body_c W ⟨⟨S_p_Opts, fun i hi => bounds_u8 (w_p_Opts i hi), Cells.nil_slice Try.underlying22 f_p9, lc_p_Opts, cm_p_Opts⟩, ⟨S_p_Body, fun i hi => bounds_u8 (w_p_Body i hi), Cells.nil_slice Try.underlying22 f_p10, lc_p_Body, cm_p_Body⟩, bounds_u32 w_p_Src, bounds_u32 w_p_Dst⟩
set_option maxRecDepth 100000 in
theorem ipLaid_lifted (os : Os) (started : os.Started) (H : Type) (enc : TypeId × Value → H) :
    ReturnsInHanded {} Try.checked os 7 .any (Rows.ipLaidSpec.pre6 enc Try.prog Try.f7 Rows.ipLaidRow.domain false) (Rows.ipLaidSpec.post enc Try.prog Try.f7 false true false false) := by
  refine returnsInHanded_of_change (C := Try.checked) (by kernel_rfl) started (by kernel_rfl) Try.func7
    (ChangeSpec.witness6 (enc := enc) (C := Try.checked) false ⟨#[], #[.agg #[.int .i64 0, .int .i64 0, .bool false, .bool false, .int .i64 0, .int .i64 0, .int .i64 0, .int .u32 0, .int .u32 0, .slice none 0 0, .slice none 0 0]], []⟩ 8 (by kernel_rfl) (by kernel_rfl) (by kernel_rfl) (by kernel_rfl)) ?_
  intro W base args ds gs before hval hW _ _
  obtain ⟨p, q, hA, _, _, _, _⟩ := id hW
  have hargs : Args Try.prog W base Try.f7.params.toList args.toList := args_of (fun j t v h1 h2 => hval j t v (by simpa using h1) (by simpa using h2)) hA
  rw [Try.params7] at hargs
  obtain ⟨v0, l0, e0, a0, r0⟩ := args_cons hargs
  have hn := args_nil r0
  have he : args = #[v0] := by
    apply Array.ext'
    simp only [e0, hn]
  subst he
  exact (ipLaid_core W base v0 a0).mono fun e W' ⟨he, hj⟩ => ⟨_, he, post_true (tb := 4) (by kernel_rfl) (by kernel_rfl) rfl (by kernel_rfl) rfl hW (fun hg hl => by
    subst hg
    match ds, hl with
    | [_], _ => exact ⟨rfl, rfl, rfl⟩) hj⟩
theorem ipLaid_holds : Rows.IpLaidSaid :=
  OpenClaim.holds_of_wide 7 Try.f7 rfl rfl rfl rfl rfl rfl rfl ⟨rfl, rfl, rfl, rfl, rfl⟩ rfl rfl rfl rfl rfl (by kernel_rfl) Try.func7 (by kernel_rfl)
    (of_decide_eq_true (by kernel_rfl)) (by unfold Func.isWrapper; rw [if_neg (of_decide_eq_false (by kernel_rfl))]; exact ⟨rfl, rfl⟩)
    (fun os started H enc _ => ipLaid_lifted os started H enc)

end Go.Proofs.Yteegeckkfdeccaa
