/- The law TcpLaid: what is put has its head's length in words of four bytes, its body behind it, and a sum that fits with the pseudo head. -/
import Derived.Test.YtjmofjcloebgmaaTcpL
set_option linter.unusedVariables false
set_option maxRecDepth 100000
set_option linter.unusedSimpArgs false
namespace Go.Proofs.Ytjmofjcloebgmaa
open Go.RowKit
set_option maxHeartbeats 4000000 in
theorem tcpLaid_walk (src dst : Int) (t : Tc) (F : List Ot) (N : Nat) (oo ob : Option Addr) (co cb : Nat) (w : World) (h1 : 0 ≤ src ∧ src ≤ 4294967295) (h2 : 0 ≤ dst ∧ dst ≤ 4294967295) (hF : F.map Ot.d = t.os) (hFN : F.length = N) (hN : N ≤ 9223372036854775807) (hP : TcAt w F oo co t.bl t.body ob cb) (hW : TcWf t) :
    Calls Try.prog 5 #[.int .u32 src, .int .u32 dst, .agg #[.int .i64 t.sport, .int .i64 t.dport, .int .u32 t.seq, .int .u32 t.ack, .int .i64 t.flags, .int .i64 t.win, .int .i64 t.urg, .slice oo N co, .slice ob t.bl cb]] w fun e w' => e = .returned (.bool true) ∧ Junk w w' := by
  have HP := Lib.hid hP
  have HFD := Lib.hid hF
  have HFN := Lib.hid hFN
  have HW := Lib.hid hW
  cases hs : tcShort t with
  | false =>
    clear hP hF hFN hW
    go_enter Try.func5, Try.ntmps5
    go_wp2_with (first | (go_at_call 13; refine (awake04_any _).mono ?_; rintro e w' ⟨rfl, ⟨osj, dj, rfl⟩⟩) | (go_at_call 17; refine (tshort_any t F N oo ob co cb _ HFD.out HFN.out hN (HP.out.on (by ((try simp only [World.junk_junk, Array.append_assoc]); (repeat (first | with_reducible exact Junk.refl _ | with_reducible exact Junk.app _ _ _ _ _ | with_reducible exact Junk.app2 _ _ _ _ _ _ | with_reducible exact Junk.app3 _ _ _ _ _ _ _ | with_reducible exact Junk.app4 _ _ _ _ _ _ _ _ | with_reducible exact Junk.app5 _ _ _ _ _ _ _ _ _ | with_reducible apply Junk.alloc | with_reducible apply Junk.junk | with_reducible apply Junk.drew | with_reducible apply Junk.drewN)))))).mono ?_; rintro e w' ⟨rfl, ⟨osj, dj, rfl⟩⟩))
    go_ret
    exact ⟨ret_bool rfl, by ((try simp only [World.junk_junk, Array.append_assoc]); (repeat (first | with_reducible exact Junk.refl _ | with_reducible exact Junk.app _ _ _ _ _ | with_reducible exact Junk.app2 _ _ _ _ _ _ | with_reducible exact Junk.app3 _ _ _ _ _ _ _ | with_reducible exact Junk.app4 _ _ _ _ _ _ _ _ | with_reducible exact Junk.app5 _ _ _ _ _ _ _ _ _ | with_reducible apply Junk.alloc | with_reducible apply Junk.junk | with_reducible apply Junk.drew | with_reducible apply Junk.drewN)))⟩
  | true =>
    obtain ⟨s1, s2, s3⟩ := tcShort_true hs
    have hN60 : N ≤ 60 := by rw [← hFN, ← List.length_map (f := Ot.d), hF]; exact s1
    have HL := Lib.hid (show ∀ f ∈ F, f.l ≤ 100000000 from fun f hf => by have := s3 f.d (by rw [← hF]; exact List.mem_map.2 ⟨f, hf, rfl⟩); have e : f.d.l = f.l := rfl; omega)
    have HL3 := Lib.hid (show ∀ f ∈ F, f.l ≤ 300 from fun f hf => s3 f.d (by rw [← hF]; exact List.mem_map.2 ⟨f, hf, rfl⟩))
    clear hP hF hFN hW s1 s3
    cases hm : tcMay t with
    | false =>
      go_enter Try.func5, Try.ntmps5
      go_wp2_with (first | (go_at_call 13; refine (awake04_any _).mono ?_; rintro e w' ⟨rfl, ⟨osj, dj, rfl⟩⟩) | (go_at_call 17; refine (tshort_any t F N oo ob co cb _ HFD.out HFN.out hN (HP.out.on (by ((try simp only [World.junk_junk, Array.append_assoc]); (repeat (first | with_reducible exact Junk.refl _ | with_reducible exact Junk.app _ _ _ _ _ | with_reducible exact Junk.app2 _ _ _ _ _ _ | with_reducible exact Junk.app3 _ _ _ _ _ _ _ | with_reducible exact Junk.app4 _ _ _ _ _ _ _ _ | with_reducible exact Junk.app5 _ _ _ _ _ _ _ _ _ | with_reducible apply Junk.alloc | with_reducible apply Junk.junk | with_reducible apply Junk.drew | with_reducible apply Junk.drewN)))))).mono ?_; rintro e w' ⟨rfl, ⟨osj, dj, rfl⟩⟩) | (go_at_call 18; refine (tput_any src dst t F N oo ob co cb _ h1 h2 HFD.out HFN.out (by omega) (HP.out.on (by ((try simp only [World.junk_junk, Array.append_assoc]); (repeat (first | with_reducible exact Junk.refl _ | with_reducible exact Junk.app _ _ _ _ _ | with_reducible exact Junk.app2 _ _ _ _ _ _ | with_reducible exact Junk.app3 _ _ _ _ _ _ _ | with_reducible exact Junk.app4 _ _ _ _ _ _ _ _ | with_reducible exact Junk.app5 _ _ _ _ _ _ _ _ _ | with_reducible apply Junk.alloc | with_reducible apply Junk.junk | with_reducible apply Junk.drew | with_reducible apply Junk.drewN))))) HL.out (by omega) HW.out).mono ?_; intro e w' hp; obtain ⟨rfl, ⟨osp, dp, rfl⟩⟩ := hp.bad hm; clear hp))
      go_ret
      exact ⟨ret_bool rfl, by ((try simp only [World.junk_junk, Array.append_assoc]); (repeat (first | with_reducible exact Junk.refl _ | with_reducible exact Junk.app _ _ _ _ _ | with_reducible exact Junk.app2 _ _ _ _ _ _ | with_reducible exact Junk.app3 _ _ _ _ _ _ _ | with_reducible exact Junk.app4 _ _ _ _ _ _ _ _ | with_reducible exact Junk.app5 _ _ _ _ _ _ _ _ _ | with_reducible apply Junk.alloc | with_reducible apply Junk.junk | with_reducible apply Junk.drew | with_reducible apply Junk.drewN)))⟩
    | true =>
      have M := tcMay_iff.1 hm
      have hS := tcSz_le M
      have hfit := M.fit
      have hsum := seg_sum h1 h2 M HW.out
      have hbb := segB_byte M HW.out (segSum_bd h1 h2 M HW.out)
      have hsz : tcSz t = 20 + (optsN F + 3) / 4 * 4 := by unfold tcSz; rw [← HFD.out, optsND_d]
      have e12 : segOf src dst t 12 = (tcSz t : Int) / 4 * 16 := seg_head (by omega) hS.1
      have hbody : ∀ i, segOf src dst t (tcSz t + i) = t.body i := fun i => by unfold segOf segB; rw [if_neg (by omega), Nat.add_sub_cancel_left]
      obtain ⟨xs, hxs⟩ : ∃ xs, segOf src dst t = xs := ⟨_, rfl⟩
      obtain ⟨S, hSS⟩ : ∃ S, tcSz t = S := ⟨_, rfl⟩
      obtain ⟨L, hL⟩ : ∃ L, S + t.bl = L := ⟨_, rfl⟩
      have EL := Lib.hid (show tcSz t + t.bl = L by rw [hSS]; exact hL)
      have HXS := Lib.hid hxs
      rw [hSS] at hS hfit hsum hbb hsz e12 hbody
      rw [hxs, hL] at hsum
      have hbb2 : ∀ i, i < L → 0 ≤ xs i ∧ xs i ≤ 255 := by rw [← hxs, ← hL]; exact hbb
      rw [hxs] at e12 hbody
      obtain ⟨n, hn⟩ : ∃ n, optsN F = n := ⟨_, rfl⟩
      rw [hn] at hsz
      have HN := Lib.hid hn
      have HB2 := Lib.hid hbb2
      have HBD := Lib.hid hbody
      have hsame : sameN (fun k => xs (S + k)) t.body t.bl t.bl = true := by unfold sameN; rw [decide_eq_true_eq]; exact ⟨rfl, fun i _ => hbody i⟩
      have eL : (S : Int) + (t.bl : Int) = (L : Int) := by omega
      have k2 : L - S = t.bl := by omega
      have hS20 : 20 ≤ S := hS.1
      have hS60 : S ≤ 60 := hS.2
      have hL6 : L ≤ 65535 := by omega
      have q12 : (S : Int) / 4 * 16 / 16 * 4 = (S : Int) := by omega
      have q13 : (S : Int) / 4 * 4 = (S : Int) := by omega
      have dd1 : decide ((20 : Int) + (n : Int) ≤ (S : Int)) = true := decide_eq_true (by omega)
      have dd2 : decide ((S : Int) < 20 + (n : Int) + 4) = true := decide_eq_true (by omega)
      have hx12 := hbb2 12 (by omega)
      rw [e12] at hx12
      have j12 : (12 : Int) < (L : Int) := by omega
      have i12 : 12 < L := by omega
      have js : (S : Int) ≤ (L : Int) := by omega
      have hge : ¬ (S : Int) < 20 + (n : Int) := by omega
      have hge2 : (20 : Int) + (n : Int) ≤ (S : Int) := by omega
      have hlt : (S : Int) < 20 + (n : Int) + 4 := by omega
      obtain ⟨PA, hPA⟩ : ∃ A, foldI (pseudoN src dst 6 (L : Int)) = A := ⟨_, rfl⟩
      obtain ⟨SA, hSA⟩ : ∃ A, sumN xs L = A := ⟨_, rfl⟩
      have hpb : 0 ≤ PA ∧ PA ≤ 65535 := by rw [← hPA]; exact foldI_bd _ (pseudoN_bd h1 h2 (by omega) (by omega))
      have hsb : 0 ≤ SA ∧ SA ≤ 65535 := by rw [← hSA]; exact sumN_bd xs L hbb2
      have hj : joinI PA SA = 65535 := by
        have hp := pseudoN_bd (proto := 6) (size := (L : Int)) h1 h2 (by omega) (by omega)
        rw [← hPA, ← hSA, joinI_fold hp (sumN_bd xs L hbb2), ← foldI_add hp (sumN_bd xs L hbb2).1]
        unfold sumN
        have hr := (rawN_bd xs L hbb2).1
        rw [foldI_small (foldI_bd _ hr).1 (by have := (foldI_bd _ hr).2; omega), foldI_add hp hr]
        exact hsum
      have HPA := Lib.hid (fun w1 => show Calls Try.prog 21 #[.int .u32 src, .int .u32 dst, .int .i64 6, .int .i64 (L : Int)] w1 fun e w' => e = .returned (.int .u16 PA) ∧ Junk w1 w' by rw [← hPA]; exact rpseudo_any src dst 6 L w1 h1 h2 (by omega) (by omega))
      have HSA := Lib.hid (fun (w1 : World) (oa : Option Addr) (c : Nat) (hI : IntsAt w1 oa L .u8 xs) => show Calls Try.prog 22 #[.slice oa L c] w1 fun e w' => e = .returned (.int .u16 SA) ∧ Junk w1 w' by rw [← hSA]; exact rsum_any oa L c xs w1 (by omega) hI hbb2)
      have HJA := Lib.hid (fun w1 => show Calls Try.prog 20 #[.int .u16 PA, .int .u16 SA] w1 fun e w' => e = .returned (.int .u16 65535) ∧ w1 = w' by rw [← hj]; exact join_any PA SA w1 hpb hsb)
      clear hPA hSA hj hbb hbb2 hbody hsum hxs hSS hL hn hsz hS M
      go_enter Try.func5, Try.ntmps5
      go_upto_region 8 with (first | (go_at_call 13; refine (awake04_any _).mono ?_; rintro e w' ⟨rfl, ⟨osj, dj, rfl⟩⟩) | (go_at_call 17; refine (tshort_any t F N oo ob co cb _ HFD.out HFN.out hN (HP.out.on (by ((try simp only [World.junk_junk, Array.append_assoc]); (repeat (first | with_reducible exact Junk.refl _ | with_reducible exact Junk.app _ _ _ _ _ | with_reducible exact Junk.app2 _ _ _ _ _ _ | with_reducible exact Junk.app3 _ _ _ _ _ _ _ | with_reducible exact Junk.app4 _ _ _ _ _ _ _ _ | with_reducible exact Junk.app5 _ _ _ _ _ _ _ _ _ | with_reducible apply Junk.alloc | with_reducible apply Junk.junk | with_reducible apply Junk.drew | with_reducible apply Junk.drewN)))))).mono ?_; rintro e w' ⟨rfl, ⟨osj, dj, rfl⟩⟩) | (go_at_call 18; (try simp only [World.junk_junk]); refine calls_gen (fun osA dA => ?_); refine (tput_any src dst t F N oo ob co cb _ h1 h2 HFD.out HFN.out (by omega) (HP.out.on (by ((try simp only [World.junk_junk, Array.append_assoc]); (repeat (first | with_reducible exact Junk.refl _ | with_reducible exact Junk.app _ _ _ _ _ | with_reducible exact Junk.app2 _ _ _ _ _ _ | with_reducible exact Junk.app3 _ _ _ _ _ _ _ | with_reducible exact Junk.app4 _ _ _ _ _ _ _ _ | with_reducible exact Junk.app5 _ _ _ _ _ _ _ _ _ | with_reducible apply Junk.alloc | with_reducible apply Junk.junk | with_reducible apply Junk.drew | with_reducible apply Junk.drewN))))) HL.out (by omega) HW.out).mono ?_; intro e w' hp; obtain ⟨o1, c1, rfl, ⟨osp, dp, rfl⟩, hb, ho⟩ := hp.ok hm; clear hp; rw [EL.out] at hb ho ⊢; obtain ⟨g, rfl, hgB, hgS, hcells⟩ := own_some ho (by omega); simp only [World.junk_junk] at hb hgS ⊢; have Hb := Lib.hid hb; have hle := hb.le; have hcap : c1 ≤ 9223372036854775807 := hb.cap; clear hb ho hcells))
      generalize osA ++ osp = os0 at Hb hgS ⊢
      obtain ⟨hck, hc12⟩ := t_bts_cell Hb.out 12 i12
      rw [HXS.out, e12, Nat.zero_add] at hc12
      have HSB0 := bts_sub Hb.out S L (by omega) (Nat.le_refl _)
      rw [HXS.out, k2, Nat.zero_add] at HSB0
      have HSB := Lib.hid HSB0
      have HBX := Lib.hid (show Bts ((w.alloc (.cells #[.int .i64 t.sport, .int .i64 t.dport, .int .u32 t.seq, .int .u32 t.ack, .int .i64 t.flags, .int .i64 t.win, .int .i64 t.urg, .slice oo N co, .slice ob t.bl cb] 27)).junk os0 dp) (some ⟨g, 0, none⟩) L c1 xs by have := Hb.out; rw [HXS.out] at this; exact this)
      clear HSB0 hgB
      go_wp2
      go_loopw [10, 11] (fun v u wr => ∃ i : Nat, v = .int .i64 (20 + (optsN (F.take i) : Int)) ∧ u = .int .i64 (i : Int) ∧ wr = (w.alloc (.cells #[.int .i64 t.sport, .int .i64 t.dport, .int .u32 t.seq, .int .u32 t.ack, .int .i64 t.flags, .int .i64 t.win, .int .i64 t.urg, .slice oo N co, .slice ob t.bl cb] 27)).junk os0 dp ∧ i ≤ N) (fun _ u _ => N + 1 - (intOf u).toNat)
      case atStart => exact ⟨0, rfl, rfl, (by first | rfl | trivial), by omega⟩
      case round =>
        obtain ⟨i, rfl, rfl, rfl, hi⟩ := hrel
        by_cases hiN : i < N
        case neg =>
          have hi2 : ¬ (i : Int) < (N : Int) := by omega
          obtain rfl : N = i := by omega
          rw [show optsN (List.take N F) = n by rw [List.take_of_length_le (by rw [HFN.out]; omega)]; exact HN.out]
          have jc : (S : Int) ≤ (c1 : Int) := by omega
          go_wp2
          refine wp_region_junk (by kernel_rfl) (by kernel_rfl) ?_; (repeat (go_big_quiet_step (first | (go_at_call 19; first | with_reducible exact Calls.junk_of5 (rsame_any _ ob t.bl _ t.bl cb (fun k => xs (S + k)) t.body _ (by omega) (by omega) (HSB.out.at_.on (by (repeat (first | with_reducible exact Junk.refl _ | with_reducible exact Junk.app _ _ _ _ _ | with_reducible apply Junk.alloc | with_reducible apply Junk.junk | with_reducible apply Junk.drew | with_reducible apply Junk.drewN)))) (HP.out.body.at_.on (by (repeat (first | with_reducible exact Junk.refl _ | with_reducible exact Junk.app _ _ _ _ _ | with_reducible apply Junk.alloc | with_reducible apply Junk.junk | with_reducible apply Junk.drew | with_reducible apply Junk.drewN))))) | with_reducible exact Calls.junk_of4 (rsame_any _ ob t.bl _ t.bl cb (fun k => xs (S + k)) t.body _ (by omega) (by omega) (HSB.out.at_.on (by (repeat (first | with_reducible exact Junk.refl _ | with_reducible exact Junk.app _ _ _ _ _ | with_reducible apply Junk.alloc | with_reducible apply Junk.junk | with_reducible apply Junk.drew | with_reducible apply Junk.drewN)))) (HP.out.body.at_.on (by (repeat (first | with_reducible exact Junk.refl _ | with_reducible exact Junk.app _ _ _ _ _ | with_reducible apply Junk.alloc | with_reducible apply Junk.junk | with_reducible apply Junk.drew | with_reducible apply Junk.drewN))))) | with_reducible exact Calls.junk_of3 (rsame_any _ ob t.bl _ t.bl cb (fun k => xs (S + k)) t.body _ (by omega) (by omega) (HSB.out.at_.on (by (repeat (first | with_reducible exact Junk.refl _ | with_reducible exact Junk.app _ _ _ _ _ | with_reducible apply Junk.alloc | with_reducible apply Junk.junk | with_reducible apply Junk.drew | with_reducible apply Junk.drewN)))) (HP.out.body.at_.on (by (repeat (first | with_reducible exact Junk.refl _ | with_reducible exact Junk.app _ _ _ _ _ | with_reducible apply Junk.alloc | with_reducible apply Junk.junk | with_reducible apply Junk.drew | with_reducible apply Junk.drewN))))) | with_reducible exact Calls.junk_of2 (rsame_any _ ob t.bl _ t.bl cb (fun k => xs (S + k)) t.body _ (by omega) (by omega) (HSB.out.at_.on (by (repeat (first | with_reducible exact Junk.refl _ | with_reducible exact Junk.app _ _ _ _ _ | with_reducible apply Junk.alloc | with_reducible apply Junk.junk | with_reducible apply Junk.drew | with_reducible apply Junk.drewN)))) (HP.out.body.at_.on (by (repeat (first | with_reducible exact Junk.refl _ | with_reducible exact Junk.app _ _ _ _ _ | with_reducible apply Junk.alloc | with_reducible apply Junk.junk | with_reducible apply Junk.drew | with_reducible apply Junk.drewN))))) | exact Calls.junk_of (rsame_any _ ob t.bl _ t.bl cb (fun k => xs (S + k)) t.body _ (by omega) (by omega) (HSB.out.at_.on (by (repeat (first | with_reducible exact Junk.refl _ | with_reducible exact Junk.app _ _ _ _ _ | with_reducible apply Junk.alloc | with_reducible apply Junk.junk | with_reducible apply Junk.drew | with_reducible apply Junk.drewN)))) (HP.out.body.at_.on (by (repeat (first | with_reducible exact Junk.refl _ | with_reducible exact Junk.app _ _ _ _ _ | with_reducible apply Junk.alloc | with_reducible apply Junk.junk | with_reducible apply Junk.drew | with_reducible apply Junk.drewN)))))) | (go_at_call 21; first | with_reducible exact Calls.junk_of5 (HPA.out _) | with_reducible exact Calls.junk_of4 (HPA.out _) | with_reducible exact Calls.junk_of3 (HPA.out _) | with_reducible exact Calls.junk_of2 (HPA.out _) | exact Calls.junk_of (HPA.out _)) | (go_at_call 22; first | with_reducible exact Calls.junk_of5 (HSA.out _ _ _ (HBX.out.at_.on (by (repeat (first | with_reducible exact Junk.refl _ | with_reducible exact Junk.app _ _ _ _ _ | with_reducible apply Junk.alloc | with_reducible apply Junk.junk | with_reducible apply Junk.drew | with_reducible apply Junk.drewN))))) | with_reducible exact Calls.junk_of4 (HSA.out _ _ _ (HBX.out.at_.on (by (repeat (first | with_reducible exact Junk.refl _ | with_reducible exact Junk.app _ _ _ _ _ | with_reducible apply Junk.alloc | with_reducible apply Junk.junk | with_reducible apply Junk.drew | with_reducible apply Junk.drewN))))) | with_reducible exact Calls.junk_of3 (HSA.out _ _ _ (HBX.out.at_.on (by (repeat (first | with_reducible exact Junk.refl _ | with_reducible exact Junk.app _ _ _ _ _ | with_reducible apply Junk.alloc | with_reducible apply Junk.junk | with_reducible apply Junk.drew | with_reducible apply Junk.drewN))))) | with_reducible exact Calls.junk_of2 (HSA.out _ _ _ (HBX.out.at_.on (by (repeat (first | with_reducible exact Junk.refl _ | with_reducible exact Junk.app _ _ _ _ _ | with_reducible apply Junk.alloc | with_reducible apply Junk.junk | with_reducible apply Junk.drew | with_reducible apply Junk.drewN))))) | exact Calls.junk_of (HSA.out _ _ _ (HBX.out.at_.on (by (repeat (first | with_reducible exact Junk.refl _ | with_reducible exact Junk.app _ _ _ _ _ | with_reducible apply Junk.alloc | with_reducible apply Junk.junk | with_reducible apply Junk.drew | with_reducible apply Junk.drewN)))))) | (go_at_call 20; first | with_reducible exact Calls.junk_of5 (Calls.junk_of_same (HJA.out _)) | with_reducible exact Calls.junk_of4 (Calls.junk_of_same (HJA.out _)) | with_reducible exact Calls.junk_of3 (Calls.junk_of_same (HJA.out _)) | with_reducible exact Calls.junk_of2 (Calls.junk_of_same (HJA.out _)) | exact Calls.junk_of (Calls.junk_of_same (HJA.out _)))))); refine wpQuiet_nil ?_; rintro _ ⟨⟨osq, dq⟩, rfl⟩
          go_wp2
          all_goals (go_ret; exact ⟨ret_bool rfl, by ((try simp only [World.junk_junk, Array.append_assoc]); (repeat (first | with_reducible exact Junk.refl _ | with_reducible exact Junk.app _ _ _ _ _ | with_reducible exact Junk.app2 _ _ _ _ _ _ | with_reducible exact Junk.app3 _ _ _ _ _ _ _ | with_reducible exact Junk.app4 _ _ _ _ _ _ _ _ | with_reducible exact Junk.app5 _ _ _ _ _ _ _ _ _ | with_reducible apply Junk.alloc | with_reducible apply Junk.junk | with_reducible apply Junk.drew | with_reducible apply Junk.drewN)))⟩)
        have hi2 : (i : Int) < (N : Int) := by omega
        obtain ⟨f, hf⟩ : ∃ f, F[i]? = some f := ⟨_, List.getElem?_eq_getElem (by rw [HFN.out]; omega)⟩
        obtain ⟨b, off, hoo, hb, c0, c1', _⟩ := HP.out.os i f hf
        have hl := HL3.out f (List.mem_of_getElem? hf)
        have hstep := optsN_succ hf
        have hle2 := optsN_take_le F (i + 1)
        rw [HN.out] at hle2
        obtain ⟨k, oa, l, cc, ys⟩ := f
        dsimp only at c0 c1' hl hstep
        obtain ⟨ni, hni⟩ : ∃ ni, optsN (F.take i) = ni := ⟨_, rfl⟩
        rw [hni] at hstep ⊢
        have HST := Lib.hid hstep
        have hni40 : ni ≤ 40 := by omega
        clear hf hni hstep hle2
        subst hoo
        go_wp2
        exact ⟨⟨i + 1, by rw [HST.out]; congr 1; omega, by go_num, (by first | rfl | trivial), by omega⟩, by simp [intOf]; omega⟩
theorem tcpLaid_core (W : World) (base : Nat) (v0 v1 v2 : Value) (a0 : Arg Try.prog W base 22 v0) (a1 : Arg Try.prog W base 22 v1) (a2 : Arg Try.prog W base 27 v2) :
    Calls Try.prog 5 #[v0, v1, v2] W fun e W' => e = .returned (.bool true) ∧ Junk W W' := by
  obtain ⟨src, rfl, w_src⟩ := a0.int Try.underlying22
  obtain ⟨dst, rfl, w_dst⟩ := a1.int Try.underlying22
  obtain ⟨cs, rfl, h_t⟩ := a2.struct Try.underlying27
  obtain ⟨t, F, N, oo, ob, co, cb, hcs, hF, hFN, hN, hP, hW⟩ := tc_of h_t
  rw [hcs]
  exact tcpLaid_walk src dst t F N oo ob co cb W (bounds_u32 w_src) (bounds_u32 w_dst) hF hFN hN hP hW
set_option maxRecDepth 100000 in
theorem tcpLaid_lifted (os : Os) (started : os.Started) (H : Type) (enc : TypeId × Value → H) :
    ReturnsInHanded {} Try.checked os 5 .any (Rows.tcpLaidSpec.pre6 enc Try.prog Try.f5 Rows.tcpLaidRow.domain false) (Rows.tcpLaidSpec.post enc Try.prog Try.f5 false true false false) := by
  refine returnsInHanded_of_change (C := Try.checked) (by kernel_rfl) started (by kernel_rfl) Try.func5
    (ChangeSpec.witness6 (enc := enc) (C := Try.checked) false ⟨#[], #[.int .u32 0, .int .u32 0, .agg #[.int .i64 0, .int .i64 0, .int .u32 0, .int .u32 0, .int .i64 0, .int .i64 0, .int .i64 0, .slice none 0 0, .slice none 0 0]], []⟩ 8 (by kernel_rfl) (by kernel_rfl) (by kernel_rfl) (by kernel_rfl)) ?_
  intro W base args ds gs before hval hW _ _
  obtain ⟨p, q, hA, _, _, _, _⟩ := id hW
  have hargs : Args Try.prog W base Try.f5.params.toList args.toList := args_of (fun j t v h1 h2 => hval j t v (by simpa using h1) (by simpa using h2)) hA
  rw [Try.params5] at hargs
  obtain ⟨v0, l0, e0, a0, r0⟩ := args_cons hargs
  obtain ⟨v1, l1, e1, a1, r1⟩ := args_cons r0
  obtain ⟨v2, l2, e2, a2, r2⟩ := args_cons r1
  have hn := args_nil r2
  have he : args = #[v0, v1, v2] := by
    apply Array.ext'
    simp only [e0, e1, e2, hn]
  subst he
  exact (tcpLaid_core W base v0 v1 v2 a0 a1 a2).mono fun e W' ⟨he, hj⟩ => ⟨_, he, post_true (tb := 4) (by kernel_rfl) (by kernel_rfl) rfl (by kernel_rfl) rfl hW (fun hg hl => by
    subst hg
    match ds, hl with
    | [_, _, _], _ => exact ⟨rfl, rfl, rfl⟩) hj⟩
theorem tcpLaid_holds : Rows.TcpLaidSaid :=
  OpenClaim.holds_of_wide 5 Try.f5 rfl rfl rfl rfl rfl rfl rfl ⟨rfl, rfl, rfl, rfl, rfl⟩ rfl rfl rfl rfl rfl (by kernel_rfl) Try.func5 (by kernel_rfl)
    (of_decide_eq_true (by kernel_rfl)) (by unfold Func.isWrapper; rw [if_neg (of_decide_eq_false (by kernel_rfl))]; exact ⟨rfl, rfl⟩)
    (fun os started H enc _ => tcpLaid_lifted os started H enc)

end Go.Proofs.Ytjmofjcloebgmaa
