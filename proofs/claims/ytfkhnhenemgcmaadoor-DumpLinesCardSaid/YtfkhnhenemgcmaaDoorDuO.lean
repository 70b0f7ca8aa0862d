/- The reference's line: messages. -/
import Derived.Test.YtfkhnhenemgcmaaDoorDuM
import Derived.Test.YtfkhnhenemgcmaaDoorIcmpRParse
set_option linter.unusedVariables false
set_option maxRecDepth 100000
set_option linter.unusedSimpArgs false
namespace Go.Proofs.YtfkhnhenemgcmaaDoor
open Go.RowKit
set_option maxRecDepth 100000 in
set_option maxHeartbeats 32000000 in
theorem rline_icmp0 (oa : Option Addr) (l c : Nat) (xs : Nat → Int) (w : World) (hl : l ≤ 100000000) (hB : Bts w oa l c xs) (h0 : parseErr xs l = 0) (hmf : (parseIp xs).mf = false) (hof : ¬ 0 < (parseIp xs).off) (hpr : (parseIp xs).proto = 1) (hz0 : pErr (parseIp xs).body (parseIp xs).bl = 0) (hty : (parseIp xs).body 0 = 0) :
    Calls Tryd.prog 8 #[.slice oa l c] w fun e w' => e = .returned (.string (lineS xs l)) ∧ Junk w w' := by
  have HB := Lib.hid hB
  have hbd := parse_bd h0 hB.byte hl
  have HPS := fun w1 (hb : Bts w1 oa l c xs) => (ipRParse_any oa l c xs w1 hl hb).mono fun e w' hq => show ∃ (oo ob : Option Addr) (oc bc : Nat), e = .returned (.tuple #[.agg #[.int .i64 (parseIp xs).tos, .int .i64 (parseIp xs).id, .bool (parseIp xs).df, .bool (parseIp xs).mf, .int .i64 (parseIp xs).off, .int .i64 (parseIp xs).ttl, .int .i64 (parseIp xs).proto, .int .u32 (parseIp xs).src, .int .u32 (parseIp xs).dst, .slice oo (parseIp xs).ol oc, .slice ob (parseIp xs).bl bc], .int .i64 0]) ∧ Junk w1 w' ∧ IpAt w' (parseIp xs) oo oc ob bc by
    obtain ⟨p, oo, ob, oc, bc, rfl, hj, hP, ⟨_, rfl⟩ | ⟨h1, _⟩⟩ := hq
    · exact ⟨oo, ob, oc, bc, by rw [h0], hj, hP⟩
    · exact absurd h0 h1
  have HE : lineS xs l = joinS (lineW (parseIp xs)) tSP := by unfold lineS; rw [if_pos h0]
  obtain ⟨p, hp⟩ : ∃ p, parseIp xs = p := ⟨_, rfl⟩
  rw [hp] at hbd HPS HE hmf hof hpr hz0 hty
  have HPS := Lib.hid HPS
  have HBD := Lib.hid hbd
  have b1 := hbd.id; have b2 := hbd.off; have b3 := hbd.ttl; have b4 := hbd.proto; have b5 := hbd.bl
  have HA1 := Lib.hid (fun w1 => radr_any p.src hbd.src w1)
  have HA2 := Lib.hid (fun w1 => radr_any p.dst hbd.dst w1)
  have HNP := Lib.hid (fun w1 => rnum_any p.proto (by omega) w1)
  have HNL := Lib.hid (fun w1 => rnum_any (p.bl : Int) (by omega) w1)
  have HNT := Lib.hid (fun w1 => rnum_any p.ttl (by omega) w1)
  have q1 := adrS_size hbd.src; have q2 := adrS_size hbd.dst
  have q3 := itoaS_size (n := p.proto) (by omega); have q4 := itoaS_size (n := (p.bl : Int)) (by omega); have q5 := itoaS_size (n := p.ttl) (by omega)
  obtain ⟨S1, hS1⟩ : ∃ s, adrS p.src = s := ⟨_, rfl⟩
  obtain ⟨S2, hS2⟩ : ∃ s, adrS p.dst = s := ⟨_, rfl⟩
  obtain ⟨NP, hNP⟩ : ∃ s, itoaS p.proto = s := ⟨_, rfl⟩
  obtain ⟨NL, hNL⟩ : ∃ s, itoaS (p.bl : Int) = s := ⟨_, rfl⟩
  obtain ⟨NT, hNT⟩ : ∃ s, itoaS p.ttl = s := ⟨_, rfl⟩
  rw [hS1] at HA1 q1
  rw [hS2] at HA2 q2
  rw [hNP] at HNP q3
  rw [hNL] at HNL q4
  rw [hNT] at HNT q5
  have h8 : 8 ≤ p.bl := by
    have h0 := hz0
    unfold pErr at h0
    split at h0
    · cases h0
    · omega
  have x0 := hbd.body 0 (by omega); have x1 := hbd.body 1 (by omega); have x4 := hbd.body 4 (by omega); have x5 := hbd.body 5 (by omega); have x6 := hbd.body 6 (by omega); have x7 := hbd.body 7 (by omega)
  have hrb : 0 ≤ pRest p.body ∧ pRest p.body ≤ 4294967295 := by unfold pRest; omega
  have hbw : bodyW p = some (icmpW p.src p.dst (p.body 0) (p.body 1) (pRest p.body) (p.bl - 8)) := by unfold bodyW; rw [if_neg (by omega), if_neg (by omega), if_pos hpr, if_pos hz0]
  have HTP := fun ob bc w1 (hb : Bts w1 ob p.bl bc p.body) => (rparse_any ob p.bl bc p.body w1 hbd.bl hb).mono fun e w' hq => show ∃ (o1 : Option Addr) (c1 : Nat), e = .returned (.tuple #[.agg #[.int .i64 (p.body 0), .int .i64 (p.body 1), .int .u32 (pRest p.body), .slice o1 (p.bl - 8) c1], .int .i64 0]) ∧ Junk w1 w' by
    obtain ⟨t, c, r, o1, lb, cb, rfl, hj, hb, ⟨_, rfl, rfl, rfl, rfl⟩ | ⟨h1, _⟩⟩ := hq
    · exact ⟨o1, cb, by rw [hz0], hj⟩
    · exact absurd hz0 h1
  obtain ⟨t, ht⟩ : ∃ t, p.body 0 = t := ⟨_, rfl⟩
  obtain ⟨c, hc⟩ : ∃ c, p.body 1 = c := ⟨_, rfl⟩
  obtain ⟨r, hr⟩ : ∃ r, pRest p.body = r := ⟨_, rfl⟩
  obtain ⟨n, hn⟩ : ∃ n, p.bl - 8 = n := ⟨_, rfl⟩
  rw [ht, hc, hr, hn] at hbw HTP
  rw [ht] at x0 hty
  rw [hc] at x1
  rw [hr] at hrb
  have hnb : n ≤ 100000000 := by omega
  rw [hpr] at HNP
  have hp6 : (p.proto == 6) = false := by simp [hpr]
  have hp17 : (p.proto == 17) = false := by simp [hpr]
  have hp1 : (p.proto == 1) = true := by simp [hpr]
  subst hty
  obtain ⟨rn, hrn⟩ : ∃ q, r / 65536 = q := ⟨_, rfl⟩
  have hrnb : 0 ≤ rn ∧ rn ≤ 65535 := by omega
  have pwn := wrapk_i64 rn (by omega) (by omega)
  have HTP := Lib.hid HTP
  have HNY := Lib.hid (fun w1 => rnum_any (0 : Int) (by omega) w1)
  have q6 := itoaS_size (n := (0 : Int)) (by omega)
  obtain ⟨NY, hNY⟩ : ∃ s, itoaS (0 : Int) = s := ⟨_, rfl⟩
  rw [hNY] at HNY q6
  have HNC := Lib.hid (fun w1 => rnum_any c (by omega) w1)
  have q7 := itoaS_size (n := c) (by omega)
  obtain ⟨NC, hNC⟩ : ∃ s, itoaS c = s := ⟨_, rfl⟩
  rw [hNC] at HNC q7
  have HNB := Lib.hid (fun w1 => rnum_any (n : Int) (by omega) w1)
  have q8 := itoaS_size (n := (n : Int)) (by omega)
  obtain ⟨NB, hNB⟩ : ∃ s, itoaS (n : Int) = s := ⟨_, rfl⟩
  rw [hNB] at HNB q8
  have HNN := Lib.hid (fun w1 => rnum_any rn (by omega) w1)
  have q9 := itoaS_size (n := rn) (by omega)
  obtain ⟨NN, hNN⟩ : ∃ s, itoaS rn = s := ⟨_, rfl⟩
  rw [hNN] at HNN q9
  have zb1 : ¬ 9223372036854775807 < 5 + S1.size := by omega
  have zb2 : ¬ 9223372036854775807 < 5 + S1.size + 3 := by omega
  have zb3 : ¬ 9223372036854775807 < 5 + S1.size + 3 + S2.size := by omega
  have zb4 : ¬ 9223372036854775807 < 5 + S1.size + 3 + S2.size + 6 := by omega
  have zb5 : ¬ 9223372036854775807 < 5 + S1.size + 3 + S2.size + 6 + NY.size := by omega
  have zb6 : ¬ 9223372036854775807 < 5 + S1.size + 3 + S2.size + 6 + NY.size + 6 := by omega
  have zb7 : ¬ 9223372036854775807 < 5 + S1.size + 3 + S2.size + 6 + NY.size + 6 + NC.size := by omega
  have zb8 : ¬ 9223372036854775807 < 5 + S1.size + 3 + S2.size + 6 + NY.size + 6 + NC.size + 5 := by omega
  have zb9 : ¬ 9223372036854775807 < 5 + S1.size + 3 + S2.size + 6 + NY.size + 6 + NC.size + 5 + NB.size := by omega
  have zn1 : ¬ 9223372036854775807 < 6 + NN.size := by omega
  have zn2 : ¬ 9223372036854775807 < 5 + S1.size + 3 + S2.size + 6 + NY.size + 6 + NC.size + 5 + NB.size + (6 + NN.size) := by omega
  clear hc hr hn h8 x1 x4 x5 x6 x7 hrb ht
  have za1 : ¬ 9223372036854775807 < 3 + S1.size := by omega
  have za2 : ¬ 9223372036854775807 < 3 + S1.size + 3 := by omega
  have za3 : ¬ 9223372036854775807 < 3 + S1.size + 3 + S2.size := by omega
  have za4 : ¬ 9223372036854775807 < 3 + S1.size + 3 + S2.size + 7 := by omega
  have za5 : ¬ 9223372036854775807 < 3 + S1.size + 3 + S2.size + 7 + NP.size := by omega
  have za6 : ¬ 9223372036854775807 < 3 + S1.size + 3 + S2.size + 7 + NP.size + 5 := by omega
  have za7 : ¬ 9223372036854775807 < 3 + S1.size + 3 + S2.size + 7 + NP.size + 5 + NL.size := by omega
  have zt1 : ¬ 9223372036854775807 < 5 + NT.size := by omega
  have HZ := Lib.hid (fun (T : ByteArray) (hT : T.size ≤ 100000000) => show ¬ 9223372036854775807 < T.size + (5 + NT.size) ∧ ¬ 9223372036854775807 < T.size + (5 + NT.size) + 3 by omega)
  have HLS := Lib.hid (joinS_size (headW_sm hbd))
  have HEQ := Lib.hid (show (⟨#[105, 99, 109, 112, 32]⟩ ++ S1 ++ ⟨#[32, 62, 32]⟩ ++ S2 ++ ⟨#[32, 116, 121, 112, 101, 32]⟩ ++ NY ++ ⟨#[32, 99, 111, 100, 101, 32]⟩ ++ NC ++ ⟨#[32, 108, 101, 110, 32]⟩ ++ NB ++ (⟨#[32, 110, 97, 109, 101, 32]⟩ ++ NN)) = joinS (headW p) tSP from by
    have hpc : ¬ pcB p = true := by unfold pcB; rw [hmf]; simp; omega
    have : headW p = icmpW p.src p.dst 0 c r n := by unfold headW; rw [if_neg hpc, hbw]
    rw [this]; unfold icmpW; rw [if_pos (by decide), show nameI 0 r = rn from by unfold nameI; rw [if_pos (by decide)]; exact hrn, hNN, hS1, hS2, hNY, hNC, hNB]
    apply ByteArray.ext
    simp [joinS, joinL, Lib.join_cons, Lib.joinTail, ByteArray.data_append, tPIECE, tGT, tID, tOFF, tLEN, tSP, tMORE, tIP, tPROTO, tUDP, tNOSUM, tICMP, tTYPE, tCODE, tNAME, sideS])
  have HTT := Lib.hid (show ∀ T, T = joinS (headW p) tSP → T ++ (⟨#[32, 116, 116, 108, 32]⟩ ++ NT) = joinS (headW p ++ [tTTL, itoaS p.ttl]) tSP from fun T hT => by
    rw [hT, hNT, joinS_app (headW_ne p), tail_two]; rfl)
  clear hB hbd h0 hp hl hS1 hS2 hNP hNL hNT q1 q2 q3 q4 q5
  go_enter Tryd.func8, Tryd.ntmps8
  go_upto_region 4 with (first | (go_at_call 22; (with_reducible refine (HPS.out _ (HB.out.on (by (first | ((repeat (first | with_reducible exact Junk.refl _ | with_reducible exact Junk.app _ _ _ _ _ | with_reducible apply Junk.alloc | with_reducible apply Junk.junk | with_reducible apply Junk.drew | with_reducible apply Junk.drewN)); done) | ((try simp only [World.junk_junk, Array.append_assoc]); (repeat (first | with_reducible exact Junk.refl _ | with_reducible exact Junk.app _ _ _ _ _ | with_reducible exact Junk.app2 _ _ _ _ _ _ | with_reducible exact Junk.app3 _ _ _ _ _ _ _ | with_reducible exact Junk.app4 _ _ _ _ _ _ _ _ | with_reducible exact Junk.app5 _ _ _ _ _ _ _ _ _ | with_reducible apply Junk.alloc | with_reducible apply Junk.junk | with_reducible apply Junk.drew | with_reducible apply Junk.drewN))))))).mono ?_); rintro e w' ⟨oo, ob, oc, bc, rfl, ⟨osj, dj, rfl⟩, hP⟩; have HP := Lib.hid hP; clear hP))
  refine wp_region_junk (by kernel_rfl) (by kernel_rfl) ?_; (repeat (go_big_quiet_step (first | first | (go_at_call 10; first | with_reducible exact Calls.junk_of5 (HA1.out _) | with_reducible exact Calls.junk_of4 (HA1.out _) | with_reducible exact Calls.junk_of3 (HA1.out _) | with_reducible exact Calls.junk_of2 (HA1.out _) | with_reducible exact Calls.junk_of (HA1.out _)) | (go_at_call 10; first | with_reducible exact Calls.junk_of5 (HA2.out _) | with_reducible exact Calls.junk_of4 (HA2.out _) | with_reducible exact Calls.junk_of3 (HA2.out _) | with_reducible exact Calls.junk_of2 (HA2.out _) | with_reducible exact Calls.junk_of (HA2.out _))))); refine wpQuiet_nil ?_; rintro _ ⟨⟨osq4, dq4⟩, rfl⟩
  go_upto_region 5 with (first | fail)
  refine wp_region_junk (by kernel_rfl) (by kernel_rfl) ?_; (repeat (go_big_quiet_step (first | first | (go_at_call 23; first | with_reducible exact Calls.junk_of5 (HNP.out _) | with_reducible exact Calls.junk_of4 (HNP.out _) | with_reducible exact Calls.junk_of3 (HNP.out _) | with_reducible exact Calls.junk_of2 (HNP.out _) | with_reducible exact Calls.junk_of (HNP.out _)) | (go_at_call 23; first | with_reducible exact Calls.junk_of5 (HNL.out _) | with_reducible exact Calls.junk_of4 (HNL.out _) | with_reducible exact Calls.junk_of3 (HNL.out _) | with_reducible exact Calls.junk_of2 (HNL.out _) | with_reducible exact Calls.junk_of (HNL.out _))))); refine wpQuiet_nil ?_; rintro _ ⟨⟨osq5, dq5⟩, rfl⟩
  go_upto_region 27 with (first | (go_at_call 27; (with_reducible refine (HTP.out _ _ _ (HP.out.body.on (by (first | ((repeat (first | with_reducible exact Junk.refl _ | with_reducible exact Junk.app _ _ _ _ _ | with_reducible apply Junk.alloc | with_reducible apply Junk.junk | with_reducible apply Junk.drew | with_reducible apply Junk.drewN)); done) | ((try simp only [World.junk_junk, Array.append_assoc]); (repeat (first | with_reducible exact Junk.refl _ | with_reducible exact Junk.app _ _ _ _ _ | with_reducible exact Junk.app2 _ _ _ _ _ _ | with_reducible exact Junk.app3 _ _ _ _ _ _ _ | with_reducible exact Junk.app4 _ _ _ _ _ _ _ _ | with_reducible exact Junk.app5 _ _ _ _ _ _ _ _ _ | with_reducible apply Junk.alloc | with_reducible apply Junk.junk | with_reducible apply Junk.drew | with_reducible apply Junk.drewN))))))).mono ?_); rintro e w' ⟨o1, c1, rfl, ⟨osk, dk, rfl⟩⟩))
  refine wp_region_junk (by kernel_rfl) (by kernel_rfl) ?_; (repeat (go_big_quiet_step (first | first | (go_at_call 23; first | with_reducible exact Calls.junk_of5 (HNY.out _) | with_reducible exact Calls.junk_of4 (HNY.out _) | with_reducible exact Calls.junk_of3 (HNY.out _) | with_reducible exact Calls.junk_of2 (HNY.out _) | with_reducible exact Calls.junk_of (HNY.out _)) | (go_at_call 23; first | with_reducible exact Calls.junk_of5 (HNC.out _) | with_reducible exact Calls.junk_of4 (HNC.out _) | with_reducible exact Calls.junk_of3 (HNC.out _) | with_reducible exact Calls.junk_of2 (HNC.out _) | with_reducible exact Calls.junk_of (HNC.out _)) | (go_at_call 23; first | with_reducible exact Calls.junk_of5 (HNB.out _) | with_reducible exact Calls.junk_of4 (HNB.out _) | with_reducible exact Calls.junk_of3 (HNB.out _) | with_reducible exact Calls.junk_of2 (HNB.out _) | with_reducible exact Calls.junk_of (HNB.out _))))); refine wpQuiet_nil ?_; rintro _ ⟨⟨osq27, dq27⟩, rfl⟩
  go_upto_region 30 with (first | (go_at_call 23; (with_reducible refine (HNN.out _).mono ?_); rintro e w' ⟨rfl, ⟨osj, dj, rfl⟩⟩))
  generalize hT : (⟨#[105, 99, 109, 112, 32]⟩ ++ S1 ++ ⟨#[32, 62, 32]⟩ ++ S2 ++ ⟨#[32, 116, 121, 112, 101, 32]⟩ ++ NY ++ ⟨#[32, 99, 111, 100, 101, 32]⟩ ++ NC ++ ⟨#[32, 108, 101, 110, 32]⟩ ++ NB ++ (⟨#[32, 110, 97, 109, 101, 32]⟩ ++ NN)) = T
  have hT2 : T = joinS (headW p) tSP := by rw [← hT]; exact HEQ.out
  have hTs : T.size ≤ 100000000 := by rw [hT2]; exact HLS.out
  obtain ⟨zt2, zt3⟩ := HZ.out T hTs
  have HT3 := Lib.hid (HTT.out T hT2)
  clear hT hT2 hTs
  cases hdf : p.df with
  | true =>
    have HF := Lib.hid (show joinS (lineW p) tSP = T ++ (⟨#[32, 116, 116, 108, 32]⟩ ++ NT) ++ ⟨#[32, 100, 102]⟩ by
      rw [HT3.out]; unfold lineW; rw [hdf, if_pos rfl, joinS_app (by simp), tail_one]; rfl)
    go_wp2_with (first | (go_at_call 23; (with_reducible refine (HNT.out _).mono ?_); rintro e w' ⟨rfl, ⟨osj, dj, rfl⟩⟩))
    go_returns
    exact ⟨by rw [HE, HF.out]; rfl, by (first | ((repeat (first | with_reducible exact Junk.refl _ | with_reducible exact Junk.app _ _ _ _ _ | with_reducible apply Junk.alloc | with_reducible apply Junk.junk | with_reducible apply Junk.drew | with_reducible apply Junk.drewN)); done) | ((try simp only [World.junk_junk, Array.append_assoc]); (repeat (first | with_reducible exact Junk.refl _ | with_reducible exact Junk.app _ _ _ _ _ | with_reducible exact Junk.app2 _ _ _ _ _ _ | with_reducible exact Junk.app3 _ _ _ _ _ _ _ | with_reducible exact Junk.app4 _ _ _ _ _ _ _ _ | with_reducible exact Junk.app5 _ _ _ _ _ _ _ _ _ | with_reducible apply Junk.alloc | with_reducible apply Junk.junk | with_reducible apply Junk.drew | with_reducible apply Junk.drewN))))⟩
  | false =>
    have HF := Lib.hid (show joinS (lineW p) tSP = T ++ (⟨#[32, 116, 116, 108, 32]⟩ ++ NT) by
      rw [HT3.out]; unfold lineW; rw [hdf, if_neg (by decide), List.append_nil])
    go_wp2_with (first | (go_at_call 23; (with_reducible refine (HNT.out _).mono ?_); rintro e w' ⟨rfl, ⟨osj, dj, rfl⟩⟩))
    go_returns
    exact ⟨by rw [HE, HF.out]; rfl, by (first | ((repeat (first | with_reducible exact Junk.refl _ | with_reducible exact Junk.app _ _ _ _ _ | with_reducible apply Junk.alloc | with_reducible apply Junk.junk | with_reducible apply Junk.drew | with_reducible apply Junk.drewN)); done) | ((try simp only [World.junk_junk, Array.append_assoc]); (repeat (first | with_reducible exact Junk.refl _ | with_reducible exact Junk.app _ _ _ _ _ | with_reducible exact Junk.app2 _ _ _ _ _ _ | with_reducible exact Junk.app3 _ _ _ _ _ _ _ | with_reducible exact Junk.app4 _ _ _ _ _ _ _ _ | with_reducible exact Junk.app5 _ _ _ _ _ _ _ _ _ | with_reducible apply Junk.alloc | with_reducible apply Junk.junk | with_reducible apply Junk.drew | with_reducible apply Junk.drewN))))⟩
set_option maxRecDepth 100000 in
set_option maxHeartbeats 32000000 in
theorem rline_icmp8 (oa : Option Addr) (l c : Nat) (xs : Nat → Int) (w : World) (hl : l ≤ 100000000) (hB : Bts w oa l c xs) (h0 : parseErr xs l = 0) (hmf : (parseIp xs).mf = false) (hof : ¬ 0 < (parseIp xs).off) (hpr : (parseIp xs).proto = 1) (hz0 : pErr (parseIp xs).body (parseIp xs).bl = 0) (hty : (parseIp xs).body 0 = 8) :
    Calls Tryd.prog 8 #[.slice oa l c] w fun e w' => e = .returned (.string (lineS xs l)) ∧ Junk w w' := by
  have HB := Lib.hid hB
  have hbd := parse_bd h0 hB.byte hl
  have HPS := fun w1 (hb : Bts w1 oa l c xs) => (ipRParse_any oa l c xs w1 hl hb).mono fun e w' hq => show ∃ (oo ob : Option Addr) (oc bc : Nat), e = .returned (.tuple #[.agg #[.int .i64 (parseIp xs).tos, .int .i64 (parseIp xs).id, .bool (parseIp xs).df, .bool (parseIp xs).mf, .int .i64 (parseIp xs).off, .int .i64 (parseIp xs).ttl, .int .i64 (parseIp xs).proto, .int .u32 (parseIp xs).src, .int .u32 (parseIp xs).dst, .slice oo (parseIp xs).ol oc, .slice ob (parseIp xs).bl bc], .int .i64 0]) ∧ Junk w1 w' ∧ IpAt w' (parseIp xs) oo oc ob bc by
    obtain ⟨p, oo, ob, oc, bc, rfl, hj, hP, ⟨_, rfl⟩ | ⟨h1, _⟩⟩ := hq
    · exact ⟨oo, ob, oc, bc, by rw [h0], hj, hP⟩
    · exact absurd h0 h1
  have HE : lineS xs l = joinS (lineW (parseIp xs)) tSP := by unfold lineS; rw [if_pos h0]
  obtain ⟨p, hp⟩ : ∃ p, parseIp xs = p := ⟨_, rfl⟩
  rw [hp] at hbd HPS HE hmf hof hpr hz0 hty
  have HPS := Lib.hid HPS
  have HBD := Lib.hid hbd
  have b1 := hbd.id; have b2 := hbd.off; have b3 := hbd.ttl; have b4 := hbd.proto; have b5 := hbd.bl
  have HA1 := Lib.hid (fun w1 => radr_any p.src hbd.src w1)
  have HA2 := Lib.hid (fun w1 => radr_any p.dst hbd.dst w1)
  have HNP := Lib.hid (fun w1 => rnum_any p.proto (by omega) w1)
  have HNL := Lib.hid (fun w1 => rnum_any (p.bl : Int) (by omega) w1)
  have HNT := Lib.hid (fun w1 => rnum_any p.ttl (by omega) w1)
  have q1 := adrS_size hbd.src; have q2 := adrS_size hbd.dst
  have q3 := itoaS_size (n := p.proto) (by omega); have q4 := itoaS_size (n := (p.bl : Int)) (by omega); have q5 := itoaS_size (n := p.ttl) (by omega)
  obtain ⟨S1, hS1⟩ : ∃ s, adrS p.src = s := ⟨_, rfl⟩
  obtain ⟨S2, hS2⟩ : ∃ s, adrS p.dst = s := ⟨_, rfl⟩
  obtain ⟨NP, hNP⟩ : ∃ s, itoaS p.proto = s := ⟨_, rfl⟩
  obtain ⟨NL, hNL⟩ : ∃ s, itoaS (p.bl : Int) = s := ⟨_, rfl⟩
  obtain ⟨NT, hNT⟩ : ∃ s, itoaS p.ttl = s := ⟨_, rfl⟩
  rw [hS1] at HA1 q1
  rw [hS2] at HA2 q2
  rw [hNP] at HNP q3
  rw [hNL] at HNL q4
  rw [hNT] at HNT q5
  have h8 : 8 ≤ p.bl := by
    have h0 := hz0
    unfold pErr at h0
    split at h0
    · cases h0
    · omega
  have x0 := hbd.body 0 (by omega); have x1 := hbd.body 1 (by omega); have x4 := hbd.body 4 (by omega); have x5 := hbd.body 5 (by omega); have x6 := hbd.body 6 (by omega); have x7 := hbd.body 7 (by omega)
  have hrb : 0 ≤ pRest p.body ∧ pRest p.body ≤ 4294967295 := by unfold pRest; omega
  have hbw : bodyW p = some (icmpW p.src p.dst (p.body 0) (p.body 1) (pRest p.body) (p.bl - 8)) := by unfold bodyW; rw [if_neg (by omega), if_neg (by omega), if_pos hpr, if_pos hz0]
  have HTP := fun ob bc w1 (hb : Bts w1 ob p.bl bc p.body) => (rparse_any ob p.bl bc p.body w1 hbd.bl hb).mono fun e w' hq => show ∃ (o1 : Option Addr) (c1 : Nat), e = .returned (.tuple #[.agg #[.int .i64 (p.body 0), .int .i64 (p.body 1), .int .u32 (pRest p.body), .slice o1 (p.bl - 8) c1], .int .i64 0]) ∧ Junk w1 w' by
    obtain ⟨t, c, r, o1, lb, cb, rfl, hj, hb, ⟨_, rfl, rfl, rfl, rfl⟩ | ⟨h1, _⟩⟩ := hq
    · exact ⟨o1, cb, by rw [hz0], hj⟩
    · exact absurd hz0 h1
  obtain ⟨t, ht⟩ : ∃ t, p.body 0 = t := ⟨_, rfl⟩
  obtain ⟨c, hc⟩ : ∃ c, p.body 1 = c := ⟨_, rfl⟩
  obtain ⟨r, hr⟩ : ∃ r, pRest p.body = r := ⟨_, rfl⟩
  obtain ⟨n, hn⟩ : ∃ n, p.bl - 8 = n := ⟨_, rfl⟩
  rw [ht, hc, hr, hn] at hbw HTP
  rw [ht] at x0 hty
  rw [hc] at x1
  rw [hr] at hrb
  have hnb : n ≤ 100000000 := by omega
  rw [hpr] at HNP
  have hp6 : (p.proto == 6) = false := by simp [hpr]
  have hp17 : (p.proto == 17) = false := by simp [hpr]
  have hp1 : (p.proto == 1) = true := by simp [hpr]
  subst hty
  obtain ⟨rn, hrn⟩ : ∃ q, r / 65536 = q := ⟨_, rfl⟩
  have hrnb : 0 ≤ rn ∧ rn ≤ 65535 := by omega
  have pwn := wrapk_i64 rn (by omega) (by omega)
  have HTP := Lib.hid HTP
  have HNY := Lib.hid (fun w1 => rnum_any (8 : Int) (by omega) w1)
  have q6 := itoaS_size (n := (8 : Int)) (by omega)
  obtain ⟨NY, hNY⟩ : ∃ s, itoaS (8 : Int) = s := ⟨_, rfl⟩
  rw [hNY] at HNY q6
  have HNC := Lib.hid (fun w1 => rnum_any c (by omega) w1)
  have q7 := itoaS_size (n := c) (by omega)
  obtain ⟨NC, hNC⟩ : ∃ s, itoaS c = s := ⟨_, rfl⟩
  rw [hNC] at HNC q7
  have HNB := Lib.hid (fun w1 => rnum_any (n : Int) (by omega) w1)
  have q8 := itoaS_size (n := (n : Int)) (by omega)
  obtain ⟨NB, hNB⟩ : ∃ s, itoaS (n : Int) = s := ⟨_, rfl⟩
  rw [hNB] at HNB q8
  have HNN := Lib.hid (fun w1 => rnum_any rn (by omega) w1)
  have q9 := itoaS_size (n := rn) (by omega)
  obtain ⟨NN, hNN⟩ : ∃ s, itoaS rn = s := ⟨_, rfl⟩
  rw [hNN] at HNN q9
  have zb1 : ¬ 9223372036854775807 < 5 + S1.size := by omega
  have zb2 : ¬ 9223372036854775807 < 5 + S1.size + 3 := by omega
  have zb3 : ¬ 9223372036854775807 < 5 + S1.size + 3 + S2.size := by omega
  have zb4 : ¬ 9223372036854775807 < 5 + S1.size + 3 + S2.size + 6 := by omega
  have zb5 : ¬ 9223372036854775807 < 5 + S1.size + 3 + S2.size + 6 + NY.size := by omega
  have zb6 : ¬ 9223372036854775807 < 5 + S1.size + 3 + S2.size + 6 + NY.size + 6 := by omega
  have zb7 : ¬ 9223372036854775807 < 5 + S1.size + 3 + S2.size + 6 + NY.size + 6 + NC.size := by omega
  have zb8 : ¬ 9223372036854775807 < 5 + S1.size + 3 + S2.size + 6 + NY.size + 6 + NC.size + 5 := by omega
  have zb9 : ¬ 9223372036854775807 < 5 + S1.size + 3 + S2.size + 6 + NY.size + 6 + NC.size + 5 + NB.size := by omega
  have zn1 : ¬ 9223372036854775807 < 6 + NN.size := by omega
  have zn2 : ¬ 9223372036854775807 < 5 + S1.size + 3 + S2.size + 6 + NY.size + 6 + NC.size + 5 + NB.size + (6 + NN.size) := by omega
  clear hc hr hn h8 x1 x4 x5 x6 x7 hrb ht
  have za1 : ¬ 9223372036854775807 < 3 + S1.size := by omega
  have za2 : ¬ 9223372036854775807 < 3 + S1.size + 3 := by omega
  have za3 : ¬ 9223372036854775807 < 3 + S1.size + 3 + S2.size := by omega
  have za4 : ¬ 9223372036854775807 < 3 + S1.size + 3 + S2.size + 7 := by omega
  have za5 : ¬ 9223372036854775807 < 3 + S1.size + 3 + S2.size + 7 + NP.size := by omega
  have za6 : ¬ 9223372036854775807 < 3 + S1.size + 3 + S2.size + 7 + NP.size + 5 := by omega
  have za7 : ¬ 9223372036854775807 < 3 + S1.size + 3 + S2.size + 7 + NP.size + 5 + NL.size := by omega
  have zt1 : ¬ 9223372036854775807 < 5 + NT.size := by omega
  have HZ := Lib.hid (fun (T : ByteArray) (hT : T.size ≤ 100000000) => show ¬ 9223372036854775807 < T.size + (5 + NT.size) ∧ ¬ 9223372036854775807 < T.size + (5 + NT.size) + 3 by omega)
  have HLS := Lib.hid (joinS_size (headW_sm hbd))
  have HEQ := Lib.hid (show (⟨#[105, 99, 109, 112, 32]⟩ ++ S1 ++ ⟨#[32, 62, 32]⟩ ++ S2 ++ ⟨#[32, 116, 121, 112, 101, 32]⟩ ++ NY ++ ⟨#[32, 99, 111, 100, 101, 32]⟩ ++ NC ++ ⟨#[32, 108, 101, 110, 32]⟩ ++ NB ++ (⟨#[32, 110, 97, 109, 101, 32]⟩ ++ NN)) = joinS (headW p) tSP from by
    have hpc : ¬ pcB p = true := by unfold pcB; rw [hmf]; simp; omega
    have : headW p = icmpW p.src p.dst 8 c r n := by unfold headW; rw [if_neg hpc, hbw]
    rw [this]; unfold icmpW; rw [if_pos (by decide), show nameI 8 r = rn from by unfold nameI; rw [if_pos (by decide)]; exact hrn, hNN, hS1, hS2, hNY, hNC, hNB]
    apply ByteArray.ext
    simp [joinS, joinL, Lib.join_cons, Lib.joinTail, ByteArray.data_append, tPIECE, tGT, tID, tOFF, tLEN, tSP, tMORE, tIP, tPROTO, tUDP, tNOSUM, tICMP, tTYPE, tCODE, tNAME, sideS])
  have HTT := Lib.hid (show ∀ T, T = joinS (headW p) tSP → T ++ (⟨#[32, 116, 116, 108, 32]⟩ ++ NT) = joinS (headW p ++ [tTTL, itoaS p.ttl]) tSP from fun T hT => by
    rw [hT, hNT, joinS_app (headW_ne p), tail_two]; rfl)
  clear hB hbd h0 hp hl hS1 hS2 hNP hNL hNT q1 q2 q3 q4 q5
  go_enter Tryd.func8, Tryd.ntmps8
  go_upto_region 4 with (first | (go_at_call 22; (with_reducible refine (HPS.out _ (HB.out.on (by (first | ((repeat (first | with_reducible exact Junk.refl _ | with_reducible exact Junk.app _ _ _ _ _ | with_reducible apply Junk.alloc | with_reducible apply Junk.junk | with_reducible apply Junk.drew | with_reducible apply Junk.drewN)); done) | ((try simp only [World.junk_junk, Array.append_assoc]); (repeat (first | with_reducible exact Junk.refl _ | with_reducible exact Junk.app _ _ _ _ _ | with_reducible exact Junk.app2 _ _ _ _ _ _ | with_reducible exact Junk.app3 _ _ _ _ _ _ _ | with_reducible exact Junk.app4 _ _ _ _ _ _ _ _ | with_reducible exact Junk.app5 _ _ _ _ _ _ _ _ _ | with_reducible apply Junk.alloc | with_reducible apply Junk.junk | with_reducible apply Junk.drew | with_reducible apply Junk.drewN))))))).mono ?_); rintro e w' ⟨oo, ob, oc, bc, rfl, ⟨osj, dj, rfl⟩, hP⟩; have HP := Lib.hid hP; clear hP))
  refine wp_region_junk (by kernel_rfl) (by kernel_rfl) ?_; (repeat (go_big_quiet_step (first | first | (go_at_call 10; first | with_reducible exact Calls.junk_of5 (HA1.out _) | with_reducible exact Calls.junk_of4 (HA1.out _) | with_reducible exact Calls.junk_of3 (HA1.out _) | with_reducible exact Calls.junk_of2 (HA1.out _) | with_reducible exact Calls.junk_of (HA1.out _)) | (go_at_call 10; first | with_reducible exact Calls.junk_of5 (HA2.out _) | with_reducible exact Calls.junk_of4 (HA2.out _) | with_reducible exact Calls.junk_of3 (HA2.out _) | with_reducible exact Calls.junk_of2 (HA2.out _) | with_reducible exact Calls.junk_of (HA2.out _))))); refine wpQuiet_nil ?_; rintro _ ⟨⟨osq4, dq4⟩, rfl⟩
  go_upto_region 5 with (first | fail)
  refine wp_region_junk (by kernel_rfl) (by kernel_rfl) ?_; (repeat (go_big_quiet_step (first | first | (go_at_call 23; first | with_reducible exact Calls.junk_of5 (HNP.out _) | with_reducible exact Calls.junk_of4 (HNP.out _) | with_reducible exact Calls.junk_of3 (HNP.out _) | with_reducible exact Calls.junk_of2 (HNP.out _) | with_reducible exact Calls.junk_of (HNP.out _)) | (go_at_call 23; first | with_reducible exact Calls.junk_of5 (HNL.out _) | with_reducible exact Calls.junk_of4 (HNL.out _) | with_reducible exact Calls.junk_of3 (HNL.out _) | with_reducible exact Calls.junk_of2 (HNL.out _) | with_reducible exact Calls.junk_of (HNL.out _))))); refine wpQuiet_nil ?_; rintro _ ⟨⟨osq5, dq5⟩, rfl⟩
  go_upto_region 27 with (first | (go_at_call 27; (with_reducible refine (HTP.out _ _ _ (HP.out.body.on (by (first | ((repeat (first | with_reducible exact Junk.refl _ | with_reducible exact Junk.app _ _ _ _ _ | with_reducible apply Junk.alloc | with_reducible apply Junk.junk | with_reducible apply Junk.drew | with_reducible apply Junk.drewN)); done) | ((try simp only [World.junk_junk, Array.append_assoc]); (repeat (first | with_reducible exact Junk.refl _ | with_reducible exact Junk.app _ _ _ _ _ | with_reducible exact Junk.app2 _ _ _ _ _ _ | with_reducible exact Junk.app3 _ _ _ _ _ _ _ | with_reducible exact Junk.app4 _ _ _ _ _ _ _ _ | with_reducible exact Junk.app5 _ _ _ _ _ _ _ _ _ | with_reducible apply Junk.alloc | with_reducible apply Junk.junk | with_reducible apply Junk.drew | with_reducible apply Junk.drewN))))))).mono ?_); rintro e w' ⟨o1, c1, rfl, ⟨osk, dk, rfl⟩⟩))
  refine wp_region_junk (by kernel_rfl) (by kernel_rfl) ?_; (repeat (go_big_quiet_step (first | first | (go_at_call 23; first | with_reducible exact Calls.junk_of5 (HNY.out _) | with_reducible exact Calls.junk_of4 (HNY.out _) | with_reducible exact Calls.junk_of3 (HNY.out _) | with_reducible exact Calls.junk_of2 (HNY.out _) | with_reducible exact Calls.junk_of (HNY.out _)) | (go_at_call 23; first | with_reducible exact Calls.junk_of5 (HNC.out _) | with_reducible exact Calls.junk_of4 (HNC.out _) | with_reducible exact Calls.junk_of3 (HNC.out _) | with_reducible exact Calls.junk_of2 (HNC.out _) | with_reducible exact Calls.junk_of (HNC.out _)) | (go_at_call 23; first | with_reducible exact Calls.junk_of5 (HNB.out _) | with_reducible exact Calls.junk_of4 (HNB.out _) | with_reducible exact Calls.junk_of3 (HNB.out _) | with_reducible exact Calls.junk_of2 (HNB.out _) | with_reducible exact Calls.junk_of (HNB.out _))))); refine wpQuiet_nil ?_; rintro _ ⟨⟨osq27, dq27⟩, rfl⟩
  go_upto_region 30 with (first | (go_at_call 23; (with_reducible refine (HNN.out _).mono ?_); rintro e w' ⟨rfl, ⟨osj, dj, rfl⟩⟩))
  generalize hT : (⟨#[105, 99, 109, 112, 32]⟩ ++ S1 ++ ⟨#[32, 62, 32]⟩ ++ S2 ++ ⟨#[32, 116, 121, 112, 101, 32]⟩ ++ NY ++ ⟨#[32, 99, 111, 100, 101, 32]⟩ ++ NC ++ ⟨#[32, 108, 101, 110, 32]⟩ ++ NB ++ (⟨#[32, 110, 97, 109, 101, 32]⟩ ++ NN)) = T
  have hT2 : T = joinS (headW p) tSP := by rw [← hT]; exact HEQ.out
  have hTs : T.size ≤ 100000000 := by rw [hT2]; exact HLS.out
  obtain ⟨zt2, zt3⟩ := HZ.out T hTs
  have HT3 := Lib.hid (HTT.out T hT2)
  clear hT hT2 hTs
  cases hdf : p.df with
  | true =>
    have HF := Lib.hid (show joinS (lineW p) tSP = T ++ (⟨#[32, 116, 116, 108, 32]⟩ ++ NT) ++ ⟨#[32, 100, 102]⟩ by
      rw [HT3.out]; unfold lineW; rw [hdf, if_pos rfl, joinS_app (by simp), tail_one]; rfl)
    go_wp2_with (first | (go_at_call 23; (with_reducible refine (HNT.out _).mono ?_); rintro e w' ⟨rfl, ⟨osj, dj, rfl⟩⟩))
    go_returns
    exact ⟨by rw [HE, HF.out]; rfl, by (first | ((repeat (first | with_reducible exact Junk.refl _ | with_reducible exact Junk.app _ _ _ _ _ | with_reducible apply Junk.alloc | with_reducible apply Junk.junk | with_reducible apply Junk.drew | with_reducible apply Junk.drewN)); done) | ((try simp only [World.junk_junk, Array.append_assoc]); (repeat (first | with_reducible exact Junk.refl _ | with_reducible exact Junk.app _ _ _ _ _ | with_reducible exact Junk.app2 _ _ _ _ _ _ | with_reducible exact Junk.app3 _ _ _ _ _ _ _ | with_reducible exact Junk.app4 _ _ _ _ _ _ _ _ | with_reducible exact Junk.app5 _ _ _ _ _ _ _ _ _ | with_reducible apply Junk.alloc | with_reducible apply Junk.junk | with_reducible apply Junk.drew | with_reducible apply Junk.drewN))))⟩
  | false =>
    have HF := Lib.hid (show joinS (lineW p) tSP = T ++ (⟨#[32, 116, 116, 108, 32]⟩ ++ NT) by
      rw [HT3.out]; unfold lineW; rw [hdf, if_neg (by decide), List.append_nil])
    go_wp2_with (first | (go_at_call 23; (with_reducible refine (HNT.out _).mono ?_); rintro e w' ⟨rfl, ⟨osj, dj, rfl⟩⟩))
    go_returns
    exact ⟨by rw [HE, HF.out]; rfl, by (first | ((repeat (first | with_reducible exact Junk.refl _ | with_reducible exact Junk.app _ _ _ _ _ | with_reducible apply Junk.alloc | with_reducible apply Junk.junk | with_reducible apply Junk.drew | with_reducible apply Junk.drewN)); done) | ((try simp only [World.junk_junk, Array.append_assoc]); (repeat (first | with_reducible exact Junk.refl _ | with_reducible exact Junk.app _ _ _ _ _ | with_reducible exact Junk.app2 _ _ _ _ _ _ | with_reducible exact Junk.app3 _ _ _ _ _ _ _ | with_reducible exact Junk.app4 _ _ _ _ _ _ _ _ | with_reducible exact Junk.app5 _ _ _ _ _ _ _ _ _ | with_reducible apply Junk.alloc | with_reducible apply Junk.junk | with_reducible apply Junk.drew | with_reducible apply Junk.drewN))))⟩
set_option maxRecDepth 100000 in
set_option maxHeartbeats 32000000 in
theorem rline_icmp13 (oa : Option Addr) (l c : Nat) (xs : Nat → Int) (w : World) (hl : l ≤ 100000000) (hB : Bts w oa l c xs) (h0 : parseErr xs l = 0) (hmf : (parseIp xs).mf = false) (hof : ¬ 0 < (parseIp xs).off) (hpr : (parseIp xs).proto = 1) (hz0 : pErr (parseIp xs).body (parseIp xs).bl = 0) (hty : (parseIp xs).body 0 = 13) :
    Calls Tryd.prog 8 #[.slice oa l c] w fun e w' => e = .returned (.string (lineS xs l)) ∧ Junk w w' := by
  have HB := Lib.hid hB
  have hbd := parse_bd h0 hB.byte hl
  have HPS := fun w1 (hb : Bts w1 oa l c xs) => (ipRParse_any oa l c xs w1 hl hb).mono fun e w' hq => show ∃ (oo ob : Option Addr) (oc bc : Nat), e = .returned (.tuple #[.agg #[.int .i64 (parseIp xs).tos, .int .i64 (parseIp xs).id, .bool (parseIp xs).df, .bool (parseIp xs).mf, .int .i64 (parseIp xs).off, .int .i64 (parseIp xs).ttl, .int .i64 (parseIp xs).proto, .int .u32 (parseIp xs).src, .int .u32 (parseIp xs).dst, .slice oo (parseIp xs).ol oc, .slice ob (parseIp xs).bl bc], .int .i64 0]) ∧ Junk w1 w' ∧ IpAt w' (parseIp xs) oo oc ob bc by
    obtain ⟨p, oo, ob, oc, bc, rfl, hj, hP, ⟨_, rfl⟩ | ⟨h1, _⟩⟩ := hq
    · exact ⟨oo, ob, oc, bc, by rw [h0], hj, hP⟩
    · exact absurd h0 h1
  have HE : lineS xs l = joinS (lineW (parseIp xs)) tSP := by unfold lineS; rw [if_pos h0]
  obtain ⟨p, hp⟩ : ∃ p, parseIp xs = p := ⟨_, rfl⟩
  rw [hp] at hbd HPS HE hmf hof hpr hz0 hty
  have HPS := Lib.hid HPS
  have HBD := Lib.hid hbd
  have b1 := hbd.id; have b2 := hbd.off; have b3 := hbd.ttl; have b4 := hbd.proto; have b5 := hbd.bl
  have HA1 := Lib.hid (fun w1 => radr_any p.src hbd.src w1)
  have HA2 := Lib.hid (fun w1 => radr_any p.dst hbd.dst w1)
  have HNP := Lib.hid (fun w1 => rnum_any p.proto (by omega) w1)
  have HNL := Lib.hid (fun w1 => rnum_any (p.bl : Int) (by omega) w1)
  have HNT := Lib.hid (fun w1 => rnum_any p.ttl (by omega) w1)
  have q1 := adrS_size hbd.src; have q2 := adrS_size hbd.dst
  have q3 := itoaS_size (n := p.proto) (by omega); have q4 := itoaS_size (n := (p.bl : Int)) (by omega); have q5 := itoaS_size (n := p.ttl) (by omega)
  obtain ⟨S1, hS1⟩ : ∃ s, adrS p.src = s := ⟨_, rfl⟩
  obtain ⟨S2, hS2⟩ : ∃ s, adrS p.dst = s := ⟨_, rfl⟩
  obtain ⟨NP, hNP⟩ : ∃ s, itoaS p.proto = s := ⟨_, rfl⟩
  obtain ⟨NL, hNL⟩ : ∃ s, itoaS (p.bl : Int) = s := ⟨_, rfl⟩
  obtain ⟨NT, hNT⟩ : ∃ s, itoaS p.ttl = s := ⟨_, rfl⟩
  rw [hS1] at HA1 q1
  rw [hS2] at HA2 q2
  rw [hNP] at HNP q3
  rw [hNL] at HNL q4
  rw [hNT] at HNT q5
  have h8 : 8 ≤ p.bl := by
    have h0 := hz0
    unfold pErr at h0
    split at h0
    · cases h0
    · omega
  have x0 := hbd.body 0 (by omega); have x1 := hbd.body 1 (by omega); have x4 := hbd.body 4 (by omega); have x5 := hbd.body 5 (by omega); have x6 := hbd.body 6 (by omega); have x7 := hbd.body 7 (by omega)
  have hrb : 0 ≤ pRest p.body ∧ pRest p.body ≤ 4294967295 := by unfold pRest; omega
  have hbw : bodyW p = some (icmpW p.src p.dst (p.body 0) (p.body 1) (pRest p.body) (p.bl - 8)) := by unfold bodyW; rw [if_neg (by omega), if_neg (by omega), if_pos hpr, if_pos hz0]
  have HTP := fun ob bc w1 (hb : Bts w1 ob p.bl bc p.body) => (rparse_any ob p.bl bc p.body w1 hbd.bl hb).mono fun e w' hq => show ∃ (o1 : Option Addr) (c1 : Nat), e = .returned (.tuple #[.agg #[.int .i64 (p.body 0), .int .i64 (p.body 1), .int .u32 (pRest p.body), .slice o1 (p.bl - 8) c1], .int .i64 0]) ∧ Junk w1 w' by
    obtain ⟨t, c, r, o1, lb, cb, rfl, hj, hb, ⟨_, rfl, rfl, rfl, rfl⟩ | ⟨h1, _⟩⟩ := hq
    · exact ⟨o1, cb, by rw [hz0], hj⟩
    · exact absurd hz0 h1
  obtain ⟨t, ht⟩ : ∃ t, p.body 0 = t := ⟨_, rfl⟩
  obtain ⟨c, hc⟩ : ∃ c, p.body 1 = c := ⟨_, rfl⟩
  obtain ⟨r, hr⟩ : ∃ r, pRest p.body = r := ⟨_, rfl⟩
  obtain ⟨n, hn⟩ : ∃ n, p.bl - 8 = n := ⟨_, rfl⟩
  rw [ht, hc, hr, hn] at hbw HTP
  rw [ht] at x0 hty
  rw [hc] at x1
  rw [hr] at hrb
  have hnb : n ≤ 100000000 := by omega
  rw [hpr] at HNP
  have hp6 : (p.proto == 6) = false := by simp [hpr]
  have hp17 : (p.proto == 17) = false := by simp [hpr]
  have hp1 : (p.proto == 1) = true := by simp [hpr]
  subst hty
  obtain ⟨rn, hrn⟩ : ∃ q, r / 65536 = q := ⟨_, rfl⟩
  have hrnb : 0 ≤ rn ∧ rn ≤ 65535 := by omega
  have pwn := wrapk_i64 rn (by omega) (by omega)
  have HTP := Lib.hid HTP
  have HNY := Lib.hid (fun w1 => rnum_any (13 : Int) (by omega) w1)
  have q6 := itoaS_size (n := (13 : Int)) (by omega)
  obtain ⟨NY, hNY⟩ : ∃ s, itoaS (13 : Int) = s := ⟨_, rfl⟩
  rw [hNY] at HNY q6
  have HNC := Lib.hid (fun w1 => rnum_any c (by omega) w1)
  have q7 := itoaS_size (n := c) (by omega)
  obtain ⟨NC, hNC⟩ : ∃ s, itoaS c = s := ⟨_, rfl⟩
  rw [hNC] at HNC q7
  have HNB := Lib.hid (fun w1 => rnum_any (n : Int) (by omega) w1)
  have q8 := itoaS_size (n := (n : Int)) (by omega)
  obtain ⟨NB, hNB⟩ : ∃ s, itoaS (n : Int) = s := ⟨_, rfl⟩
  rw [hNB] at HNB q8
  have HNN := Lib.hid (fun w1 => rnum_any rn (by omega) w1)
  have q9 := itoaS_size (n := rn) (by omega)
  obtain ⟨NN, hNN⟩ : ∃ s, itoaS rn = s := ⟨_, rfl⟩
  rw [hNN] at HNN q9
  have zb1 : ¬ 9223372036854775807 < 5 + S1.size := by omega
  have zb2 : ¬ 9223372036854775807 < 5 + S1.size + 3 := by omega
  have zb3 : ¬ 9223372036854775807 < 5 + S1.size + 3 + S2.size := by omega
  have zb4 : ¬ 9223372036854775807 < 5 + S1.size + 3 + S2.size + 6 := by omega
  have zb5 : ¬ 9223372036854775807 < 5 + S1.size + 3 + S2.size + 6 + NY.size := by omega
  have zb6 : ¬ 9223372036854775807 < 5 + S1.size + 3 + S2.size + 6 + NY.size + 6 := by omega
  have zb7 : ¬ 9223372036854775807 < 5 + S1.size + 3 + S2.size + 6 + NY.size + 6 + NC.size := by omega
  have zb8 : ¬ 9223372036854775807 < 5 + S1.size + 3 + S2.size + 6 + NY.size + 6 + NC.size + 5 := by omega
  have zb9 : ¬ 9223372036854775807 < 5 + S1.size + 3 + S2.size + 6 + NY.size + 6 + NC.size + 5 + NB.size := by omega
  have zn1 : ¬ 9223372036854775807 < 6 + NN.size := by omega
  have zn2 : ¬ 9223372036854775807 < 5 + S1.size + 3 + S2.size + 6 + NY.size + 6 + NC.size + 5 + NB.size + (6 + NN.size) := by omega
  clear hc hr hn h8 x1 x4 x5 x6 x7 hrb ht
  have za1 : ¬ 9223372036854775807 < 3 + S1.size := by omega
  have za2 : ¬ 9223372036854775807 < 3 + S1.size + 3 := by omega
  have za3 : ¬ 9223372036854775807 < 3 + S1.size + 3 + S2.size := by omega
  have za4 : ¬ 9223372036854775807 < 3 + S1.size + 3 + S2.size + 7 := by omega
  have za5 : ¬ 9223372036854775807 < 3 + S1.size + 3 + S2.size + 7 + NP.size := by omega
  have za6 : ¬ 9223372036854775807 < 3 + S1.size + 3 + S2.size + 7 + NP.size + 5 := by omega
  have za7 : ¬ 9223372036854775807 < 3 + S1.size + 3 + S2.size + 7 + NP.size + 5 + NL.size := by omega
  have zt1 : ¬ 9223372036854775807 < 5 + NT.size := by omega
  have HZ := Lib.hid (fun (T : ByteArray) (hT : T.size ≤ 100000000) => show ¬ 9223372036854775807 < T.size + (5 + NT.size) ∧ ¬ 9223372036854775807 < T.size + (5 + NT.size) + 3 by omega)
  have HLS := Lib.hid (joinS_size (headW_sm hbd))
  have HEQ := Lib.hid (show (⟨#[105, 99, 109, 112, 32]⟩ ++ S1 ++ ⟨#[32, 62, 32]⟩ ++ S2 ++ ⟨#[32, 116, 121, 112, 101, 32]⟩ ++ NY ++ ⟨#[32, 99, 111, 100, 101, 32]⟩ ++ NC ++ ⟨#[32, 108, 101, 110, 32]⟩ ++ NB ++ (⟨#[32, 110, 97, 109, 101, 32]⟩ ++ NN)) = joinS (headW p) tSP from by
    have hpc : ¬ pcB p = true := by unfold pcB; rw [hmf]; simp; omega
    have : headW p = icmpW p.src p.dst 13 c r n := by unfold headW; rw [if_neg hpc, hbw]
    rw [this]; unfold icmpW; rw [if_pos (by decide), show nameI 13 r = rn from by unfold nameI; rw [if_pos (by decide)]; exact hrn, hNN, hS1, hS2, hNY, hNC, hNB]
    apply ByteArray.ext
    simp [joinS, joinL, Lib.join_cons, Lib.joinTail, ByteArray.data_append, tPIECE, tGT, tID, tOFF, tLEN, tSP, tMORE, tIP, tPROTO, tUDP, tNOSUM, tICMP, tTYPE, tCODE, tNAME, sideS])
  have HTT := Lib.hid (show ∀ T, T = joinS (headW p) tSP → T ++ (⟨#[32, 116, 116, 108, 32]⟩ ++ NT) = joinS (headW p ++ [tTTL, itoaS p.ttl]) tSP from fun T hT => by
    rw [hT, hNT, joinS_app (headW_ne p), tail_two]; rfl)
  clear hB hbd h0 hp hl hS1 hS2 hNP hNL hNT q1 q2 q3 q4 q5
  go_enter Tryd.func8, Tryd.ntmps8
  go_upto_region 4 with (first | (go_at_call 22; (with_reducible refine (HPS.out _ (HB.out.on (by (first | ((repeat (first | with_reducible exact Junk.refl _ | with_reducible exact Junk.app _ _ _ _ _ | with_reducible apply Junk.alloc | with_reducible apply Junk.junk | with_reducible apply Junk.drew | with_reducible apply Junk.drewN)); done) | ((try simp only [World.junk_junk, Array.append_assoc]); (repeat (first | with_reducible exact Junk.refl _ | with_reducible exact Junk.app _ _ _ _ _ | with_reducible exact Junk.app2 _ _ _ _ _ _ | with_reducible exact Junk.app3 _ _ _ _ _ _ _ | with_reducible exact Junk.app4 _ _ _ _ _ _ _ _ | with_reducible exact Junk.app5 _ _ _ _ _ _ _ _ _ | with_reducible apply Junk.alloc | with_reducible apply Junk.junk | with_reducible apply Junk.drew | with_reducible apply Junk.drewN))))))).mono ?_); rintro e w' ⟨oo, ob, oc, bc, rfl, ⟨osj, dj, rfl⟩, hP⟩; have HP := Lib.hid hP; clear hP))
  refine wp_region_junk (by kernel_rfl) (by kernel_rfl) ?_; (repeat (go_big_quiet_step (first | first | (go_at_call 10; first | with_reducible exact Calls.junk_of5 (HA1.out _) | with_reducible exact Calls.junk_of4 (HA1.out _) | with_reducible exact Calls.junk_of3 (HA1.out _) | with_reducible exact Calls.junk_of2 (HA1.out _) | with_reducible exact Calls.junk_of (HA1.out _)) | (go_at_call 10; first | with_reducible exact Calls.junk_of5 (HA2.out _) | with_reducible exact Calls.junk_of4 (HA2.out _) | with_reducible exact Calls.junk_of3 (HA2.out _) | with_reducible exact Calls.junk_of2 (HA2.out _) | with_reducible exact Calls.junk_of (HA2.out _))))); refine wpQuiet_nil ?_; rintro _ ⟨⟨osq4, dq4⟩, rfl⟩
  go_upto_region 5 with (first | fail)
  refine wp_region_junk (by kernel_rfl) (by kernel_rfl) ?_; (repeat (go_big_quiet_step (first | first | (go_at_call 23; first | with_reducible exact Calls.junk_of5 (HNP.out _) | with_reducible exact Calls.junk_of4 (HNP.out _) | with_reducible exact Calls.junk_of3 (HNP.out _) | with_reducible exact Calls.junk_of2 (HNP.out _) | with_reducible exact Calls.junk_of (HNP.out _)) | (go_at_call 23; first | with_reducible exact Calls.junk_of5 (HNL.out _) | with_reducible exact Calls.junk_of4 (HNL.out _) | with_reducible exact Calls.junk_of3 (HNL.out _) | with_reducible exact Calls.junk_of2 (HNL.out _) | with_reducible exact Calls.junk_of (HNL.out _))))); refine wpQuiet_nil ?_; rintro _ ⟨⟨osq5, dq5⟩, rfl⟩
  go_upto_region 27 with (first | (go_at_call 27; (with_reducible refine (HTP.out _ _ _ (HP.out.body.on (by (first | ((repeat (first | with_reducible exact Junk.refl _ | with_reducible exact Junk.app _ _ _ _ _ | with_reducible apply Junk.alloc | with_reducible apply Junk.junk | with_reducible apply Junk.drew | with_reducible apply Junk.drewN)); done) | ((try simp only [World.junk_junk, Array.append_assoc]); (repeat (first | with_reducible exact Junk.refl _ | with_reducible exact Junk.app _ _ _ _ _ | with_reducible exact Junk.app2 _ _ _ _ _ _ | with_reducible exact Junk.app3 _ _ _ _ _ _ _ | with_reducible exact Junk.app4 _ _ _ _ _ _ _ _ | with_reducible exact Junk.app5 _ _ _ _ _ _ _ _ _ | with_reducible apply Junk.alloc | with_reducible apply Junk.junk | with_reducible apply Junk.drew | with_reducible apply Junk.drewN))))))).mono ?_); rintro e w' ⟨o1, c1, rfl, ⟨osk, dk, rfl⟩⟩))
  refine wp_region_junk (by kernel_rfl) (by kernel_rfl) ?_; (repeat (go_big_quiet_step (first | first | (go_at_call 23; first | with_reducible exact Calls.junk_of5 (HNY.out _) | with_reducible exact Calls.junk_of4 (HNY.out _) | with_reducible exact Calls.junk_of3 (HNY.out _) | with_reducible exact Calls.junk_of2 (HNY.out _) | with_reducible exact Calls.junk_of (HNY.out _)) | (go_at_call 23; first | with_reducible exact Calls.junk_of5 (HNC.out _) | with_reducible exact Calls.junk_of4 (HNC.out _) | with_reducible exact Calls.junk_of3 (HNC.out _) | with_reducible exact Calls.junk_of2 (HNC.out _) | with_reducible exact Calls.junk_of (HNC.out _)) | (go_at_call 23; first | with_reducible exact Calls.junk_of5 (HNB.out _) | with_reducible exact Calls.junk_of4 (HNB.out _) | with_reducible exact Calls.junk_of3 (HNB.out _) | with_reducible exact Calls.junk_of2 (HNB.out _) | with_reducible exact Calls.junk_of (HNB.out _))))); refine wpQuiet_nil ?_; rintro _ ⟨⟨osq27, dq27⟩, rfl⟩
  go_upto_region 30 with (first | (go_at_call 23; (with_reducible refine (HNN.out _).mono ?_); rintro e w' ⟨rfl, ⟨osj, dj, rfl⟩⟩))
  generalize hT : (⟨#[105, 99, 109, 112, 32]⟩ ++ S1 ++ ⟨#[32, 62, 32]⟩ ++ S2 ++ ⟨#[32, 116, 121, 112, 101, 32]⟩ ++ NY ++ ⟨#[32, 99, 111, 100, 101, 32]⟩ ++ NC ++ ⟨#[32, 108, 101, 110, 32]⟩ ++ NB ++ (⟨#[32, 110, 97, 109, 101, 32]⟩ ++ NN)) = T
  have hT2 : T = joinS (headW p) tSP := by rw [← hT]; exact HEQ.out
  have hTs : T.size ≤ 100000000 := by rw [hT2]; exact HLS.out
  obtain ⟨zt2, zt3⟩ := HZ.out T hTs
  have HT3 := Lib.hid (HTT.out T hT2)
  clear hT hT2 hTs
  cases hdf : p.df with
  | true =>
    have HF := Lib.hid (show joinS (lineW p) tSP = T ++ (⟨#[32, 116, 116, 108, 32]⟩ ++ NT) ++ ⟨#[32, 100, 102]⟩ by
      rw [HT3.out]; unfold lineW; rw [hdf, if_pos rfl, joinS_app (by simp), tail_one]; rfl)
    go_wp2_with (first | (go_at_call 23; (with_reducible refine (HNT.out _).mono ?_); rintro e w' ⟨rfl, ⟨osj, dj, rfl⟩⟩))
    go_returns
    exact ⟨by rw [HE, HF.out]; rfl, by (first | ((repeat (first | with_reducible exact Junk.refl _ | with_reducible exact Junk.app _ _ _ _ _ | with_reducible apply Junk.alloc | with_reducible apply Junk.junk | with_reducible apply Junk.drew | with_reducible apply Junk.drewN)); done) | ((try simp only [World.junk_junk, Array.append_assoc]); (repeat (first | with_reducible exact Junk.refl _ | with_reducible exact Junk.app _ _ _ _ _ | with_reducible exact Junk.app2 _ _ _ _ _ _ | with_reducible exact Junk.app3 _ _ _ _ _ _ _ | with_reducible exact Junk.app4 _ _ _ _ _ _ _ _ | with_reducible exact Junk.app5 _ _ _ _ _ _ _ _ _ | with_reducible apply Junk.alloc | with_reducible apply Junk.junk | with_reducible apply Junk.drew | with_reducible apply Junk.drewN))))⟩
  | false =>
    have HF := Lib.hid (show joinS (lineW p) tSP = T ++ (⟨#[32, 116, 116, 108, 32]⟩ ++ NT) by
      rw [HT3.out]; unfold lineW; rw [hdf, if_neg (by decide), List.append_nil])
    go_wp2_with (first | (go_at_call 23; (with_reducible refine (HNT.out _).mono ?_); rintro e w' ⟨rfl, ⟨osj, dj, rfl⟩⟩))
    go_returns
    exact ⟨by rw [HE, HF.out]; rfl, by (first | ((repeat (first | with_reducible exact Junk.refl _ | with_reducible exact Junk.app _ _ _ _ _ | with_reducible apply Junk.alloc | with_reducible apply Junk.junk | with_reducible apply Junk.drew | with_reducible apply Junk.drewN)); done) | ((try simp only [World.junk_junk, Array.append_assoc]); (repeat (first | with_reducible exact Junk.refl _ | with_reducible exact Junk.app _ _ _ _ _ | with_reducible exact Junk.app2 _ _ _ _ _ _ | with_reducible exact Junk.app3 _ _ _ _ _ _ _ | with_reducible exact Junk.app4 _ _ _ _ _ _ _ _ | with_reducible exact Junk.app5 _ _ _ _ _ _ _ _ _ | with_reducible apply Junk.alloc | with_reducible apply Junk.junk | with_reducible apply Junk.drew | with_reducible apply Junk.drewN))))⟩
set_option maxRecDepth 100000 in
set_option maxHeartbeats 32000000 in
theorem rline_icmp14 (oa : Option Addr) (l c : Nat) (xs : Nat → Int) (w : World) (hl : l ≤ 100000000) (hB : Bts w oa l c xs) (h0 : parseErr xs l = 0) (hmf : (parseIp xs).mf = false) (hof : ¬ 0 < (parseIp xs).off) (hpr : (parseIp xs).proto = 1) (hz0 : pErr (parseIp xs).body (parseIp xs).bl = 0) (hty : (parseIp xs).body 0 = 14) :
    Calls Tryd.prog 8 #[.slice oa l c] w fun e w' => e = .returned (.string (lineS xs l)) ∧ Junk w w' := by
  have HB := Lib.hid hB
  have hbd := parse_bd h0 hB.byte hl
  have HPS := fun w1 (hb : Bts w1 oa l c xs) => (ipRParse_any oa l c xs w1 hl hb).mono fun e w' hq => show ∃ (oo ob : Option Addr) (oc bc : Nat), e = .returned (.tuple #[.agg #[.int .i64 (parseIp xs).tos, .int .i64 (parseIp xs).id, .bool (parseIp xs).df, .bool (parseIp xs).mf, .int .i64 (parseIp xs).off, .int .i64 (parseIp xs).ttl, .int .i64 (parseIp xs).proto, .int .u32 (parseIp xs).src, .int .u32 (parseIp xs).dst, .slice oo (parseIp xs).ol oc, .slice ob (parseIp xs).bl bc], .int .i64 0]) ∧ Junk w1 w' ∧ IpAt w' (parseIp xs) oo oc ob bc by
    obtain ⟨p, oo, ob, oc, bc, rfl, hj, hP, ⟨_, rfl⟩ | ⟨h1, _⟩⟩ := hq
    · exact ⟨oo, ob, oc, bc, by rw [h0], hj, hP⟩
    · exact absurd h0 h1
  have HE : lineS xs l = joinS (lineW (parseIp xs)) tSP := by unfold lineS; rw [if_pos h0]
  obtain ⟨p, hp⟩ : ∃ p, parseIp xs = p := ⟨_, rfl⟩
  rw [hp] at hbd HPS HE hmf hof hpr hz0 hty
  have HPS := Lib.hid HPS
  have HBD := Lib.hid hbd
  have b1 := hbd.id; have b2 := hbd.off; have b3 := hbd.ttl; have b4 := hbd.proto; have b5 := hbd.bl
  have HA1 := Lib.hid (fun w1 => radr_any p.src hbd.src w1)
  have HA2 := Lib.hid (fun w1 => radr_any p.dst hbd.dst w1)
  have HNP := Lib.hid (fun w1 => rnum_any p.proto (by omega) w1)
  have HNL := Lib.hid (fun w1 => rnum_any (p.bl : Int) (by omega) w1)
  have HNT := Lib.hid (fun w1 => rnum_any p.ttl (by omega) w1)
  have q1 := adrS_size hbd.src; have q2 := adrS_size hbd.dst
  have q3 := itoaS_size (n := p.proto) (by omega); have q4 := itoaS_size (n := (p.bl : Int)) (by omega); have q5 := itoaS_size (n := p.ttl) (by omega)
  obtain ⟨S1, hS1⟩ : ∃ s, adrS p.src = s := ⟨_, rfl⟩
  obtain ⟨S2, hS2⟩ : ∃ s, adrS p.dst = s := ⟨_, rfl⟩
  obtain ⟨NP, hNP⟩ : ∃ s, itoaS p.proto = s := ⟨_, rfl⟩
  obtain ⟨NL, hNL⟩ : ∃ s, itoaS (p.bl : Int) = s := ⟨_, rfl⟩
  obtain ⟨NT, hNT⟩ : ∃ s, itoaS p.ttl = s := ⟨_, rfl⟩
  rw [hS1] at HA1 q1
  rw [hS2] at HA2 q2
  rw [hNP] at HNP q3
  rw [hNL] at HNL q4
  rw [hNT] at HNT q5
  have h8 : 8 ≤ p.bl := by
    have h0 := hz0
    unfold pErr at h0
    split at h0
    · cases h0
    · omega
  have x0 := hbd.body 0 (by omega); have x1 := hbd.body 1 (by omega); have x4 := hbd.body 4 (by omega); have x5 := hbd.body 5 (by omega); have x6 := hbd.body 6 (by omega); have x7 := hbd.body 7 (by omega)
  have hrb : 0 ≤ pRest p.body ∧ pRest p.body ≤ 4294967295 := by unfold pRest; omega
  have hbw : bodyW p = some (icmpW p.src p.dst (p.body 0) (p.body 1) (pRest p.body) (p.bl - 8)) := by unfold bodyW; rw [if_neg (by omega), if_neg (by omega), if_pos hpr, if_pos hz0]
  have HTP := fun ob bc w1 (hb : Bts w1 ob p.bl bc p.body) => (rparse_any ob p.bl bc p.body w1 hbd.bl hb).mono fun e w' hq => show ∃ (o1 : Option Addr) (c1 : Nat), e = .returned (.tuple #[.agg #[.int .i64 (p.body 0), .int .i64 (p.body 1), .int .u32 (pRest p.body), .slice o1 (p.bl - 8) c1], .int .i64 0]) ∧ Junk w1 w' by
    obtain ⟨t, c, r, o1, lb, cb, rfl, hj, hb, ⟨_, rfl, rfl, rfl, rfl⟩ | ⟨h1, _⟩⟩ := hq
    · exact ⟨o1, cb, by rw [hz0], hj⟩
    · exact absurd hz0 h1
  obtain ⟨t, ht⟩ : ∃ t, p.body 0 = t := ⟨_, rfl⟩
  obtain ⟨c, hc⟩ : ∃ c, p.body 1 = c := ⟨_, rfl⟩
  obtain ⟨r, hr⟩ : ∃ r, pRest p.body = r := ⟨_, rfl⟩
  obtain ⟨n, hn⟩ : ∃ n, p.bl - 8 = n := ⟨_, rfl⟩
  rw [ht, hc, hr, hn] at hbw HTP
  rw [ht] at x0 hty
  rw [hc] at x1
  rw [hr] at hrb
  have hnb : n ≤ 100000000 := by omega
  rw [hpr] at HNP
  have hp6 : (p.proto == 6) = false := by simp [hpr]
  have hp17 : (p.proto == 17) = false := by simp [hpr]
  have hp1 : (p.proto == 1) = true := by simp [hpr]
  subst hty
  obtain ⟨rn, hrn⟩ : ∃ q, r / 65536 = q := ⟨_, rfl⟩
  have hrnb : 0 ≤ rn ∧ rn ≤ 65535 := by omega
  have pwn := wrapk_i64 rn (by omega) (by omega)
  have HTP := Lib.hid HTP
  have HNY := Lib.hid (fun w1 => rnum_any (14 : Int) (by omega) w1)
  have q6 := itoaS_size (n := (14 : Int)) (by omega)
  obtain ⟨NY, hNY⟩ : ∃ s, itoaS (14 : Int) = s := ⟨_, rfl⟩
  rw [hNY] at HNY q6
  have HNC := Lib.hid (fun w1 => rnum_any c (by omega) w1)
  have q7 := itoaS_size (n := c) (by omega)
  obtain ⟨NC, hNC⟩ : ∃ s, itoaS c = s := ⟨_, rfl⟩
  rw [hNC] at HNC q7
  have HNB := Lib.hid (fun w1 => rnum_any (n : Int) (by omega) w1)
  have q8 := itoaS_size (n := (n : Int)) (by omega)
  obtain ⟨NB, hNB⟩ : ∃ s, itoaS (n : Int) = s := ⟨_, rfl⟩
  rw [hNB] at HNB q8
  have HNN := Lib.hid (fun w1 => rnum_any rn (by omega) w1)
  have q9 := itoaS_size (n := rn) (by omega)
  obtain ⟨NN, hNN⟩ : ∃ s, itoaS rn = s := ⟨_, rfl⟩
  rw [hNN] at HNN q9
  have zb1 : ¬ 9223372036854775807 < 5 + S1.size := by omega
  have zb2 : ¬ 9223372036854775807 < 5 + S1.size + 3 := by omega
  have zb3 : ¬ 9223372036854775807 < 5 + S1.size + 3 + S2.size := by omega
  have zb4 : ¬ 9223372036854775807 < 5 + S1.size + 3 + S2.size + 6 := by omega
  have zb5 : ¬ 9223372036854775807 < 5 + S1.size + 3 + S2.size + 6 + NY.size := by omega
  have zb6 : ¬ 9223372036854775807 < 5 + S1.size + 3 + S2.size + 6 + NY.size + 6 := by omega
  have zb7 : ¬ 9223372036854775807 < 5 + S1.size + 3 + S2.size + 6 + NY.size + 6 + NC.size := by omega
  have zb8 : ¬ 9223372036854775807 < 5 + S1.size + 3 + S2.size + 6 + NY.size + 6 + NC.size + 5 := by omega
  have zb9 : ¬ 9223372036854775807 < 5 + S1.size + 3 + S2.size + 6 + NY.size + 6 + NC.size + 5 + NB.size := by omega
  have zn1 : ¬ 9223372036854775807 < 6 + NN.size := by omega
  have zn2 : ¬ 9223372036854775807 < 5 + S1.size + 3 + S2.size + 6 + NY.size + 6 + NC.size + 5 + NB.size + (6 + NN.size) := by omega
  clear hc hr hn h8 x1 x4 x5 x6 x7 hrb ht
  have za1 : ¬ 9223372036854775807 < 3 + S1.size := by omega
  have za2 : ¬ 9223372036854775807 < 3 + S1.size + 3 := by omega
  have za3 : ¬ 9223372036854775807 < 3 + S1.size + 3 + S2.size := by omega
  have za4 : ¬ 9223372036854775807 < 3 + S1.size + 3 + S2.size + 7 := by omega
  have za5 : ¬ 9223372036854775807 < 3 + S1.size + 3 + S2.size + 7 + NP.size := by omega
  have za6 : ¬ 9223372036854775807 < 3 + S1.size + 3 + S2.size + 7 + NP.size + 5 := by omega
  have za7 : ¬ 9223372036854775807 < 3 + S1.size + 3 + S2.size + 7 + NP.size + 5 + NL.size := by omega
  have zt1 : ¬ 9223372036854775807 < 5 + NT.size := by omega
  have HZ := Lib.hid (fun (T : ByteArray) (hT : T.size ≤ 100000000) => show ¬ 9223372036854775807 < T.size + (5 + NT.size) ∧ ¬ 9223372036854775807 < T.size + (5 + NT.size) + 3 by omega)
  have HLS := Lib.hid (joinS_size (headW_sm hbd))
  have HEQ := Lib.hid (show (⟨#[105, 99, 109, 112, 32]⟩ ++ S1 ++ ⟨#[32, 62, 32]⟩ ++ S2 ++ ⟨#[32, 116, 121, 112, 101, 32]⟩ ++ NY ++ ⟨#[32, 99, 111, 100, 101, 32]⟩ ++ NC ++ ⟨#[32, 108, 101, 110, 32]⟩ ++ NB ++ (⟨#[32, 110, 97, 109, 101, 32]⟩ ++ NN)) = joinS (headW p) tSP from by
    have hpc : ¬ pcB p = true := by unfold pcB; rw [hmf]; simp; omega
    have : headW p = icmpW p.src p.dst 14 c r n := by unfold headW; rw [if_neg hpc, hbw]
    rw [this]; unfold icmpW; rw [if_pos (by decide), show nameI 14 r = rn from by unfold nameI; rw [if_pos (by decide)]; exact hrn, hNN, hS1, hS2, hNY, hNC, hNB]
    apply ByteArray.ext
    simp [joinS, joinL, Lib.join_cons, Lib.joinTail, ByteArray.data_append, tPIECE, tGT, tID, tOFF, tLEN, tSP, tMORE, tIP, tPROTO, tUDP, tNOSUM, tICMP, tTYPE, tCODE, tNAME, sideS])
  have HTT := Lib.hid (show ∀ T, T = joinS (headW p) tSP → T ++ (⟨#[32, 116, 116, 108, 32]⟩ ++ NT) = joinS (headW p ++ [tTTL, itoaS p.ttl]) tSP from fun T hT => by
    rw [hT, hNT, joinS_app (headW_ne p), tail_two]; rfl)
  clear hB hbd h0 hp hl hS1 hS2 hNP hNL hNT q1 q2 q3 q4 q5
  go_enter Tryd.func8, Tryd.ntmps8
  go_upto_region 4 with (first | (go_at_call 22; (with_reducible refine (HPS.out _ (HB.out.on (by (first | ((repeat (first | with_reducible exact Junk.refl _ | with_reducible exact Junk.app _ _ _ _ _ | with_reducible apply Junk.alloc | with_reducible apply Junk.junk | with_reducible apply Junk.drew | with_reducible apply Junk.drewN)); done) | ((try simp only [World.junk_junk, Array.append_assoc]); (repeat (first | with_reducible exact Junk.refl _ | with_reducible exact Junk.app _ _ _ _ _ | with_reducible exact Junk.app2 _ _ _ _ _ _ | with_reducible exact Junk.app3 _ _ _ _ _ _ _ | with_reducible exact Junk.app4 _ _ _ _ _ _ _ _ | with_reducible exact Junk.app5 _ _ _ _ _ _ _ _ _ | with_reducible apply Junk.alloc | with_reducible apply Junk.junk | with_reducible apply Junk.drew | with_reducible apply Junk.drewN))))))).mono ?_); rintro e w' ⟨oo, ob, oc, bc, rfl, ⟨osj, dj, rfl⟩, hP⟩; have HP := Lib.hid hP; clear hP))
  refine wp_region_junk (by kernel_rfl) (by kernel_rfl) ?_; (repeat (go_big_quiet_step (first | first | (go_at_call 10; first | with_reducible exact Calls.junk_of5 (HA1.out _) | with_reducible exact Calls.junk_of4 (HA1.out _) | with_reducible exact Calls.junk_of3 (HA1.out _) | with_reducible exact Calls.junk_of2 (HA1.out _) | with_reducible exact Calls.junk_of (HA1.out _)) | (go_at_call 10; first | with_reducible exact Calls.junk_of5 (HA2.out _) | with_reducible exact Calls.junk_of4 (HA2.out _) | with_reducible exact Calls.junk_of3 (HA2.out _) | with_reducible exact Calls.junk_of2 (HA2.out _) | with_reducible exact Calls.junk_of (HA2.out _))))); refine wpQuiet_nil ?_; rintro _ ⟨⟨osq4, dq4⟩, rfl⟩
  go_upto_region 5 with (first | fail)
  refine wp_region_junk (by kernel_rfl) (by kernel_rfl) ?_; (repeat (go_big_quiet_step (first | first | (go_at_call 23; first | with_reducible exact Calls.junk_of5 (HNP.out _) | with_reducible exact Calls.junk_of4 (HNP.out _) | with_reducible exact Calls.junk_of3 (HNP.out _) | with_reducible exact Calls.junk_of2 (HNP.out _) | with_reducible exact Calls.junk_of (HNP.out _)) | (go_at_call 23; first | with_reducible exact Calls.junk_of5 (HNL.out _) | with_reducible exact Calls.junk_of4 (HNL.out _) | with_reducible exact Calls.junk_of3 (HNL.out _) | with_reducible exact Calls.junk_of2 (HNL.out _) | with_reducible exact Calls.junk_of (HNL.out _))))); refine wpQuiet_nil ?_; rintro _ ⟨⟨osq5, dq5⟩, rfl⟩
  go_upto_region 27 with (first | (go_at_call 27; (with_reducible refine (HTP.out _ _ _ (HP.out.body.on (by (first | ((repeat (first | with_reducible exact Junk.refl _ | with_reducible exact Junk.app _ _ _ _ _ | with_reducible apply Junk.alloc | with_reducible apply Junk.junk | with_reducible apply Junk.drew | with_reducible apply Junk.drewN)); done) | ((try simp only [World.junk_junk, Array.append_assoc]); (repeat (first | with_reducible exact Junk.refl _ | with_reducible exact Junk.app _ _ _ _ _ | with_reducible exact Junk.app2 _ _ _ _ _ _ | with_reducible exact Junk.app3 _ _ _ _ _ _ _ | with_reducible exact Junk.app4 _ _ _ _ _ _ _ _ | with_reducible exact Junk.app5 _ _ _ _ _ _ _ _ _ | with_reducible apply Junk.alloc | with_reducible apply Junk.junk | with_reducible apply Junk.drew | with_reducible apply Junk.drewN))))))).mono ?_); rintro e w' ⟨o1, c1, rfl, ⟨osk, dk, rfl⟩⟩))
  refine wp_region_junk (by kernel_rfl) (by kernel_rfl) ?_; (repeat (go_big_quiet_step (first | first | (go_at_call 23; first | with_reducible exact Calls.junk_of5 (HNY.out _) | with_reducible exact Calls.junk_of4 (HNY.out _) | with_reducible exact Calls.junk_of3 (HNY.out _) | with_reducible exact Calls.junk_of2 (HNY.out _) | with_reducible exact Calls.junk_of (HNY.out _)) | (go_at_call 23; first | with_reducible exact Calls.junk_of5 (HNC.out _) | with_reducible exact Calls.junk_of4 (HNC.out _) | with_reducible exact Calls.junk_of3 (HNC.out _) | with_reducible exact Calls.junk_of2 (HNC.out _) | with_reducible exact Calls.junk_of (HNC.out _)) | (go_at_call 23; first | with_reducible exact Calls.junk_of5 (HNB.out _) | with_reducible exact Calls.junk_of4 (HNB.out _) | with_reducible exact Calls.junk_of3 (HNB.out _) | with_reducible exact Calls.junk_of2 (HNB.out _) | with_reducible exact Calls.junk_of (HNB.out _))))); refine wpQuiet_nil ?_; rintro _ ⟨⟨osq27, dq27⟩, rfl⟩
  go_upto_region 30 with (first | (go_at_call 23; (with_reducible refine (HNN.out _).mono ?_); rintro e w' ⟨rfl, ⟨osj, dj, rfl⟩⟩))
  generalize hT : (⟨#[105, 99, 109, 112, 32]⟩ ++ S1 ++ ⟨#[32, 62, 32]⟩ ++ S2 ++ ⟨#[32, 116, 121, 112, 101, 32]⟩ ++ NY ++ ⟨#[32, 99, 111, 100, 101, 32]⟩ ++ NC ++ ⟨#[32, 108, 101, 110, 32]⟩ ++ NB ++ (⟨#[32, 110, 97, 109, 101, 32]⟩ ++ NN)) = T
  have hT2 : T = joinS (headW p) tSP := by rw [← hT]; exact HEQ.out
  have hTs : T.size ≤ 100000000 := by rw [hT2]; exact HLS.out
  obtain ⟨zt2, zt3⟩ := HZ.out T hTs
  have HT3 := Lib.hid (HTT.out T hT2)
  clear hT hT2 hTs
  cases hdf : p.df with
  | true =>
    have HF := Lib.hid (show joinS (lineW p) tSP = T ++ (⟨#[32, 116, 116, 108, 32]⟩ ++ NT) ++ ⟨#[32, 100, 102]⟩ by
      rw [HT3.out]; unfold lineW; rw [hdf, if_pos rfl, joinS_app (by simp), tail_one]; rfl)
    go_wp2_with (first | (go_at_call 23; (with_reducible refine (HNT.out _).mono ?_); rintro e w' ⟨rfl, ⟨osj, dj, rfl⟩⟩))
    go_returns
    exact ⟨by rw [HE, HF.out]; rfl, by (first | ((repeat (first | with_reducible exact Junk.refl _ | with_reducible exact Junk.app _ _ _ _ _ | with_reducible apply Junk.alloc | with_reducible apply Junk.junk | with_reducible apply Junk.drew | with_reducible apply Junk.drewN)); done) | ((try simp only [World.junk_junk, Array.append_assoc]); (repeat (first | with_reducible exact Junk.refl _ | with_reducible exact Junk.app _ _ _ _ _ | with_reducible exact Junk.app2 _ _ _ _ _ _ | with_reducible exact Junk.app3 _ _ _ _ _ _ _ | with_reducible exact Junk.app4 _ _ _ _ _ _ _ _ | with_reducible exact Junk.app5 _ _ _ _ _ _ _ _ _ | with_reducible apply Junk.alloc | with_reducible apply Junk.junk | with_reducible apply Junk.drew | with_reducible apply Junk.drewN))))⟩
  | false =>
    have HF := Lib.hid (show joinS (lineW p) tSP = T ++ (⟨#[32, 116, 116, 108, 32]⟩ ++ NT) by
      rw [HT3.out]; unfold lineW; rw [hdf, if_neg (by decide), List.append_nil])
    go_wp2_with (first | (go_at_call 23; (with_reducible refine (HNT.out _).mono ?_); rintro e w' ⟨rfl, ⟨osj, dj, rfl⟩⟩))
    go_returns
    exact ⟨by rw [HE, HF.out]; rfl, by (first | ((repeat (first | with_reducible exact Junk.refl _ | with_reducible exact Junk.app _ _ _ _ _ | with_reducible apply Junk.alloc | with_reducible apply Junk.junk | with_reducible apply Junk.drew | with_reducible apply Junk.drewN)); done) | ((try simp only [World.junk_junk, Array.append_assoc]); (repeat (first | with_reducible exact Junk.refl _ | with_reducible exact Junk.app _ _ _ _ _ | with_reducible exact Junk.app2 _ _ _ _ _ _ | with_reducible exact Junk.app3 _ _ _ _ _ _ _ | with_reducible exact Junk.app4 _ _ _ _ _ _ _ _ | with_reducible exact Junk.app5 _ _ _ _ _ _ _ _ _ | with_reducible apply Junk.alloc | with_reducible apply Junk.junk | with_reducible apply Junk.drew | with_reducible apply Junk.drewN))))⟩
set_option maxRecDepth 100000 in
set_option maxHeartbeats 32000000 in
theorem rline_icmpN (oa : Option Addr) (l c : Nat) (xs : Nat → Int) (w : World) (hl : l ≤ 100000000) (hB : Bts w oa l c xs) (h0 : parseErr xs l = 0) (hmf : (parseIp xs).mf = false) (hof : ¬ 0 < (parseIp xs).off) (hpr : (parseIp xs).proto = 1) (hz0 : pErr (parseIp xs).body (parseIp xs).bl = 0) (hty : (parseIp xs).body 0 ≠ 0 ∧ (parseIp xs).body 0 ≠ 8 ∧ (parseIp xs).body 0 ≠ 13 ∧ (parseIp xs).body 0 ≠ 14) :
    Calls Tryd.prog 8 #[.slice oa l c] w fun e w' => e = .returned (.string (lineS xs l)) ∧ Junk w w' := by
  have HB := Lib.hid hB
  have hbd := parse_bd h0 hB.byte hl
  have HPS := fun w1 (hb : Bts w1 oa l c xs) => (ipRParse_any oa l c xs w1 hl hb).mono fun e w' hq => show ∃ (oo ob : Option Addr) (oc bc : Nat), e = .returned (.tuple #[.agg #[.int .i64 (parseIp xs).tos, .int .i64 (parseIp xs).id, .bool (parseIp xs).df, .bool (parseIp xs).mf, .int .i64 (parseIp xs).off, .int .i64 (parseIp xs).ttl, .int .i64 (parseIp xs).proto, .int .u32 (parseIp xs).src, .int .u32 (parseIp xs).dst, .slice oo (parseIp xs).ol oc, .slice ob (parseIp xs).bl bc], .int .i64 0]) ∧ Junk w1 w' ∧ IpAt w' (parseIp xs) oo oc ob bc by
    obtain ⟨p, oo, ob, oc, bc, rfl, hj, hP, ⟨_, rfl⟩ | ⟨h1, _⟩⟩ := hq
    · exact ⟨oo, ob, oc, bc, by rw [h0], hj, hP⟩
    · exact absurd h0 h1
  have HE : lineS xs l = joinS (lineW (parseIp xs)) tSP := by unfold lineS; rw [if_pos h0]
  obtain ⟨p, hp⟩ : ∃ p, parseIp xs = p := ⟨_, rfl⟩
  rw [hp] at hbd HPS HE hmf hof hpr hz0 hty
  have HPS := Lib.hid HPS
  have HBD := Lib.hid hbd
  have b1 := hbd.id; have b2 := hbd.off; have b3 := hbd.ttl; have b4 := hbd.proto; have b5 := hbd.bl
  have HA1 := Lib.hid (fun w1 => radr_any p.src hbd.src w1)
  have HA2 := Lib.hid (fun w1 => radr_any p.dst hbd.dst w1)
  have HNP := Lib.hid (fun w1 => rnum_any p.proto (by omega) w1)
  have HNL := Lib.hid (fun w1 => rnum_any (p.bl : Int) (by omega) w1)
  have HNT := Lib.hid (fun w1 => rnum_any p.ttl (by omega) w1)
  have q1 := adrS_size hbd.src; have q2 := adrS_size hbd.dst
  have q3 := itoaS_size (n := p.proto) (by omega); have q4 := itoaS_size (n := (p.bl : Int)) (by omega); have q5 := itoaS_size (n := p.ttl) (by omega)
  obtain ⟨S1, hS1⟩ : ∃ s, adrS p.src = s := ⟨_, rfl⟩
  obtain ⟨S2, hS2⟩ : ∃ s, adrS p.dst = s := ⟨_, rfl⟩
  obtain ⟨NP, hNP⟩ : ∃ s, itoaS p.proto = s := ⟨_, rfl⟩
  obtain ⟨NL, hNL⟩ : ∃ s, itoaS (p.bl : Int) = s := ⟨_, rfl⟩
  obtain ⟨NT, hNT⟩ : ∃ s, itoaS p.ttl = s := ⟨_, rfl⟩
  rw [hS1] at HA1 q1
  rw [hS2] at HA2 q2
  rw [hNP] at HNP q3
  rw [hNL] at HNL q4
  rw [hNT] at HNT q5
  have h8 : 8 ≤ p.bl := by
    have h0 := hz0
    unfold pErr at h0
    split at h0
    · cases h0
    · omega
  have x0 := hbd.body 0 (by omega); have x1 := hbd.body 1 (by omega); have x4 := hbd.body 4 (by omega); have x5 := hbd.body 5 (by omega); have x6 := hbd.body 6 (by omega); have x7 := hbd.body 7 (by omega)
  have hrb : 0 ≤ pRest p.body ∧ pRest p.body ≤ 4294967295 := by unfold pRest; omega
  have hbw : bodyW p = some (icmpW p.src p.dst (p.body 0) (p.body 1) (pRest p.body) (p.bl - 8)) := by unfold bodyW; rw [if_neg (by omega), if_neg (by omega), if_pos hpr, if_pos hz0]
  have HTP := fun ob bc w1 (hb : Bts w1 ob p.bl bc p.body) => (rparse_any ob p.bl bc p.body w1 hbd.bl hb).mono fun e w' hq => show ∃ (o1 : Option Addr) (c1 : Nat), e = .returned (.tuple #[.agg #[.int .i64 (p.body 0), .int .i64 (p.body 1), .int .u32 (pRest p.body), .slice o1 (p.bl - 8) c1], .int .i64 0]) ∧ Junk w1 w' by
    obtain ⟨t, c, r, o1, lb, cb, rfl, hj, hb, ⟨_, rfl, rfl, rfl, rfl⟩ | ⟨h1, _⟩⟩ := hq
    · exact ⟨o1, cb, by rw [hz0], hj⟩
    · exact absurd hz0 h1
  obtain ⟨t, ht⟩ : ∃ t, p.body 0 = t := ⟨_, rfl⟩
  obtain ⟨c, hc⟩ : ∃ c, p.body 1 = c := ⟨_, rfl⟩
  obtain ⟨r, hr⟩ : ∃ r, pRest p.body = r := ⟨_, rfl⟩
  obtain ⟨n, hn⟩ : ∃ n, p.bl - 8 = n := ⟨_, rfl⟩
  rw [ht, hc, hr, hn] at hbw HTP
  rw [ht] at x0 hty
  rw [hc] at x1
  rw [hr] at hrb
  have hnb : n ≤ 100000000 := by omega
  rw [hpr] at HNP
  have hp6 : (p.proto == 6) = false := by simp [hpr]
  have hp17 : (p.proto == 17) = false := by simp [hpr]
  have hp1 : (p.proto == 1) = true := by simp [hpr]
  obtain ⟨ha, hb8, hc13, hd14⟩ := hty
  have ht0 : (t == 0) = false := by simpa using ha
  have ht8 : (t == 8) = false := by simpa using hb8
  have ht13 : (t == 13) = false := by simpa using hc13
  have ht14 : (t == 14) = false := by simpa using hd14
  have HTP := Lib.hid HTP
  have HNY := Lib.hid (fun w1 => rnum_any t (by omega) w1)
  have q6 := itoaS_size (n := t) (by omega)
  obtain ⟨NY, hNY⟩ : ∃ s, itoaS t = s := ⟨_, rfl⟩
  rw [hNY] at HNY q6
  have HNC := Lib.hid (fun w1 => rnum_any c (by omega) w1)
  have q7 := itoaS_size (n := c) (by omega)
  obtain ⟨NC, hNC⟩ : ∃ s, itoaS c = s := ⟨_, rfl⟩
  rw [hNC] at HNC q7
  have HNB := Lib.hid (fun w1 => rnum_any (n : Int) (by omega) w1)
  have q8 := itoaS_size (n := (n : Int)) (by omega)
  obtain ⟨NB, hNB⟩ : ∃ s, itoaS (n : Int) = s := ⟨_, rfl⟩
  rw [hNB] at HNB q8
  have zb1 : ¬ 9223372036854775807 < 5 + S1.size := by omega
  have zb2 : ¬ 9223372036854775807 < 5 + S1.size + 3 := by omega
  have zb3 : ¬ 9223372036854775807 < 5 + S1.size + 3 + S2.size := by omega
  have zb4 : ¬ 9223372036854775807 < 5 + S1.size + 3 + S2.size + 6 := by omega
  have zb5 : ¬ 9223372036854775807 < 5 + S1.size + 3 + S2.size + 6 + NY.size := by omega
  have zb6 : ¬ 9223372036854775807 < 5 + S1.size + 3 + S2.size + 6 + NY.size + 6 := by omega
  have zb7 : ¬ 9223372036854775807 < 5 + S1.size + 3 + S2.size + 6 + NY.size + 6 + NC.size := by omega
  have zb8 : ¬ 9223372036854775807 < 5 + S1.size + 3 + S2.size + 6 + NY.size + 6 + NC.size + 5 := by omega
  have zb9 : ¬ 9223372036854775807 < 5 + S1.size + 3 + S2.size + 6 + NY.size + 6 + NC.size + 5 + NB.size := by omega
  clear hc hr hn h8 x1 x4 x5 x6 x7 hrb ht
  have za1 : ¬ 9223372036854775807 < 3 + S1.size := by omega
  have za2 : ¬ 9223372036854775807 < 3 + S1.size + 3 := by omega
  have za3 : ¬ 9223372036854775807 < 3 + S1.size + 3 + S2.size := by omega
  have za4 : ¬ 9223372036854775807 < 3 + S1.size + 3 + S2.size + 7 := by omega
  have za5 : ¬ 9223372036854775807 < 3 + S1.size + 3 + S2.size + 7 + NP.size := by omega
  have za6 : ¬ 9223372036854775807 < 3 + S1.size + 3 + S2.size + 7 + NP.size + 5 := by omega
  have za7 : ¬ 9223372036854775807 < 3 + S1.size + 3 + S2.size + 7 + NP.size + 5 + NL.size := by omega
  have zt1 : ¬ 9223372036854775807 < 5 + NT.size := by omega
  have HZ := Lib.hid (fun (T : ByteArray) (hT : T.size ≤ 100000000) => show ¬ 9223372036854775807 < T.size + (5 + NT.size) ∧ ¬ 9223372036854775807 < T.size + (5 + NT.size) + 3 by omega)
  have HLS := Lib.hid (joinS_size (headW_sm hbd))
  have HEQ := Lib.hid (show (⟨#[105, 99, 109, 112, 32]⟩ ++ S1 ++ ⟨#[32, 62, 32]⟩ ++ S2 ++ ⟨#[32, 116, 121, 112, 101, 32]⟩ ++ NY ++ ⟨#[32, 99, 111, 100, 101, 32]⟩ ++ NC ++ ⟨#[32, 108, 101, 110, 32]⟩ ++ NB) = joinS (headW p) tSP from by
    have hpc : ¬ pcB p = true := by unfold pcB; rw [hmf]; simp; omega
    have : headW p = icmpW p.src p.dst t c r n := by unfold headW; rw [if_neg hpc, hbw]
    rw [this]; unfold icmpW; rw [if_neg (by unfold asksB answersB; simp [ha, hb8, hc13, hd14]), List.append_nil, hS1, hS2, hNY, hNC, hNB]
    apply ByteArray.ext
    simp [joinS, joinL, Lib.join_cons, Lib.joinTail, ByteArray.data_append, tPIECE, tGT, tID, tOFF, tLEN, tSP, tMORE, tIP, tPROTO, tUDP, tNOSUM, tICMP, tTYPE, tCODE, tNAME, sideS])
  have HTT := Lib.hid (show ∀ T, T = joinS (headW p) tSP → T ++ (⟨#[32, 116, 116, 108, 32]⟩ ++ NT) = joinS (headW p ++ [tTTL, itoaS p.ttl]) tSP from fun T hT => by
    rw [hT, hNT, joinS_app (headW_ne p), tail_two]; rfl)
  clear hB hbd h0 hp hl hS1 hS2 hNP hNL hNT q1 q2 q3 q4 q5
  go_enter Tryd.func8, Tryd.ntmps8
  go_upto_region 4 with (first | (go_at_call 22; (with_reducible refine (HPS.out _ (HB.out.on (by (first | ((repeat (first | with_reducible exact Junk.refl _ | with_reducible exact Junk.app _ _ _ _ _ | with_reducible apply Junk.alloc | with_reducible apply Junk.junk | with_reducible apply Junk.drew | with_reducible apply Junk.drewN)); done) | ((try simp only [World.junk_junk, Array.append_assoc]); (repeat (first | with_reducible exact Junk.refl _ | with_reducible exact Junk.app _ _ _ _ _ | with_reducible exact Junk.app2 _ _ _ _ _ _ | with_reducible exact Junk.app3 _ _ _ _ _ _ _ | with_reducible exact Junk.app4 _ _ _ _ _ _ _ _ | with_reducible exact Junk.app5 _ _ _ _ _ _ _ _ _ | with_reducible apply Junk.alloc | with_reducible apply Junk.junk | with_reducible apply Junk.drew | with_reducible apply Junk.drewN))))))).mono ?_); rintro e w' ⟨oo, ob, oc, bc, rfl, ⟨osj, dj, rfl⟩, hP⟩; have HP := Lib.hid hP; clear hP))
  refine wp_region_junk (by kernel_rfl) (by kernel_rfl) ?_; (repeat (go_big_quiet_step (first | first | (go_at_call 10; first | with_reducible exact Calls.junk_of5 (HA1.out _) | with_reducible exact Calls.junk_of4 (HA1.out _) | with_reducible exact Calls.junk_of3 (HA1.out _) | with_reducible exact Calls.junk_of2 (HA1.out _) | with_reducible exact Calls.junk_of (HA1.out _)) | (go_at_call 10; first | with_reducible exact Calls.junk_of5 (HA2.out _) | with_reducible exact Calls.junk_of4 (HA2.out _) | with_reducible exact Calls.junk_of3 (HA2.out _) | with_reducible exact Calls.junk_of2 (HA2.out _) | with_reducible exact Calls.junk_of (HA2.out _))))); refine wpQuiet_nil ?_; rintro _ ⟨⟨osq4, dq4⟩, rfl⟩
  go_upto_region 5 with (first | fail)
  refine wp_region_junk (by kernel_rfl) (by kernel_rfl) ?_; (repeat (go_big_quiet_step (first | first | (go_at_call 23; first | with_reducible exact Calls.junk_of5 (HNP.out _) | with_reducible exact Calls.junk_of4 (HNP.out _) | with_reducible exact Calls.junk_of3 (HNP.out _) | with_reducible exact Calls.junk_of2 (HNP.out _) | with_reducible exact Calls.junk_of (HNP.out _)) | (go_at_call 23; first | with_reducible exact Calls.junk_of5 (HNL.out _) | with_reducible exact Calls.junk_of4 (HNL.out _) | with_reducible exact Calls.junk_of3 (HNL.out _) | with_reducible exact Calls.junk_of2 (HNL.out _) | with_reducible exact Calls.junk_of (HNL.out _))))); refine wpQuiet_nil ?_; rintro _ ⟨⟨osq5, dq5⟩, rfl⟩
  go_upto_region 27 with (first | (go_at_call 27; (with_reducible refine (HTP.out _ _ _ (HP.out.body.on (by (first | ((repeat (first | with_reducible exact Junk.refl _ | with_reducible exact Junk.app _ _ _ _ _ | with_reducible apply Junk.alloc | with_reducible apply Junk.junk | with_reducible apply Junk.drew | with_reducible apply Junk.drewN)); done) | ((try simp only [World.junk_junk, Array.append_assoc]); (repeat (first | with_reducible exact Junk.refl _ | with_reducible exact Junk.app _ _ _ _ _ | with_reducible exact Junk.app2 _ _ _ _ _ _ | with_reducible exact Junk.app3 _ _ _ _ _ _ _ | with_reducible exact Junk.app4 _ _ _ _ _ _ _ _ | with_reducible exact Junk.app5 _ _ _ _ _ _ _ _ _ | with_reducible apply Junk.alloc | with_reducible apply Junk.junk | with_reducible apply Junk.drew | with_reducible apply Junk.drewN))))))).mono ?_); rintro e w' ⟨o1, c1, rfl, ⟨osk, dk, rfl⟩⟩))
  refine wp_region_junk (by kernel_rfl) (by kernel_rfl) ?_; (repeat (go_big_quiet_step (first | first | (go_at_call 23; first | with_reducible exact Calls.junk_of5 (HNY.out _) | with_reducible exact Calls.junk_of4 (HNY.out _) | with_reducible exact Calls.junk_of3 (HNY.out _) | with_reducible exact Calls.junk_of2 (HNY.out _) | with_reducible exact Calls.junk_of (HNY.out _)) | (go_at_call 23; first | with_reducible exact Calls.junk_of5 (HNC.out _) | with_reducible exact Calls.junk_of4 (HNC.out _) | with_reducible exact Calls.junk_of3 (HNC.out _) | with_reducible exact Calls.junk_of2 (HNC.out _) | with_reducible exact Calls.junk_of (HNC.out _)) | (go_at_call 23; first | with_reducible exact Calls.junk_of5 (HNB.out _) | with_reducible exact Calls.junk_of4 (HNB.out _) | with_reducible exact Calls.junk_of3 (HNB.out _) | with_reducible exact Calls.junk_of2 (HNB.out _) | with_reducible exact Calls.junk_of (HNB.out _))))); refine wpQuiet_nil ?_; rintro _ ⟨⟨osq27, dq27⟩, rfl⟩
  go_upto_region 30 with (first | fail)
  generalize hT : (⟨#[105, 99, 109, 112, 32]⟩ ++ S1 ++ ⟨#[32, 62, 32]⟩ ++ S2 ++ ⟨#[32, 116, 121, 112, 101, 32]⟩ ++ NY ++ ⟨#[32, 99, 111, 100, 101, 32]⟩ ++ NC ++ ⟨#[32, 108, 101, 110, 32]⟩ ++ NB) = T
  have hT2 : T = joinS (headW p) tSP := by rw [← hT]; exact HEQ.out
  have hTs : T.size ≤ 100000000 := by rw [hT2]; exact HLS.out
  obtain ⟨zt2, zt3⟩ := HZ.out T hTs
  have HT3 := Lib.hid (HTT.out T hT2)
  clear hT hT2 hTs
  cases hdf : p.df with
  | true =>
    have HF := Lib.hid (show joinS (lineW p) tSP = T ++ (⟨#[32, 116, 116, 108, 32]⟩ ++ NT) ++ ⟨#[32, 100, 102]⟩ by
      rw [HT3.out]; unfold lineW; rw [hdf, if_pos rfl, joinS_app (by simp), tail_one]; rfl)
    go_wp2_with (first | (go_at_call 23; (with_reducible refine (HNT.out _).mono ?_); rintro e w' ⟨rfl, ⟨osj, dj, rfl⟩⟩))
    go_returns
    exact ⟨by rw [HE, HF.out]; rfl, by (first | ((repeat (first | with_reducible exact Junk.refl _ | with_reducible exact Junk.app _ _ _ _ _ | with_reducible apply Junk.alloc | with_reducible apply Junk.junk | with_reducible apply Junk.drew | with_reducible apply Junk.drewN)); done) | ((try simp only [World.junk_junk, Array.append_assoc]); (repeat (first | with_reducible exact Junk.refl _ | with_reducible exact Junk.app _ _ _ _ _ | with_reducible exact Junk.app2 _ _ _ _ _ _ | with_reducible exact Junk.app3 _ _ _ _ _ _ _ | with_reducible exact Junk.app4 _ _ _ _ _ _ _ _ | with_reducible exact Junk.app5 _ _ _ _ _ _ _ _ _ | with_reducible apply Junk.alloc | with_reducible apply Junk.junk | with_reducible apply Junk.drew | with_reducible apply Junk.drewN))))⟩
  | false =>
    have HF := Lib.hid (show joinS (lineW p) tSP = T ++ (⟨#[32, 116, 116, 108, 32]⟩ ++ NT) by
      rw [HT3.out]; unfold lineW; rw [hdf, if_neg (by decide), List.append_nil])
    go_wp2_with (first | (go_at_call 23; (with_reducible refine (HNT.out _).mono ?_); rintro e w' ⟨rfl, ⟨osj, dj, rfl⟩⟩))
    go_returns
    exact ⟨by rw [HE, HF.out]; rfl, by (first | ((repeat (first | with_reducible exact Junk.refl _ | with_reducible exact Junk.app _ _ _ _ _ | with_reducible apply Junk.alloc | with_reducible apply Junk.junk | with_reducible apply Junk.drew | with_reducible apply Junk.drewN)); done) | ((try simp only [World.junk_junk, Array.append_assoc]); (repeat (first | with_reducible exact Junk.refl _ | with_reducible exact Junk.app _ _ _ _ _ | with_reducible exact Junk.app2 _ _ _ _ _ _ | with_reducible exact Junk.app3 _ _ _ _ _ _ _ | with_reducible exact Junk.app4 _ _ _ _ _ _ _ _ | with_reducible exact Junk.app5 _ _ _ _ _ _ _ _ _ | with_reducible apply Junk.alloc | with_reducible apply Junk.junk | with_reducible apply Junk.drew | with_reducible apply Junk.drewN))))⟩
end Go.Proofs.YtfkhnhenemgcmaaDoor
