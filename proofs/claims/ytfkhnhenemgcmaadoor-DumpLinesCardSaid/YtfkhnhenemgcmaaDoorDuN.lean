/- The reference's line: bodies that are none; datagrams. -/
import Derived.Test.YtfkhnhenemgcmaaDoorDuM
import Derived.Test.YtfkhnhenemgcmaaDoorTcpG
import Derived.Test.YtfkhnhenemgcmaaDoorUdpR
import Derived.Test.YtfkhnhenemgcmaaDoorIcmpRParse
set_option linter.unusedVariables false
set_option maxRecDepth 100000
set_option linter.unusedSimpArgs false
namespace Go.Proofs.YtfkhnhenemgcmaaDoor
open Go.RowKit
set_option maxRecDepth 100000 in
set_option maxHeartbeats 32000000 in
theorem rline_tbad (oa : Option Addr) (l c : Nat) (xs : Nat → Int) (w : World) (hl : l ≤ 100000000) (hB : Bts w oa l c xs) (h0 : parseErr xs l = 0) (hmf : (parseIp xs).mf = false) (hof : ¬ 0 < (parseIp xs).off) (hpr : (parseIp xs).proto = 6) (hne0 : tcpErr (parseIp xs).src (parseIp xs).dst (parseIp xs).body (parseIp xs).bl ≠ 0) :
    Calls Tryd.prog 8 #[.slice oa l c] w fun e w' => e = .returned (.string (lineS xs l)) ∧ Junk w w' := by
  have HB := Lib.hid hB
  have hbd := parse_bd h0 hB.byte hl
  have HPS := fun w1 (hb : Bts w1 oa l c xs) => (ipRParse_any oa l c xs w1 hl hb).mono fun e w' hq => show ∃ (oo ob : Option Addr) (oc bc : Nat), e = .returned (.tuple #[.agg #[.int .i64 (parseIp xs).tos, .int .i64 (parseIp xs).id, .bool (parseIp xs).df, .bool (parseIp xs).mf, .int .i64 (parseIp xs).off, .int .i64 (parseIp xs).ttl, .int .i64 (parseIp xs).proto, .int .u32 (parseIp xs).src, .int .u32 (parseIp xs).dst, .slice oo (parseIp xs).ol oc, .slice ob (parseIp xs).bl bc], .int .i64 0]) ∧ Junk w1 w' ∧ IpAt w' (parseIp xs) oo oc ob bc by
    obtain ⟨p, oo, ob, oc, bc, rfl, hj, hP, ⟨_, rfl⟩ | ⟨h1, _⟩⟩ := hq
    · exact ⟨oo, ob, oc, bc, by rw [h0], hj, hP⟩
    · exact absurd h0 h1
  have HE : lineS xs l = joinS (lineW (parseIp xs)) tSP := by unfold lineS; rw [if_pos h0]
  obtain ⟨p, hp⟩ : ∃ p, parseIp xs = p := ⟨_, rfl⟩
  rw [hp] at hbd HPS HE hmf hof hpr hne0
  have HPS := Lib.hid HPS
  have HBD := Lib.hid hbd
  have b1 := hbd.id; have b2 := hbd.off; have b3 := hbd.ttl; have b4 := hbd.proto; have b5 := hbd.bl
  have HA1 := Lib.hid (fun w1 => radr_any p.src hbd.src w1)
  have HA2 := Lib.hid (fun w1 => radr_any p.dst hbd.dst w1)
  have HNP := Lib.hid (fun w1 => rnum_any p.proto (by omega) w1)
  have HNL := Lib.hid (fun w1 => rnum_any (p.bl : Int) (by omega) w1)
  have HNT := Lib.hid (fun w1 => rnum_any p.ttl (by omega) w1)
  have q1 := adrS_size hbd.src; have q2 := adrS_size hbd.dst
  have q3 := itoaS_size (n := p.proto) (by omega); have q4 := itoaS_size (n := (p.bl : Int)) (by omega); have q5 := itoaS_size (n := p.ttl) (by omega)
  obtain ⟨S1, hS1⟩ : ∃ s, adrS p.src = s := ⟨_, rfl⟩
  obtain ⟨S2, hS2⟩ : ∃ s, adrS p.dst = s := ⟨_, rfl⟩
  obtain ⟨NP, hNP⟩ : ∃ s, itoaS p.proto = s := ⟨_, rfl⟩
  obtain ⟨NL, hNL⟩ : ∃ s, itoaS (p.bl : Int) = s := ⟨_, rfl⟩
  obtain ⟨NT, hNT⟩ : ∃ s, itoaS p.ttl = s := ⟨_, rfl⟩
  rw [hS1] at HA1 q1
  rw [hS2] at HA2 q2
  rw [hNP] at HNP q3
  rw [hNL] at HNL q4
  rw [hNT] at HNT q5
  have hbw : bodyW p = none := by unfold bodyW; rw [if_pos hpr, if_neg hne0]
  obtain ⟨E, hE⟩ : ∃ E, tcpErr p.src p.dst p.body p.bl = E := ⟨_, rfl⟩
  rw [hpr] at HNP
  have hp6 : (p.proto == 6) = true := by simp [hpr]
  have hp17 : (p.proto == 17) = false := by simp [hpr]
  have hp1 : (p.proto == 1) = false := by simp [hpr]
  have hee : (E == 0) = false := by rw [← hE]; simpa using hne0
  have HTP := Lib.hid (fun ob bc w1 (hb : Bts w1 ob p.bl bc p.body) => show Calls Tryd.prog 24 #[.int .u32 p.src, .int .u32 p.dst, .slice ob p.bl bc] w1 fun e w' => e = .returned (.tuple #[.agg #[.int .i64 0, .int .i64 0, .int .u32 0, .int .u32 0, .int .i64 0, .int .i64 0, .int .i64 0, .slice none 0 0, .slice none 0 0], .int .i64 E]) ∧ Junk w1 w' from (rtparse_any p.src p.dst ob p.bl bc p.body w1 hbd.src hbd.dst hbd.bl hb).mono fun e w' hq => by
    obtain ⟨hj, ⟨_, h1⟩ | ⟨h1, _⟩⟩ := hq
    · rw [hE] at h1; exact ⟨h1, hj⟩
    · exact absurd h1 hne0)
  have za1 : ¬ 9223372036854775807 < 3 + S1.size := by omega
  have za2 : ¬ 9223372036854775807 < 3 + S1.size + 3 := by omega
  have za3 : ¬ 9223372036854775807 < 3 + S1.size + 3 + S2.size := by omega
  have za4 : ¬ 9223372036854775807 < 3 + S1.size + 3 + S2.size + 7 := by omega
  have za5 : ¬ 9223372036854775807 < 3 + S1.size + 3 + S2.size + 7 + NP.size := by omega
  have za6 : ¬ 9223372036854775807 < 3 + S1.size + 3 + S2.size + 7 + NP.size + 5 := by omega
  have za7 : ¬ 9223372036854775807 < 3 + S1.size + 3 + S2.size + 7 + NP.size + 5 + NL.size := by omega
  have zt1 : ¬ 9223372036854775807 < 5 + NT.size := by omega
  have HZ := Lib.hid (fun (T : ByteArray) (hT : T.size ≤ 100000000) => show ¬ 9223372036854775807 < T.size + (5 + NT.size) ∧ ¬ 9223372036854775807 < T.size + (5 + NT.size) + 3 by omega)
  have HLS := Lib.hid (joinS_size (headW_sm hbd))
  have HEQ := Lib.hid (show (⟨#[105, 112, 32]⟩ ++ S1 ++ ⟨#[32, 62, 32]⟩ ++ S2 ++ ⟨#[32, 112, 114, 111, 116, 111, 32]⟩ ++ NP ++ ⟨#[32, 108, 101, 110, 32]⟩ ++ NL) = joinS (headW p) tSP from by
    have hpc : ¬ pcB p = true := by unfold pcB; rw [hmf]; simp; omega
    have : headW p = plainW p := by unfold headW; rw [if_neg hpc, hbw]
    rw [this]; unfold plainW; rw [hS1, hS2, hNP, hNL]
    apply ByteArray.ext
    simp [joinS, joinL, Lib.join_cons, Lib.joinTail, ByteArray.data_append, tPIECE, tGT, tID, tOFF, tLEN, tSP, tMORE, tIP, tPROTO, tUDP, tNOSUM, tICMP, tTYPE, tCODE, tNAME, sideS])
  have HTT := Lib.hid (show ∀ T, T = joinS (headW p) tSP → T ++ (⟨#[32, 116, 116, 108, 32]⟩ ++ NT) = joinS (headW p ++ [tTTL, itoaS p.ttl]) tSP from fun T hT => by
    rw [hT, hNT, joinS_app (headW_ne p), tail_two]; rfl)
  clear hB hbd h0 hp hl hS1 hS2 hNP hNL hNT q1 q2 q3 q4 q5
  go_enter Tryd.func8, Tryd.ntmps8
  go_upto_region 4 with (first | (go_at_call 22; (with_reducible refine (HPS.out _ (HB.out.on (by (first | ((repeat (first | with_reducible exact Junk.refl _ | with_reducible exact Junk.app _ _ _ _ _ | with_reducible apply Junk.alloc | with_reducible apply Junk.junk | with_reducible apply Junk.drew | with_reducible apply Junk.drewN)); done) | ((try simp only [World.junk_junk, Array.append_assoc]); (repeat (first | with_reducible exact Junk.refl _ | with_reducible exact Junk.app _ _ _ _ _ | with_reducible exact Junk.app2 _ _ _ _ _ _ | with_reducible exact Junk.app3 _ _ _ _ _ _ _ | with_reducible exact Junk.app4 _ _ _ _ _ _ _ _ | with_reducible exact Junk.app5 _ _ _ _ _ _ _ _ _ | with_reducible apply Junk.alloc | with_reducible apply Junk.junk | with_reducible apply Junk.drew | with_reducible apply Junk.drewN))))))).mono ?_); rintro e w' ⟨oo, ob, oc, bc, rfl, ⟨osj, dj, rfl⟩, hP⟩; have HP := Lib.hid hP; clear hP))
  refine wp_region_junk (by kernel_rfl) (by kernel_rfl) ?_; (repeat (go_big_quiet_step (first | first | (go_at_call 10; first | with_reducible exact Calls.junk_of5 (HA1.out _) | with_reducible exact Calls.junk_of4 (HA1.out _) | with_reducible exact Calls.junk_of3 (HA1.out _) | with_reducible exact Calls.junk_of2 (HA1.out _) | with_reducible exact Calls.junk_of (HA1.out _)) | (go_at_call 10; first | with_reducible exact Calls.junk_of5 (HA2.out _) | with_reducible exact Calls.junk_of4 (HA2.out _) | with_reducible exact Calls.junk_of3 (HA2.out _) | with_reducible exact Calls.junk_of2 (HA2.out _) | with_reducible exact Calls.junk_of (HA2.out _))))); refine wpQuiet_nil ?_; rintro _ ⟨⟨osq4, dq4⟩, rfl⟩
  go_upto_region 5 with (first | fail)
  refine wp_region_junk (by kernel_rfl) (by kernel_rfl) ?_; (repeat (go_big_quiet_step (first | first | (go_at_call 23; first | with_reducible exact Calls.junk_of5 (HNP.out _) | with_reducible exact Calls.junk_of4 (HNP.out _) | with_reducible exact Calls.junk_of3 (HNP.out _) | with_reducible exact Calls.junk_of2 (HNP.out _) | with_reducible exact Calls.junk_of (HNP.out _)) | (go_at_call 23; first | with_reducible exact Calls.junk_of5 (HNL.out _) | with_reducible exact Calls.junk_of4 (HNL.out _) | with_reducible exact Calls.junk_of3 (HNL.out _) | with_reducible exact Calls.junk_of2 (HNL.out _) | with_reducible exact Calls.junk_of (HNL.out _))))); refine wpQuiet_nil ?_; rintro _ ⟨⟨osq5, dq5⟩, rfl⟩
  go_upto_region 30 with (first | (go_at_call 24; (with_reducible refine (HTP.out _ _ _ (HP.out.body.on (by (first | ((repeat (first | with_reducible exact Junk.refl _ | with_reducible exact Junk.app _ _ _ _ _ | with_reducible apply Junk.alloc | with_reducible apply Junk.junk | with_reducible apply Junk.drew | with_reducible apply Junk.drewN)); done) | ((try simp only [World.junk_junk, Array.append_assoc]); (repeat (first | with_reducible exact Junk.refl _ | with_reducible exact Junk.app _ _ _ _ _ | with_reducible exact Junk.app2 _ _ _ _ _ _ | with_reducible exact Junk.app3 _ _ _ _ _ _ _ | with_reducible exact Junk.app4 _ _ _ _ _ _ _ _ | with_reducible exact Junk.app5 _ _ _ _ _ _ _ _ _ | with_reducible apply Junk.alloc | with_reducible apply Junk.junk | with_reducible apply Junk.drew | with_reducible apply Junk.drewN))))))).mono ?_); rintro e w' ⟨rfl, ⟨osk, dk, rfl⟩⟩))
  generalize hT : (⟨#[105, 112, 32]⟩ ++ S1 ++ ⟨#[32, 62, 32]⟩ ++ S2 ++ ⟨#[32, 112, 114, 111, 116, 111, 32]⟩ ++ NP ++ ⟨#[32, 108, 101, 110, 32]⟩ ++ NL) = T
  have hT2 : T = joinS (headW p) tSP := by rw [← hT]; exact HEQ.out
  have hTs : T.size ≤ 100000000 := by rw [hT2]; exact HLS.out
  obtain ⟨zt2, zt3⟩ := HZ.out T hTs
  have HT3 := Lib.hid (HTT.out T hT2)
  clear hT hT2 hTs
  cases hdf : p.df with
  | true =>
    have HF := Lib.hid (show joinS (lineW p) tSP = T ++ (⟨#[32, 116, 116, 108, 32]⟩ ++ NT) ++ ⟨#[32, 100, 102]⟩ by
      rw [HT3.out]; unfold lineW; rw [hdf, if_pos rfl, joinS_app (by simp), tail_one]; rfl)
    go_wp2_with (first | (go_at_call 23; (with_reducible refine (HNT.out _).mono ?_); rintro e w' ⟨rfl, ⟨osj, dj, rfl⟩⟩))
    go_returns
    exact ⟨by rw [HE, HF.out]; rfl, by (first | ((repeat (first | with_reducible exact Junk.refl _ | with_reducible exact Junk.app _ _ _ _ _ | with_reducible apply Junk.alloc | with_reducible apply Junk.junk | with_reducible apply Junk.drew | with_reducible apply Junk.drewN)); done) | ((try simp only [World.junk_junk, Array.append_assoc]); (repeat (first | with_reducible exact Junk.refl _ | with_reducible exact Junk.app _ _ _ _ _ | with_reducible exact Junk.app2 _ _ _ _ _ _ | with_reducible exact Junk.app3 _ _ _ _ _ _ _ | with_reducible exact Junk.app4 _ _ _ _ _ _ _ _ | with_reducible exact Junk.app5 _ _ _ _ _ _ _ _ _ | with_reducible apply Junk.alloc | with_reducible apply Junk.junk | with_reducible apply Junk.drew | with_reducible apply Junk.drewN))))⟩
  | false =>
    have HF := Lib.hid (show joinS (lineW p) tSP = T ++ (⟨#[32, 116, 116, 108, 32]⟩ ++ NT) by
      rw [HT3.out]; unfold lineW; rw [hdf, if_neg (by decide), List.append_nil])
    go_wp2_with (first | (go_at_call 23; (with_reducible refine (HNT.out _).mono ?_); rintro e w' ⟨rfl, ⟨osj, dj, rfl⟩⟩))
    go_returns
    exact ⟨by rw [HE, HF.out]; rfl, by (first | ((repeat (first | with_reducible exact Junk.refl _ | with_reducible exact Junk.app _ _ _ _ _ | with_reducible apply Junk.alloc | with_reducible apply Junk.junk | with_reducible apply Junk.drew | with_reducible apply Junk.drewN)); done) | ((try simp only [World.junk_junk, Array.append_assoc]); (repeat (first | with_reducible exact Junk.refl _ | with_reducible exact Junk.app _ _ _ _ _ | with_reducible exact Junk.app2 _ _ _ _ _ _ | with_reducible exact Junk.app3 _ _ _ _ _ _ _ | with_reducible exact Junk.app4 _ _ _ _ _ _ _ _ | with_reducible exact Junk.app5 _ _ _ _ _ _ _ _ _ | with_reducible apply Junk.alloc | with_reducible apply Junk.junk | with_reducible apply Junk.drew | with_reducible apply Junk.drewN))))⟩
set_option maxRecDepth 100000 in
set_option maxHeartbeats 32000000 in
theorem rline_ubad (oa : Option Addr) (l c : Nat) (xs : Nat → Int) (w : World) (hl : l ≤ 100000000) (hB : Bts w oa l c xs) (h0 : parseErr xs l = 0) (hmf : (parseIp xs).mf = false) (hof : ¬ 0 < (parseIp xs).off) (hpr : (parseIp xs).proto = 17) (hne0 : udpErr (parseIp xs).src (parseIp xs).dst (parseIp xs).body (parseIp xs).bl ≠ 0) :
    Calls Tryd.prog 8 #[.slice oa l c] w fun e w' => e = .returned (.string (lineS xs l)) ∧ Junk w w' := by
  have HB := Lib.hid hB
  have hbd := parse_bd h0 hB.byte hl
  have HPS := fun w1 (hb : Bts w1 oa l c xs) => (ipRParse_any oa l c xs w1 hl hb).mono fun e w' hq => show ∃ (oo ob : Option Addr) (oc bc : Nat), e = .returned (.tuple #[.agg #[.int .i64 (parseIp xs).tos, .int .i64 (parseIp xs).id, .bool (parseIp xs).df, .bool (parseIp xs).mf, .int .i64 (parseIp xs).off, .int .i64 (parseIp xs).ttl, .int .i64 (parseIp xs).proto, .int .u32 (parseIp xs).src, .int .u32 (parseIp xs).dst, .slice oo (parseIp xs).ol oc, .slice ob (parseIp xs).bl bc], .int .i64 0]) ∧ Junk w1 w' ∧ IpAt w' (parseIp xs) oo oc ob bc by
    obtain ⟨p, oo, ob, oc, bc, rfl, hj, hP, ⟨_, rfl⟩ | ⟨h1, _⟩⟩ := hq
    · exact ⟨oo, ob, oc, bc, by rw [h0], hj, hP⟩
    · exact absurd h0 h1
  have HE : lineS xs l = joinS (lineW (parseIp xs)) tSP := by unfold lineS; rw [if_pos h0]
  obtain ⟨p, hp⟩ : ∃ p, parseIp xs = p := ⟨_, rfl⟩
  rw [hp] at hbd HPS HE hmf hof hpr hne0
  have HPS := Lib.hid HPS
  have HBD := Lib.hid hbd
  have b1 := hbd.id; have b2 := hbd.off; have b3 := hbd.ttl; have b4 := hbd.proto; have b5 := hbd.bl
  have HA1 := Lib.hid (fun w1 => radr_any p.src hbd.src w1)
  have HA2 := Lib.hid (fun w1 => radr_any p.dst hbd.dst w1)
  have HNP := Lib.hid (fun w1 => rnum_any p.proto (by omega) w1)
  have HNL := Lib.hid (fun w1 => rnum_any (p.bl : Int) (by omega) w1)
  have HNT := Lib.hid (fun w1 => rnum_any p.ttl (by omega) w1)
  have q1 := adrS_size hbd.src; have q2 := adrS_size hbd.dst
  have q3 := itoaS_size (n := p.proto) (by omega); have q4 := itoaS_size (n := (p.bl : Int)) (by omega); have q5 := itoaS_size (n := p.ttl) (by omega)
  obtain ⟨S1, hS1⟩ : ∃ s, adrS p.src = s := ⟨_, rfl⟩
  obtain ⟨S2, hS2⟩ : ∃ s, adrS p.dst = s := ⟨_, rfl⟩
  obtain ⟨NP, hNP⟩ : ∃ s, itoaS p.proto = s := ⟨_, rfl⟩
  obtain ⟨NL, hNL⟩ : ∃ s, itoaS (p.bl : Int) = s := ⟨_, rfl⟩
  obtain ⟨NT, hNT⟩ : ∃ s, itoaS p.ttl = s := ⟨_, rfl⟩
  rw [hS1] at HA1 q1
  rw [hS2] at HA2 q2
  rw [hNP] at HNP q3
  rw [hNL] at HNL q4
  rw [hNT] at HNT q5
  have hbw : bodyW p = none := by unfold bodyW; rw [if_neg (by omega), if_pos hpr, if_neg hne0]
  obtain ⟨E, hE⟩ : ∃ E, udpErr p.src p.dst p.body p.bl = E := ⟨_, rfl⟩
  rw [hpr] at HNP
  have hp6 : (p.proto == 6) = false := by simp [hpr]
  have hp17 : (p.proto == 17) = true := by simp [hpr]
  have hp1 : (p.proto == 1) = false := by simp [hpr]
  have hee : (E == 0) = false := by rw [← hE]; simpa using hne0
  have HTP := Lib.hid (fun ob bc w1 (hb : Bts w1 ob p.bl bc p.body) => show Calls Tryd.prog 26 #[.int .u32 p.src, .int .u32 p.dst, .slice ob p.bl bc] w1 fun e w' => e = .returned (.tuple #[.agg #[.int .i64 0, .int .i64 0, .bool false, .slice none 0 0], .int .i64 E]) ∧ Junk w1 w' from (ruparse_any p.src p.dst ob p.bl bc p.body w1 hbd.src hbd.dst hbd.bl hb).mono fun e w' hq => by
    obtain ⟨hj, ⟨_, h1⟩ | ⟨h1, _⟩⟩ := hq
    · rw [hE] at h1; exact ⟨h1, hj⟩
    · exact absurd h1 hne0)
  have za1 : ¬ 9223372036854775807 < 3 + S1.size := by omega
  have za2 : ¬ 9223372036854775807 < 3 + S1.size + 3 := by omega
  have za3 : ¬ 9223372036854775807 < 3 + S1.size + 3 + S2.size := by omega
  have za4 : ¬ 9223372036854775807 < 3 + S1.size + 3 + S2.size + 7 := by omega
  have za5 : ¬ 9223372036854775807 < 3 + S1.size + 3 + S2.size + 7 + NP.size := by omega
  have za6 : ¬ 9223372036854775807 < 3 + S1.size + 3 + S2.size + 7 + NP.size + 5 := by omega
  have za7 : ¬ 9223372036854775807 < 3 + S1.size + 3 + S2.size + 7 + NP.size + 5 + NL.size := by omega
  have zt1 : ¬ 9223372036854775807 < 5 + NT.size := by omega
  have HZ := Lib.hid (fun (T : ByteArray) (hT : T.size ≤ 100000000) => show ¬ 9223372036854775807 < T.size + (5 + NT.size) ∧ ¬ 9223372036854775807 < T.size + (5 + NT.size) + 3 by omega)
  have HLS := Lib.hid (joinS_size (headW_sm hbd))
  have HEQ := Lib.hid (show (⟨#[105, 112, 32]⟩ ++ S1 ++ ⟨#[32, 62, 32]⟩ ++ S2 ++ ⟨#[32, 112, 114, 111, 116, 111, 32]⟩ ++ NP ++ ⟨#[32, 108, 101, 110, 32]⟩ ++ NL) = joinS (headW p) tSP from by
    have hpc : ¬ pcB p = true := by unfold pcB; rw [hmf]; simp; omega
    have : headW p = plainW p := by unfold headW; rw [if_neg hpc, hbw]
    rw [this]; unfold plainW; rw [hS1, hS2, hNP, hNL]
    apply ByteArray.ext
    simp [joinS, joinL, Lib.join_cons, Lib.joinTail, ByteArray.data_append, tPIECE, tGT, tID, tOFF, tLEN, tSP, tMORE, tIP, tPROTO, tUDP, tNOSUM, tICMP, tTYPE, tCODE, tNAME, sideS])
  have HTT := Lib.hid (show ∀ T, T = joinS (headW p) tSP → T ++ (⟨#[32, 116, 116, 108, 32]⟩ ++ NT) = joinS (headW p ++ [tTTL, itoaS p.ttl]) tSP from fun T hT => by
    rw [hT, hNT, joinS_app (headW_ne p), tail_two]; rfl)
  clear hB hbd h0 hp hl hS1 hS2 hNP hNL hNT q1 q2 q3 q4 q5
  go_enter Tryd.func8, Tryd.ntmps8
  go_upto_region 4 with (first | (go_at_call 22; (with_reducible refine (HPS.out _ (HB.out.on (by (first | ((repeat (first | with_reducible exact Junk.refl _ | with_reducible exact Junk.app _ _ _ _ _ | with_reducible apply Junk.alloc | with_reducible apply Junk.junk | with_reducible apply Junk.drew | with_reducible apply Junk.drewN)); done) | ((try simp only [World.junk_junk, Array.append_assoc]); (repeat (first | with_reducible exact Junk.refl _ | with_reducible exact Junk.app _ _ _ _ _ | with_reducible exact Junk.app2 _ _ _ _ _ _ | with_reducible exact Junk.app3 _ _ _ _ _ _ _ | with_reducible exact Junk.app4 _ _ _ _ _ _ _ _ | with_reducible exact Junk.app5 _ _ _ _ _ _ _ _ _ | with_reducible apply Junk.alloc | with_reducible apply Junk.junk | with_reducible apply Junk.drew | with_reducible apply Junk.drewN))))))).mono ?_); rintro e w' ⟨oo, ob, oc, bc, rfl, ⟨osj, dj, rfl⟩, hP⟩; have HP := Lib.hid hP; clear hP))
  refine wp_region_junk (by kernel_rfl) (by kernel_rfl) ?_; (repeat (go_big_quiet_step (first | first | (go_at_call 10; first | with_reducible exact Calls.junk_of5 (HA1.out _) | with_reducible exact Calls.junk_of4 (HA1.out _) | with_reducible exact Calls.junk_of3 (HA1.out _) | with_reducible exact Calls.junk_of2 (HA1.out _) | with_reducible exact Calls.junk_of (HA1.out _)) | (go_at_call 10; first | with_reducible exact Calls.junk_of5 (HA2.out _) | with_reducible exact Calls.junk_of4 (HA2.out _) | with_reducible exact Calls.junk_of3 (HA2.out _) | with_reducible exact Calls.junk_of2 (HA2.out _) | with_reducible exact Calls.junk_of (HA2.out _))))); refine wpQuiet_nil ?_; rintro _ ⟨⟨osq4, dq4⟩, rfl⟩
  go_upto_region 5 with (first | fail)
  refine wp_region_junk (by kernel_rfl) (by kernel_rfl) ?_; (repeat (go_big_quiet_step (first | first | (go_at_call 23; first | with_reducible exact Calls.junk_of5 (HNP.out _) | with_reducible exact Calls.junk_of4 (HNP.out _) | with_reducible exact Calls.junk_of3 (HNP.out _) | with_reducible exact Calls.junk_of2 (HNP.out _) | with_reducible exact Calls.junk_of (HNP.out _)) | (go_at_call 23; first | with_reducible exact Calls.junk_of5 (HNL.out _) | with_reducible exact Calls.junk_of4 (HNL.out _) | with_reducible exact Calls.junk_of3 (HNL.out _) | with_reducible exact Calls.junk_of2 (HNL.out _) | with_reducible exact Calls.junk_of (HNL.out _))))); refine wpQuiet_nil ?_; rintro _ ⟨⟨osq5, dq5⟩, rfl⟩
  go_upto_region 30 with (first | (go_at_call 26; (with_reducible refine (HTP.out _ _ _ (HP.out.body.on (by (first | ((repeat (first | with_reducible exact Junk.refl _ | with_reducible exact Junk.app _ _ _ _ _ | with_reducible apply Junk.alloc | with_reducible apply Junk.junk | with_reducible apply Junk.drew | with_reducible apply Junk.drewN)); done) | ((try simp only [World.junk_junk, Array.append_assoc]); (repeat (first | with_reducible exact Junk.refl _ | with_reducible exact Junk.app _ _ _ _ _ | with_reducible exact Junk.app2 _ _ _ _ _ _ | with_reducible exact Junk.app3 _ _ _ _ _ _ _ | with_reducible exact Junk.app4 _ _ _ _ _ _ _ _ | with_reducible exact Junk.app5 _ _ _ _ _ _ _ _ _ | with_reducible apply Junk.alloc | with_reducible apply Junk.junk | with_reducible apply Junk.drew | with_reducible apply Junk.drewN))))))).mono ?_); rintro e w' ⟨rfl, ⟨osk, dk, rfl⟩⟩))
  generalize hT : (⟨#[105, 112, 32]⟩ ++ S1 ++ ⟨#[32, 62, 32]⟩ ++ S2 ++ ⟨#[32, 112, 114, 111, 116, 111, 32]⟩ ++ NP ++ ⟨#[32, 108, 101, 110, 32]⟩ ++ NL) = T
  have hT2 : T = joinS (headW p) tSP := by rw [← hT]; exact HEQ.out
  have hTs : T.size ≤ 100000000 := by rw [hT2]; exact HLS.out
  obtain ⟨zt2, zt3⟩ := HZ.out T hTs
  have HT3 := Lib.hid (HTT.out T hT2)
  clear hT hT2 hTs
  cases hdf : p.df with
  | true =>
    have HF := Lib.hid (show joinS (lineW p) tSP = T ++ (⟨#[32, 116, 116, 108, 32]⟩ ++ NT) ++ ⟨#[32, 100, 102]⟩ by
      rw [HT3.out]; unfold lineW; rw [hdf, if_pos rfl, joinS_app (by simp), tail_one]; rfl)
    go_wp2_with (first | (go_at_call 23; (with_reducible refine (HNT.out _).mono ?_); rintro e w' ⟨rfl, ⟨osj, dj, rfl⟩⟩))
    go_returns
    exact ⟨by rw [HE, HF.out]; rfl, by (first | ((repeat (first | with_reducible exact Junk.refl _ | with_reducible exact Junk.app _ _ _ _ _ | with_reducible apply Junk.alloc | with_reducible apply Junk.junk | with_reducible apply Junk.drew | with_reducible apply Junk.drewN)); done) | ((try simp only [World.junk_junk, Array.append_assoc]); (repeat (first | with_reducible exact Junk.refl _ | with_reducible exact Junk.app _ _ _ _ _ | with_reducible exact Junk.app2 _ _ _ _ _ _ | with_reducible exact Junk.app3 _ _ _ _ _ _ _ | with_reducible exact Junk.app4 _ _ _ _ _ _ _ _ | with_reducible exact Junk.app5 _ _ _ _ _ _ _ _ _ | with_reducible apply Junk.alloc | with_reducible apply Junk.junk | with_reducible apply Junk.drew | with_reducible apply Junk.drewN))))⟩
  | false =>
    have HF := Lib.hid (show joinS (lineW p) tSP = T ++ (⟨#[32, 116, 116, 108, 32]⟩ ++ NT) by
      rw [HT3.out]; unfold lineW; rw [hdf, if_neg (by decide), List.append_nil])
    go_wp2_with (first | (go_at_call 23; (with_reducible refine (HNT.out _).mono ?_); rintro e w' ⟨rfl, ⟨osj, dj, rfl⟩⟩))
    go_returns
    exact ⟨by rw [HE, HF.out]; rfl, by (first | ((repeat (first | with_reducible exact Junk.refl _ | with_reducible exact Junk.app _ _ _ _ _ | with_reducible apply Junk.alloc | with_reducible apply Junk.junk | with_reducible apply Junk.drew | with_reducible apply Junk.drewN)); done) | ((try simp only [World.junk_junk, Array.append_assoc]); (repeat (first | with_reducible exact Junk.refl _ | with_reducible exact Junk.app _ _ _ _ _ | with_reducible exact Junk.app2 _ _ _ _ _ _ | with_reducible exact Junk.app3 _ _ _ _ _ _ _ | with_reducible exact Junk.app4 _ _ _ _ _ _ _ _ | with_reducible exact Junk.app5 _ _ _ _ _ _ _ _ _ | with_reducible apply Junk.alloc | with_reducible apply Junk.junk | with_reducible apply Junk.drew | with_reducible apply Junk.drewN))))⟩
set_option maxRecDepth 100000 in
set_option maxHeartbeats 32000000 in
theorem rline_ibad (oa : Option Addr) (l c : Nat) (xs : Nat → Int) (w : World) (hl : l ≤ 100000000) (hB : Bts w oa l c xs) (h0 : parseErr xs l = 0) (hmf : (parseIp xs).mf = false) (hof : ¬ 0 < (parseIp xs).off) (hpr : (parseIp xs).proto = 1) (hne0 : pErr (parseIp xs).body (parseIp xs).bl ≠ 0) :
    Calls Tryd.prog 8 #[.slice oa l c] w fun e w' => e = .returned (.string (lineS xs l)) ∧ Junk w w' := by
  have HB := Lib.hid hB
  have hbd := parse_bd h0 hB.byte hl
  have HPS := fun w1 (hb : Bts w1 oa l c xs) => (ipRParse_any oa l c xs w1 hl hb).mono fun e w' hq => show ∃ (oo ob : Option Addr) (oc bc : Nat), e = .returned (.tuple #[.agg #[.int .i64 (parseIp xs).tos, .int .i64 (parseIp xs).id, .bool (parseIp xs).df, .bool (parseIp xs).mf, .int .i64 (parseIp xs).off, .int .i64 (parseIp xs).ttl, .int .i64 (parseIp xs).proto, .int .u32 (parseIp xs).src, .int .u32 (parseIp xs).dst, .slice oo (parseIp xs).ol oc, .slice ob (parseIp xs).bl bc], .int .i64 0]) ∧ Junk w1 w' ∧ IpAt w' (parseIp xs) oo oc ob bc by
    obtain ⟨p, oo, ob, oc, bc, rfl, hj, hP, ⟨_, rfl⟩ | ⟨h1, _⟩⟩ := hq
    · exact ⟨oo, ob, oc, bc, by rw [h0], hj, hP⟩
    · exact absurd h0 h1
  have HE : lineS xs l = joinS (lineW (parseIp xs)) tSP := by unfold lineS; rw [if_pos h0]
  obtain ⟨p, hp⟩ : ∃ p, parseIp xs = p := ⟨_, rfl⟩
  rw [hp] at hbd HPS HE hmf hof hpr hne0
  have HPS := Lib.hid HPS
  have HBD := Lib.hid hbd
  have b1 := hbd.id; have b2 := hbd.off; have b3 := hbd.ttl; have b4 := hbd.proto; have b5 := hbd.bl
  have HA1 := Lib.hid (fun w1 => radr_any p.src hbd.src w1)
  have HA2 := Lib.hid (fun w1 => radr_any p.dst hbd.dst w1)
  have HNP := Lib.hid (fun w1 => rnum_any p.proto (by omega) w1)
  have HNL := Lib.hid (fun w1 => rnum_any (p.bl : Int) (by omega) w1)
  have HNT := Lib.hid (fun w1 => rnum_any p.ttl (by omega) w1)
  have q1 := adrS_size hbd.src; have q2 := adrS_size hbd.dst
  have q3 := itoaS_size (n := p.proto) (by omega); have q4 := itoaS_size (n := (p.bl : Int)) (by omega); have q5 := itoaS_size (n := p.ttl) (by omega)
  obtain ⟨S1, hS1⟩ : ∃ s, adrS p.src = s := ⟨_, rfl⟩
  obtain ⟨S2, hS2⟩ : ∃ s, adrS p.dst = s := ⟨_, rfl⟩
  obtain ⟨NP, hNP⟩ : ∃ s, itoaS p.proto = s := ⟨_, rfl⟩
  obtain ⟨NL, hNL⟩ : ∃ s, itoaS (p.bl : Int) = s := ⟨_, rfl⟩
  obtain ⟨NT, hNT⟩ : ∃ s, itoaS p.ttl = s := ⟨_, rfl⟩
  rw [hS1] at HA1 q1
  rw [hS2] at HA2 q2
  rw [hNP] at HNP q3
  rw [hNL] at HNL q4
  rw [hNT] at HNT q5
  have hbw : bodyW p = none := by unfold bodyW; rw [if_neg (by omega), if_neg (by omega), if_pos hpr, if_neg hne0]
  obtain ⟨E, hE⟩ : ∃ E, pErr p.body p.bl = E := ⟨_, rfl⟩
  rw [hpr] at HNP
  have hp6 : (p.proto == 6) = false := by simp [hpr]
  have hp17 : (p.proto == 17) = false := by simp [hpr]
  have hp1 : (p.proto == 1) = true := by simp [hpr]
  have hee : (E == 0) = false := by rw [← hE]; simpa using hne0
  have HTP := Lib.hid (fun ob bc w1 (hb : Bts w1 ob p.bl bc p.body) => show Calls Tryd.prog 27 #[.slice ob p.bl bc] w1 fun e w' => e = .returned (.tuple #[.agg #[.int .i64 0, .int .i64 0, .int .u32 0, .slice none 0 0], .int .i64 E]) ∧ Junk w1 w' from (rparse_any ob p.bl bc p.body w1 hbd.bl hb).mono fun e w' hq => by
    obtain ⟨t, c, r, o1, lb, cb, rfl, hj, hb, ⟨h2, _⟩ | ⟨_, rfl, rfl, rfl, rfl, rfl, rfl⟩⟩ := hq
    · exact absurd h2 hne0
    · rw [hE]; exact ⟨rfl, hj⟩)
  have za1 : ¬ 9223372036854775807 < 3 + S1.size := by omega
  have za2 : ¬ 9223372036854775807 < 3 + S1.size + 3 := by omega
  have za3 : ¬ 9223372036854775807 < 3 + S1.size + 3 + S2.size := by omega
  have za4 : ¬ 9223372036854775807 < 3 + S1.size + 3 + S2.size + 7 := by omega
  have za5 : ¬ 9223372036854775807 < 3 + S1.size + 3 + S2.size + 7 + NP.size := by omega
  have za6 : ¬ 9223372036854775807 < 3 + S1.size + 3 + S2.size + 7 + NP.size + 5 := by omega
  have za7 : ¬ 9223372036854775807 < 3 + S1.size + 3 + S2.size + 7 + NP.size + 5 + NL.size := by omega
  have zt1 : ¬ 9223372036854775807 < 5 + NT.size := by omega
  have HZ := Lib.hid (fun (T : ByteArray) (hT : T.size ≤ 100000000) => show ¬ 9223372036854775807 < T.size + (5 + NT.size) ∧ ¬ 9223372036854775807 < T.size + (5 + NT.size) + 3 by omega)
  have HLS := Lib.hid (joinS_size (headW_sm hbd))
  have HEQ := Lib.hid (show (⟨#[105, 112, 32]⟩ ++ S1 ++ ⟨#[32, 62, 32]⟩ ++ S2 ++ ⟨#[32, 112, 114, 111, 116, 111, 32]⟩ ++ NP ++ ⟨#[32, 108, 101, 110, 32]⟩ ++ NL) = joinS (headW p) tSP from by
    have hpc : ¬ pcB p = true := by unfold pcB; rw [hmf]; simp; omega
    have : headW p = plainW p := by unfold headW; rw [if_neg hpc, hbw]
    rw [this]; unfold plainW; rw [hS1, hS2, hNP, hNL]
    apply ByteArray.ext
    simp [joinS, joinL, Lib.join_cons, Lib.joinTail, ByteArray.data_append, tPIECE, tGT, tID, tOFF, tLEN, tSP, tMORE, tIP, tPROTO, tUDP, tNOSUM, tICMP, tTYPE, tCODE, tNAME, sideS])
  have HTT := Lib.hid (show ∀ T, T = joinS (headW p) tSP → T ++ (⟨#[32, 116, 116, 108, 32]⟩ ++ NT) = joinS (headW p ++ [tTTL, itoaS p.ttl]) tSP from fun T hT => by
    rw [hT, hNT, joinS_app (headW_ne p), tail_two]; rfl)
  clear hB hbd h0 hp hl hS1 hS2 hNP hNL hNT q1 q2 q3 q4 q5
  go_enter Tryd.func8, Tryd.ntmps8
  go_upto_region 4 with (first | (go_at_call 22; (with_reducible refine (HPS.out _ (HB.out.on (by (first | ((repeat (first | with_reducible exact Junk.refl _ | with_reducible exact Junk.app _ _ _ _ _ | with_reducible apply Junk.alloc | with_reducible apply Junk.junk | with_reducible apply Junk.drew | with_reducible apply Junk.drewN)); done) | ((try simp only [World.junk_junk, Array.append_assoc]); (repeat (first | with_reducible exact Junk.refl _ | with_reducible exact Junk.app _ _ _ _ _ | with_reducible exact Junk.app2 _ _ _ _ _ _ | with_reducible exact Junk.app3 _ _ _ _ _ _ _ | with_reducible exact Junk.app4 _ _ _ _ _ _ _ _ | with_reducible exact Junk.app5 _ _ _ _ _ _ _ _ _ | with_reducible apply Junk.alloc | with_reducible apply Junk.junk | with_reducible apply Junk.drew | with_reducible apply Junk.drewN))))))).mono ?_); rintro e w' ⟨oo, ob, oc, bc, rfl, ⟨osj, dj, rfl⟩, hP⟩; have HP := Lib.hid hP; clear hP))
  refine wp_region_junk (by kernel_rfl) (by kernel_rfl) ?_; (repeat (go_big_quiet_step (first | first | (go_at_call 10; first | with_reducible exact Calls.junk_of5 (HA1.out _) | with_reducible exact Calls.junk_of4 (HA1.out _) | with_reducible exact Calls.junk_of3 (HA1.out _) | with_reducible exact Calls.junk_of2 (HA1.out _) | with_reducible exact Calls.junk_of (HA1.out _)) | (go_at_call 10; first | with_reducible exact Calls.junk_of5 (HA2.out _) | with_reducible exact Calls.junk_of4 (HA2.out _) | with_reducible exact Calls.junk_of3 (HA2.out _) | with_reducible exact Calls.junk_of2 (HA2.out _) | with_reducible exact Calls.junk_of (HA2.out _))))); refine wpQuiet_nil ?_; rintro _ ⟨⟨osq4, dq4⟩, rfl⟩
  go_upto_region 5 with (first | fail)
  refine wp_region_junk (by kernel_rfl) (by kernel_rfl) ?_; (repeat (go_big_quiet_step (first | first | (go_at_call 23; first | with_reducible exact Calls.junk_of5 (HNP.out _) | with_reducible exact Calls.junk_of4 (HNP.out _) | with_reducible exact Calls.junk_of3 (HNP.out _) | with_reducible exact Calls.junk_of2 (HNP.out _) | with_reducible exact Calls.junk_of (HNP.out _)) | (go_at_call 23; first | with_reducible exact Calls.junk_of5 (HNL.out _) | with_reducible exact Calls.junk_of4 (HNL.out _) | with_reducible exact Calls.junk_of3 (HNL.out _) | with_reducible exact Calls.junk_of2 (HNL.out _) | with_reducible exact Calls.junk_of (HNL.out _))))); refine wpQuiet_nil ?_; rintro _ ⟨⟨osq5, dq5⟩, rfl⟩
  go_upto_region 30 with (first | (go_at_call 27; (with_reducible refine (HTP.out _ _ _ (HP.out.body.on (by (first | ((repeat (first | with_reducible exact Junk.refl _ | with_reducible exact Junk.app _ _ _ _ _ | with_reducible apply Junk.alloc | with_reducible apply Junk.junk | with_reducible apply Junk.drew | with_reducible apply Junk.drewN)); done) | ((try simp only [World.junk_junk, Array.append_assoc]); (repeat (first | with_reducible exact Junk.refl _ | with_reducible exact Junk.app _ _ _ _ _ | with_reducible exact Junk.app2 _ _ _ _ _ _ | with_reducible exact Junk.app3 _ _ _ _ _ _ _ | with_reducible exact Junk.app4 _ _ _ _ _ _ _ _ | with_reducible exact Junk.app5 _ _ _ _ _ _ _ _ _ | with_reducible apply Junk.alloc | with_reducible apply Junk.junk | with_reducible apply Junk.drew | with_reducible apply Junk.drewN))))))).mono ?_); rintro e w' ⟨rfl, ⟨osk, dk, rfl⟩⟩))
  generalize hT : (⟨#[105, 112, 32]⟩ ++ S1 ++ ⟨#[32, 62, 32]⟩ ++ S2 ++ ⟨#[32, 112, 114, 111, 116, 111, 32]⟩ ++ NP ++ ⟨#[32, 108, 101, 110, 32]⟩ ++ NL) = T
  have hT2 : T = joinS (headW p) tSP := by rw [← hT]; exact HEQ.out
  have hTs : T.size ≤ 100000000 := by rw [hT2]; exact HLS.out
  obtain ⟨zt2, zt3⟩ := HZ.out T hTs
  have HT3 := Lib.hid (HTT.out T hT2)
  clear hT hT2 hTs
  cases hdf : p.df with
  | true =>
    have HF := Lib.hid (show joinS (lineW p) tSP = T ++ (⟨#[32, 116, 116, 108, 32]⟩ ++ NT) ++ ⟨#[32, 100, 102]⟩ by
      rw [HT3.out]; unfold lineW; rw [hdf, if_pos rfl, joinS_app (by simp), tail_one]; rfl)
    go_wp2_with (first | (go_at_call 23; (with_reducible refine (HNT.out _).mono ?_); rintro e w' ⟨rfl, ⟨osj, dj, rfl⟩⟩))
    go_returns
    exact ⟨by rw [HE, HF.out]; rfl, by (first | ((repeat (first | with_reducible exact Junk.refl _ | with_reducible exact Junk.app _ _ _ _ _ | with_reducible apply Junk.alloc | with_reducible apply Junk.junk | with_reducible apply Junk.drew | with_reducible apply Junk.drewN)); done) | ((try simp only [World.junk_junk, Array.append_assoc]); (repeat (first | with_reducible exact Junk.refl _ | with_reducible exact Junk.app _ _ _ _ _ | with_reducible exact Junk.app2 _ _ _ _ _ _ | with_reducible exact Junk.app3 _ _ _ _ _ _ _ | with_reducible exact Junk.app4 _ _ _ _ _ _ _ _ | with_reducible exact Junk.app5 _ _ _ _ _ _ _ _ _ | with_reducible apply Junk.alloc | with_reducible apply Junk.junk | with_reducible apply Junk.drew | with_reducible apply Junk.drewN))))⟩
  | false =>
    have HF := Lib.hid (show joinS (lineW p) tSP = T ++ (⟨#[32, 116, 116, 108, 32]⟩ ++ NT) by
      rw [HT3.out]; unfold lineW; rw [hdf, if_neg (by decide), List.append_nil])
    go_wp2_with (first | (go_at_call 23; (with_reducible refine (HNT.out _).mono ?_); rintro e w' ⟨rfl, ⟨osj, dj, rfl⟩⟩))
    go_returns
    exact ⟨by rw [HE, HF.out]; rfl, by (first | ((repeat (first | with_reducible exact Junk.refl _ | with_reducible exact Junk.app _ _ _ _ _ | with_reducible apply Junk.alloc | with_reducible apply Junk.junk | with_reducible apply Junk.drew | with_reducible apply Junk.drewN)); done) | ((try simp only [World.junk_junk, Array.append_assoc]); (repeat (first | with_reducible exact Junk.refl _ | with_reducible exact Junk.app _ _ _ _ _ | with_reducible exact Junk.app2 _ _ _ _ _ _ | with_reducible exact Junk.app3 _ _ _ _ _ _ _ | with_reducible exact Junk.app4 _ _ _ _ _ _ _ _ | with_reducible exact Junk.app5 _ _ _ _ _ _ _ _ _ | with_reducible apply Junk.alloc | with_reducible apply Junk.junk | with_reducible apply Junk.drew | with_reducible apply Junk.drewN))))⟩
set_option maxRecDepth 100000 in
set_option maxHeartbeats 32000000 in
theorem rline_none (oa : Option Addr) (l c : Nat) (xs : Nat → Int) (w : World) (hl : l ≤ 100000000) (hB : Bts w oa l c xs) (h0 : parseErr xs l = 0) (hmf : (parseIp xs).mf = false) (hof : ¬ 0 < (parseIp xs).off) (h6 : (parseIp xs).proto ≠ 6) (h17 : (parseIp xs).proto ≠ 17) (h1 : (parseIp xs).proto ≠ 1) :
    Calls Tryd.prog 8 #[.slice oa l c] w fun e w' => e = .returned (.string (lineS xs l)) ∧ Junk w w' := by
  have HB := Lib.hid hB
  have hbd := parse_bd h0 hB.byte hl
  have HPS := fun w1 (hb : Bts w1 oa l c xs) => (ipRParse_any oa l c xs w1 hl hb).mono fun e w' hq => show ∃ (oo ob : Option Addr) (oc bc : Nat), e = .returned (.tuple #[.agg #[.int .i64 (parseIp xs).tos, .int .i64 (parseIp xs).id, .bool (parseIp xs).df, .bool (parseIp xs).mf, .int .i64 (parseIp xs).off, .int .i64 (parseIp xs).ttl, .int .i64 (parseIp xs).proto, .int .u32 (parseIp xs).src, .int .u32 (parseIp xs).dst, .slice oo (parseIp xs).ol oc, .slice ob (parseIp xs).bl bc], .int .i64 0]) ∧ Junk w1 w' ∧ IpAt w' (parseIp xs) oo oc ob bc by
    obtain ⟨p, oo, ob, oc, bc, rfl, hj, hP, ⟨_, rfl⟩ | ⟨h1, _⟩⟩ := hq
    · exact ⟨oo, ob, oc, bc, by rw [h0], hj, hP⟩
    · exact absurd h0 h1
  have HE : lineS xs l = joinS (lineW (parseIp xs)) tSP := by unfold lineS; rw [if_pos h0]
  obtain ⟨p, hp⟩ : ∃ p, parseIp xs = p := ⟨_, rfl⟩
  rw [hp] at hbd HPS HE hmf hof h6 h17 h1
  have HPS := Lib.hid HPS
  have HBD := Lib.hid hbd
  have b1 := hbd.id; have b2 := hbd.off; have b3 := hbd.ttl; have b4 := hbd.proto; have b5 := hbd.bl
  have HA1 := Lib.hid (fun w1 => radr_any p.src hbd.src w1)
  have HA2 := Lib.hid (fun w1 => radr_any p.dst hbd.dst w1)
  have HNP := Lib.hid (fun w1 => rnum_any p.proto (by omega) w1)
  have HNL := Lib.hid (fun w1 => rnum_any (p.bl : Int) (by omega) w1)
  have HNT := Lib.hid (fun w1 => rnum_any p.ttl (by omega) w1)
  have q1 := adrS_size hbd.src; have q2 := adrS_size hbd.dst
  have q3 := itoaS_size (n := p.proto) (by omega); have q4 := itoaS_size (n := (p.bl : Int)) (by omega); have q5 := itoaS_size (n := p.ttl) (by omega)
  obtain ⟨S1, hS1⟩ : ∃ s, adrS p.src = s := ⟨_, rfl⟩
  obtain ⟨S2, hS2⟩ : ∃ s, adrS p.dst = s := ⟨_, rfl⟩
  obtain ⟨NP, hNP⟩ : ∃ s, itoaS p.proto = s := ⟨_, rfl⟩
  obtain ⟨NL, hNL⟩ : ∃ s, itoaS (p.bl : Int) = s := ⟨_, rfl⟩
  obtain ⟨NT, hNT⟩ : ∃ s, itoaS p.ttl = s := ⟨_, rfl⟩
  rw [hS1] at HA1 q1
  rw [hS2] at HA2 q2
  rw [hNP] at HNP q3
  rw [hNL] at HNL q4
  rw [hNT] at HNT q5
  have hbw : bodyW p = none := by unfold bodyW; rw [if_neg h6, if_neg h17, if_neg h1]
  have hp6 : (p.proto == 6) = false := by simpa using h6
  have hp17 : (p.proto == 17) = false := by simpa using h17
  have hp1 : (p.proto == 1) = false := by simpa using h1
  have za1 : ¬ 9223372036854775807 < 3 + S1.size := by omega
  have za2 : ¬ 9223372036854775807 < 3 + S1.size + 3 := by omega
  have za3 : ¬ 9223372036854775807 < 3 + S1.size + 3 + S2.size := by omega
  have za4 : ¬ 9223372036854775807 < 3 + S1.size + 3 + S2.size + 7 := by omega
  have za5 : ¬ 9223372036854775807 < 3 + S1.size + 3 + S2.size + 7 + NP.size := by omega
  have za6 : ¬ 9223372036854775807 < 3 + S1.size + 3 + S2.size + 7 + NP.size + 5 := by omega
  have za7 : ¬ 9223372036854775807 < 3 + S1.size + 3 + S2.size + 7 + NP.size + 5 + NL.size := by omega
  have zt1 : ¬ 9223372036854775807 < 5 + NT.size := by omega
  have HZ := Lib.hid (fun (T : ByteArray) (hT : T.size ≤ 100000000) => show ¬ 9223372036854775807 < T.size + (5 + NT.size) ∧ ¬ 9223372036854775807 < T.size + (5 + NT.size) + 3 by omega)
  have HLS := Lib.hid (joinS_size (headW_sm hbd))
  have HEQ := Lib.hid (show (⟨#[105, 112, 32]⟩ ++ S1 ++ ⟨#[32, 62, 32]⟩ ++ S2 ++ ⟨#[32, 112, 114, 111, 116, 111, 32]⟩ ++ NP ++ ⟨#[32, 108, 101, 110, 32]⟩ ++ NL) = joinS (headW p) tSP from by
    have hpc : ¬ pcB p = true := by unfold pcB; rw [hmf]; simp; omega
    have : headW p = plainW p := by unfold headW; rw [if_neg hpc, hbw]
    rw [this]; unfold plainW; rw [hS1, hS2, hNP, hNL]
    apply ByteArray.ext
    simp [joinS, joinL, Lib.join_cons, Lib.joinTail, ByteArray.data_append, tPIECE, tGT, tID, tOFF, tLEN, tSP, tMORE, tIP, tPROTO, tUDP, tNOSUM, tICMP, tTYPE, tCODE, tNAME, sideS])
  have HTT := Lib.hid (show ∀ T, T = joinS (headW p) tSP → T ++ (⟨#[32, 116, 116, 108, 32]⟩ ++ NT) = joinS (headW p ++ [tTTL, itoaS p.ttl]) tSP from fun T hT => by
    rw [hT, hNT, joinS_app (headW_ne p), tail_two]; rfl)
  clear hB hbd h0 hp hl hS1 hS2 hNP hNL hNT q1 q2 q3 q4 q5
  go_enter Tryd.func8, Tryd.ntmps8
  go_upto_region 4 with (first | (go_at_call 22; (with_reducible refine (HPS.out _ (HB.out.on (by (first | ((repeat (first | with_reducible exact Junk.refl _ | with_reducible exact Junk.app _ _ _ _ _ | with_reducible apply Junk.alloc | with_reducible apply Junk.junk | with_reducible apply Junk.drew | with_reducible apply Junk.drewN)); done) | ((try simp only [World.junk_junk, Array.append_assoc]); (repeat (first | with_reducible exact Junk.refl _ | with_reducible exact Junk.app _ _ _ _ _ | with_reducible exact Junk.app2 _ _ _ _ _ _ | with_reducible exact Junk.app3 _ _ _ _ _ _ _ | with_reducible exact Junk.app4 _ _ _ _ _ _ _ _ | with_reducible exact Junk.app5 _ _ _ _ _ _ _ _ _ | with_reducible apply Junk.alloc | with_reducible apply Junk.junk | with_reducible apply Junk.drew | with_reducible apply Junk.drewN))))))).mono ?_); rintro e w' ⟨oo, ob, oc, bc, rfl, ⟨osj, dj, rfl⟩, hP⟩; have HP := Lib.hid hP; clear hP))
  refine wp_region_junk (by kernel_rfl) (by kernel_rfl) ?_; (repeat (go_big_quiet_step (first | first | (go_at_call 10; first | with_reducible exact Calls.junk_of5 (HA1.out _) | with_reducible exact Calls.junk_of4 (HA1.out _) | with_reducible exact Calls.junk_of3 (HA1.out _) | with_reducible exact Calls.junk_of2 (HA1.out _) | with_reducible exact Calls.junk_of (HA1.out _)) | (go_at_call 10; first | with_reducible exact Calls.junk_of5 (HA2.out _) | with_reducible exact Calls.junk_of4 (HA2.out _) | with_reducible exact Calls.junk_of3 (HA2.out _) | with_reducible exact Calls.junk_of2 (HA2.out _) | with_reducible exact Calls.junk_of (HA2.out _))))); refine wpQuiet_nil ?_; rintro _ ⟨⟨osq4, dq4⟩, rfl⟩
  go_upto_region 5 with (first | fail)
  refine wp_region_junk (by kernel_rfl) (by kernel_rfl) ?_; (repeat (go_big_quiet_step (first | first | (go_at_call 23; first | with_reducible exact Calls.junk_of5 (HNP.out _) | with_reducible exact Calls.junk_of4 (HNP.out _) | with_reducible exact Calls.junk_of3 (HNP.out _) | with_reducible exact Calls.junk_of2 (HNP.out _) | with_reducible exact Calls.junk_of (HNP.out _)) | (go_at_call 23; first | with_reducible exact Calls.junk_of5 (HNL.out _) | with_reducible exact Calls.junk_of4 (HNL.out _) | with_reducible exact Calls.junk_of3 (HNL.out _) | with_reducible exact Calls.junk_of2 (HNL.out _) | with_reducible exact Calls.junk_of (HNL.out _))))); refine wpQuiet_nil ?_; rintro _ ⟨⟨osq5, dq5⟩, rfl⟩
  go_upto_region 30 with (first | fail)
  generalize hT : (⟨#[105, 112, 32]⟩ ++ S1 ++ ⟨#[32, 62, 32]⟩ ++ S2 ++ ⟨#[32, 112, 114, 111, 116, 111, 32]⟩ ++ NP ++ ⟨#[32, 108, 101, 110, 32]⟩ ++ NL) = T
  have hT2 : T = joinS (headW p) tSP := by rw [← hT]; exact HEQ.out
  have hTs : T.size ≤ 100000000 := by rw [hT2]; exact HLS.out
  obtain ⟨zt2, zt3⟩ := HZ.out T hTs
  have HT3 := Lib.hid (HTT.out T hT2)
  clear hT hT2 hTs
  cases hdf : p.df with
  | true =>
    have HF := Lib.hid (show joinS (lineW p) tSP = T ++ (⟨#[32, 116, 116, 108, 32]⟩ ++ NT) ++ ⟨#[32, 100, 102]⟩ by
      rw [HT3.out]; unfold lineW; rw [hdf, if_pos rfl, joinS_app (by simp), tail_one]; rfl)
    go_wp2_with (first | (go_at_call 23; (with_reducible refine (HNT.out _).mono ?_); rintro e w' ⟨rfl, ⟨osj, dj, rfl⟩⟩))
    go_returns
    exact ⟨by rw [HE, HF.out]; rfl, by (first | ((repeat (first | with_reducible exact Junk.refl _ | with_reducible exact Junk.app _ _ _ _ _ | with_reducible apply Junk.alloc | with_reducible apply Junk.junk | with_reducible apply Junk.drew | with_reducible apply Junk.drewN)); done) | ((try simp only [World.junk_junk, Array.append_assoc]); (repeat (first | with_reducible exact Junk.refl _ | with_reducible exact Junk.app _ _ _ _ _ | with_reducible exact Junk.app2 _ _ _ _ _ _ | with_reducible exact Junk.app3 _ _ _ _ _ _ _ | with_reducible exact Junk.app4 _ _ _ _ _ _ _ _ | with_reducible exact Junk.app5 _ _ _ _ _ _ _ _ _ | with_reducible apply Junk.alloc | with_reducible apply Junk.junk | with_reducible apply Junk.drew | with_reducible apply Junk.drewN))))⟩
  | false =>
    have HF := Lib.hid (show joinS (lineW p) tSP = T ++ (⟨#[32, 116, 116, 108, 32]⟩ ++ NT) by
      rw [HT3.out]; unfold lineW; rw [hdf, if_neg (by decide), List.append_nil])
    go_wp2_with (first | (go_at_call 23; (with_reducible refine (HNT.out _).mono ?_); rintro e w' ⟨rfl, ⟨osj, dj, rfl⟩⟩))
    go_returns
    exact ⟨by rw [HE, HF.out]; rfl, by (first | ((repeat (first | with_reducible exact Junk.refl _ | with_reducible exact Junk.app _ _ _ _ _ | with_reducible apply Junk.alloc | with_reducible apply Junk.junk | with_reducible apply Junk.drew | with_reducible apply Junk.drewN)); done) | ((try simp only [World.junk_junk, Array.append_assoc]); (repeat (first | with_reducible exact Junk.refl _ | with_reducible exact Junk.app _ _ _ _ _ | with_reducible exact Junk.app2 _ _ _ _ _ _ | with_reducible exact Junk.app3 _ _ _ _ _ _ _ | with_reducible exact Junk.app4 _ _ _ _ _ _ _ _ | with_reducible exact Junk.app5 _ _ _ _ _ _ _ _ _ | with_reducible apply Junk.alloc | with_reducible apply Junk.junk | with_reducible apply Junk.drew | with_reducible apply Junk.drewN))))⟩
set_option maxRecDepth 100000 in
set_option maxHeartbeats 32000000 in
theorem rline_udp0 (oa : Option Addr) (l c : Nat) (xs : Nat → Int) (w : World) (hl : l ≤ 100000000) (hB : Bts w oa l c xs) (h0 : parseErr xs l = 0) (hmf : (parseIp xs).mf = false) (hof : ¬ 0 < (parseIp xs).off) (hpr : (parseIp xs).proto = 17) (hz0 : udpErr (parseIp xs).src (parseIp xs).dst (parseIp xs).body (parseIp xs).bl = 0) (hns : (uChk (parseIp xs).body == 0) = false) :
    Calls Tryd.prog 8 #[.slice oa l c] w fun e w' => e = .returned (.string (lineS xs l)) ∧ Junk w w' := by
  have HB := Lib.hid hB
  have hbd := parse_bd h0 hB.byte hl
  have HPS := fun w1 (hb : Bts w1 oa l c xs) => (ipRParse_any oa l c xs w1 hl hb).mono fun e w' hq => show ∃ (oo ob : Option Addr) (oc bc : Nat), e = .returned (.tuple #[.agg #[.int .i64 (parseIp xs).tos, .int .i64 (parseIp xs).id, .bool (parseIp xs).df, .bool (parseIp xs).mf, .int .i64 (parseIp xs).off, .int .i64 (parseIp xs).ttl, .int .i64 (parseIp xs).proto, .int .u32 (parseIp xs).src, .int .u32 (parseIp xs).dst, .slice oo (parseIp xs).ol oc, .slice ob (parseIp xs).bl bc], .int .i64 0]) ∧ Junk w1 w' ∧ IpAt w' (parseIp xs) oo oc ob bc by
    obtain ⟨p, oo, ob, oc, bc, rfl, hj, hP, ⟨_, rfl⟩ | ⟨h1, _⟩⟩ := hq
    · exact ⟨oo, ob, oc, bc, by rw [h0], hj, hP⟩
    · exact absurd h0 h1
  have HE : lineS xs l = joinS (lineW (parseIp xs)) tSP := by unfold lineS; rw [if_pos h0]
  obtain ⟨p, hp⟩ : ∃ p, parseIp xs = p := ⟨_, rfl⟩
  rw [hp] at hbd HPS HE hmf hof hpr hz0 hns
  have HPS := Lib.hid HPS
  have HBD := Lib.hid hbd
  have b1 := hbd.id; have b2 := hbd.off; have b3 := hbd.ttl; have b4 := hbd.proto; have b5 := hbd.bl
  have HA1 := Lib.hid (fun w1 => radr_any p.src hbd.src w1)
  have HA2 := Lib.hid (fun w1 => radr_any p.dst hbd.dst w1)
  have HNP := Lib.hid (fun w1 => rnum_any p.proto (by omega) w1)
  have HNL := Lib.hid (fun w1 => rnum_any (p.bl : Int) (by omega) w1)
  have HNT := Lib.hid (fun w1 => rnum_any p.ttl (by omega) w1)
  have q1 := adrS_size hbd.src; have q2 := adrS_size hbd.dst
  have q3 := itoaS_size (n := p.proto) (by omega); have q4 := itoaS_size (n := (p.bl : Int)) (by omega); have q5 := itoaS_size (n := p.ttl) (by omega)
  obtain ⟨S1, hS1⟩ : ∃ s, adrS p.src = s := ⟨_, rfl⟩
  obtain ⟨S2, hS2⟩ : ∃ s, adrS p.dst = s := ⟨_, rfl⟩
  obtain ⟨NP, hNP⟩ : ∃ s, itoaS p.proto = s := ⟨_, rfl⟩
  obtain ⟨NL, hNL⟩ : ∃ s, itoaS (p.bl : Int) = s := ⟨_, rfl⟩
  obtain ⟨NT, hNT⟩ : ∃ s, itoaS p.ttl = s := ⟨_, rfl⟩
  rw [hS1] at HA1 q1
  rw [hS2] at HA2 q2
  rw [hNP] at HNP q3
  rw [hNL] at HNL q4
  rw [hNT] at HNT q5
  have h8 : 8 ≤ p.bl ∧ uSize p.body ≤ p.bl := by
    have h0 := hz0
    unfold udpErr at h0
    split at h0
    · cases h0
    · split at h0
      · cases h0
      · omega
  have x0 := hbd.body 0 (by omega); have x1 := hbd.body 1 (by omega); have x2 := hbd.body 2 (by omega); have x3 := hbd.body 3 (by omega)
  have hbw : bodyW p = some (udpW p.src p.dst (p.body 0 * 256 + p.body 1) (p.body 2 * 256 + p.body 3) (uSize p.body - 8) false) := by unfold bodyW; rw [if_neg (by omega), if_pos hpr, if_pos hz0, hns]
  have HTP := fun ob bc w1 (hb : Bts w1 ob p.bl bc p.body) => (ruparse_any p.src p.dst ob p.bl bc p.body w1 hbd.src hbd.dst hbd.bl hb).mono fun e w' hq => show ∃ (o1 : Option Addr) (c1 : Nat), e = .returned (.tuple #[.agg #[.int .i64 (p.body 0 * 256 + p.body 1), .int .i64 (p.body 2 * 256 + p.body 3), .bool false, .slice o1 (uSize p.body - 8) c1], .int .i64 0]) ∧ Junk w1 w' by
    obtain ⟨hj, ⟨h1, _⟩ | ⟨_, o1, c1, hb, rfl⟩⟩ := hq
    · exact absurd hz0 h1
    · exact ⟨o1, c1, by rw [hns], hj⟩
  obtain ⟨sp, hsp⟩ : ∃ t, p.body 0 * 256 + p.body 1 = t := ⟨_, rfl⟩
  obtain ⟨dp, hdp⟩ : ∃ c, p.body 2 * 256 + p.body 3 = c := ⟨_, rfl⟩
  obtain ⟨n, hn⟩ : ∃ n, uSize p.body - 8 = n := ⟨_, rfl⟩
  rw [hsp, hdp, hn] at hbw HTP
  have hnb : n ≤ 100000000 := by omega
  have HTP := Lib.hid HTP
  rw [hpr] at HNP
  have hp6 : (p.proto == 6) = false := by simp [hpr]
  have hp17 : (p.proto == 17) = true := by simp [hpr]
  have hp1 : (p.proto == 1) = false := by simp [hpr]
  have HNS := Lib.hid (fun w1 => rnum_any sp (by omega) w1)
  have q6 := itoaS_size (n := sp) (by omega)
  obtain ⟨NS, hNS⟩ : ∃ s, itoaS sp = s := ⟨_, rfl⟩
  rw [hNS] at HNS q6
  have HND := Lib.hid (fun w1 => rnum_any dp (by omega) w1)
  have q7 := itoaS_size (n := dp) (by omega)
  obtain ⟨ND, hND⟩ : ∃ s, itoaS dp = s := ⟨_, rfl⟩
  rw [hND] at HND q7
  have HNB := Lib.hid (fun w1 => rnum_any (n : Int) (by omega) w1)
  have q8 := itoaS_size (n := (n : Int)) (by omega)
  obtain ⟨NB, hNB⟩ : ∃ s, itoaS (n : Int) = s := ⟨_, rfl⟩
  rw [hNB] at HNB q8
  clear hsp hdp hn h8 x0 x1 x2 x3
  have zb1 : ¬ 9223372036854775807 < 4 + S1.size := by omega
  have zb2 : ¬ 9223372036854775807 < 4 + S1.size + 1 := by omega
  have zb3 : ¬ 9223372036854775807 < 4 + S1.size + 1 + NS.size := by omega
  have zb4 : ¬ 9223372036854775807 < 4 + S1.size + 1 + NS.size + 3 := by omega
  have zb5 : ¬ 9223372036854775807 < 4 + S1.size + 1 + NS.size + 3 + S2.size := by omega
  have zb6 : ¬ 9223372036854775807 < 4 + S1.size + 1 + NS.size + 3 + S2.size + 1 := by omega
  have zb7 : ¬ 9223372036854775807 < 4 + S1.size + 1 + NS.size + 3 + S2.size + 1 + ND.size := by omega
  have zb8 : ¬ 9223372036854775807 < 4 + S1.size + 1 + NS.size + 3 + S2.size + 1 + ND.size + 5 := by omega
  have zb9 : ¬ 9223372036854775807 < 4 + S1.size + 1 + NS.size + 3 + S2.size + 1 + ND.size + 5 + NB.size := by omega
  have za1 : ¬ 9223372036854775807 < 3 + S1.size := by omega
  have za2 : ¬ 9223372036854775807 < 3 + S1.size + 3 := by omega
  have za3 : ¬ 9223372036854775807 < 3 + S1.size + 3 + S2.size := by omega
  have za4 : ¬ 9223372036854775807 < 3 + S1.size + 3 + S2.size + 7 := by omega
  have za5 : ¬ 9223372036854775807 < 3 + S1.size + 3 + S2.size + 7 + NP.size := by omega
  have za6 : ¬ 9223372036854775807 < 3 + S1.size + 3 + S2.size + 7 + NP.size + 5 := by omega
  have za7 : ¬ 9223372036854775807 < 3 + S1.size + 3 + S2.size + 7 + NP.size + 5 + NL.size := by omega
  have zt1 : ¬ 9223372036854775807 < 5 + NT.size := by omega
  have HZ := Lib.hid (fun (T : ByteArray) (hT : T.size ≤ 100000000) => show ¬ 9223372036854775807 < T.size + (5 + NT.size) ∧ ¬ 9223372036854775807 < T.size + (5 + NT.size) + 3 by omega)
  have HLS := Lib.hid (joinS_size (headW_sm hbd))
  have HEQ := Lib.hid (show (⟨#[117, 100, 112, 32]⟩ ++ S1 ++ ⟨#[58]⟩ ++ NS ++ ⟨#[32, 62, 32]⟩ ++ S2 ++ ⟨#[58]⟩ ++ ND ++ ⟨#[32, 108, 101, 110, 32]⟩ ++ NB) = joinS (headW p) tSP from by
    have hpc : ¬ pcB p = true := by unfold pcB; rw [hmf]; simp; omega
    have : headW p = udpW p.src p.dst sp dp n false := by unfold headW; rw [if_neg hpc, hbw]
    rw [this]; unfold udpW sideS; rw [if_neg (by decide), List.append_nil, hS1, hS2, hNS, hND, hNB]
    apply ByteArray.ext
    simp [joinS, joinL, Lib.join_cons, Lib.joinTail, ByteArray.data_append, tPIECE, tGT, tID, tOFF, tLEN, tSP, tMORE, tIP, tPROTO, tUDP, tNOSUM, tICMP, tTYPE, tCODE, tNAME, sideS])
  have HTT := Lib.hid (show ∀ T, T = joinS (headW p) tSP → T ++ (⟨#[32, 116, 116, 108, 32]⟩ ++ NT) = joinS (headW p ++ [tTTL, itoaS p.ttl]) tSP from fun T hT => by
    rw [hT, hNT, joinS_app (headW_ne p), tail_two]; rfl)
  clear hB hbd h0 hp hl hS1 hS2 hNP hNL hNT q1 q2 q3 q4 q5
  go_enter Tryd.func8, Tryd.ntmps8
  go_upto_region 4 with (first | (go_at_call 22; (with_reducible refine (HPS.out _ (HB.out.on (by (first | ((repeat (first | with_reducible exact Junk.refl _ | with_reducible exact Junk.app _ _ _ _ _ | with_reducible apply Junk.alloc | with_reducible apply Junk.junk | with_reducible apply Junk.drew | with_reducible apply Junk.drewN)); done) | ((try simp only [World.junk_junk, Array.append_assoc]); (repeat (first | with_reducible exact Junk.refl _ | with_reducible exact Junk.app _ _ _ _ _ | with_reducible exact Junk.app2 _ _ _ _ _ _ | with_reducible exact Junk.app3 _ _ _ _ _ _ _ | with_reducible exact Junk.app4 _ _ _ _ _ _ _ _ | with_reducible exact Junk.app5 _ _ _ _ _ _ _ _ _ | with_reducible apply Junk.alloc | with_reducible apply Junk.junk | with_reducible apply Junk.drew | with_reducible apply Junk.drewN))))))).mono ?_); rintro e w' ⟨oo, ob, oc, bc, rfl, ⟨osj, dj, rfl⟩, hP⟩; have HP := Lib.hid hP; clear hP))
  refine wp_region_junk (by kernel_rfl) (by kernel_rfl) ?_; (repeat (go_big_quiet_step (first | first | (go_at_call 10; first | with_reducible exact Calls.junk_of5 (HA1.out _) | with_reducible exact Calls.junk_of4 (HA1.out _) | with_reducible exact Calls.junk_of3 (HA1.out _) | with_reducible exact Calls.junk_of2 (HA1.out _) | with_reducible exact Calls.junk_of (HA1.out _)) | (go_at_call 10; first | with_reducible exact Calls.junk_of5 (HA2.out _) | with_reducible exact Calls.junk_of4 (HA2.out _) | with_reducible exact Calls.junk_of3 (HA2.out _) | with_reducible exact Calls.junk_of2 (HA2.out _) | with_reducible exact Calls.junk_of (HA2.out _))))); refine wpQuiet_nil ?_; rintro _ ⟨⟨osq4, dq4⟩, rfl⟩
  go_upto_region 5 with (first | fail)
  refine wp_region_junk (by kernel_rfl) (by kernel_rfl) ?_; (repeat (go_big_quiet_step (first | first | (go_at_call 23; first | with_reducible exact Calls.junk_of5 (HNP.out _) | with_reducible exact Calls.junk_of4 (HNP.out _) | with_reducible exact Calls.junk_of3 (HNP.out _) | with_reducible exact Calls.junk_of2 (HNP.out _) | with_reducible exact Calls.junk_of (HNP.out _)) | (go_at_call 23; first | with_reducible exact Calls.junk_of5 (HNL.out _) | with_reducible exact Calls.junk_of4 (HNL.out _) | with_reducible exact Calls.junk_of3 (HNL.out _) | with_reducible exact Calls.junk_of2 (HNL.out _) | with_reducible exact Calls.junk_of (HNL.out _))))); refine wpQuiet_nil ?_; rintro _ ⟨⟨osq5, dq5⟩, rfl⟩
  go_upto_region 21 with (first | (go_at_call 26; (with_reducible refine (HTP.out _ _ _ (HP.out.body.on (by (first | ((repeat (first | with_reducible exact Junk.refl _ | with_reducible exact Junk.app _ _ _ _ _ | with_reducible apply Junk.alloc | with_reducible apply Junk.junk | with_reducible apply Junk.drew | with_reducible apply Junk.drewN)); done) | ((try simp only [World.junk_junk, Array.append_assoc]); (repeat (first | with_reducible exact Junk.refl _ | with_reducible exact Junk.app _ _ _ _ _ | with_reducible exact Junk.app2 _ _ _ _ _ _ | with_reducible exact Junk.app3 _ _ _ _ _ _ _ | with_reducible exact Junk.app4 _ _ _ _ _ _ _ _ | with_reducible exact Junk.app5 _ _ _ _ _ _ _ _ _ | with_reducible apply Junk.alloc | with_reducible apply Junk.junk | with_reducible apply Junk.drew | with_reducible apply Junk.drewN))))))).mono ?_); rintro e w' ⟨o1, c1, rfl, ⟨osk, dk, rfl⟩⟩))
  refine wp_region_junk (by kernel_rfl) (by kernel_rfl) ?_; (repeat (go_big_quiet_step (first | first | (go_at_call 23; first | with_reducible exact Calls.junk_of5 (HNS.out _) | with_reducible exact Calls.junk_of4 (HNS.out _) | with_reducible exact Calls.junk_of3 (HNS.out _) | with_reducible exact Calls.junk_of2 (HNS.out _) | with_reducible exact Calls.junk_of (HNS.out _)) | (go_at_call 23; first | with_reducible exact Calls.junk_of5 (HND.out _) | with_reducible exact Calls.junk_of4 (HND.out _) | with_reducible exact Calls.junk_of3 (HND.out _) | with_reducible exact Calls.junk_of2 (HND.out _) | with_reducible exact Calls.junk_of (HND.out _)) | (go_at_call 23; first | with_reducible exact Calls.junk_of5 (HNB.out _) | with_reducible exact Calls.junk_of4 (HNB.out _) | with_reducible exact Calls.junk_of3 (HNB.out _) | with_reducible exact Calls.junk_of2 (HNB.out _) | with_reducible exact Calls.junk_of (HNB.out _))))); refine wpQuiet_nil ?_; rintro _ ⟨⟨osq21, dq21⟩, rfl⟩
  go_upto_region 30 with (first | fail)
  generalize hT : (⟨#[117, 100, 112, 32]⟩ ++ S1 ++ ⟨#[58]⟩ ++ NS ++ ⟨#[32, 62, 32]⟩ ++ S2 ++ ⟨#[58]⟩ ++ ND ++ ⟨#[32, 108, 101, 110, 32]⟩ ++ NB) = T
  have hT2 : T = joinS (headW p) tSP := by rw [← hT]; exact HEQ.out
  have hTs : T.size ≤ 100000000 := by rw [hT2]; exact HLS.out
  obtain ⟨zt2, zt3⟩ := HZ.out T hTs
  have HT3 := Lib.hid (HTT.out T hT2)
  clear hT hT2 hTs
  cases hdf : p.df with
  | true =>
    have HF := Lib.hid (show joinS (lineW p) tSP = T ++ (⟨#[32, 116, 116, 108, 32]⟩ ++ NT) ++ ⟨#[32, 100, 102]⟩ by
      rw [HT3.out]; unfold lineW; rw [hdf, if_pos rfl, joinS_app (by simp), tail_one]; rfl)
    go_wp2_with (first | (go_at_call 23; (with_reducible refine (HNT.out _).mono ?_); rintro e w' ⟨rfl, ⟨osj, dj, rfl⟩⟩))
    go_returns
    exact ⟨by rw [HE, HF.out]; rfl, by (first | ((repeat (first | with_reducible exact Junk.refl _ | with_reducible exact Junk.app _ _ _ _ _ | with_reducible apply Junk.alloc | with_reducible apply Junk.junk | with_reducible apply Junk.drew | with_reducible apply Junk.drewN)); done) | ((try simp only [World.junk_junk, Array.append_assoc]); (repeat (first | with_reducible exact Junk.refl _ | with_reducible exact Junk.app _ _ _ _ _ | with_reducible exact Junk.app2 _ _ _ _ _ _ | with_reducible exact Junk.app3 _ _ _ _ _ _ _ | with_reducible exact Junk.app4 _ _ _ _ _ _ _ _ | with_reducible exact Junk.app5 _ _ _ _ _ _ _ _ _ | with_reducible apply Junk.alloc | with_reducible apply Junk.junk | with_reducible apply Junk.drew | with_reducible apply Junk.drewN))))⟩
  | false =>
    have HF := Lib.hid (show joinS (lineW p) tSP = T ++ (⟨#[32, 116, 116, 108, 32]⟩ ++ NT) by
      rw [HT3.out]; unfold lineW; rw [hdf, if_neg (by decide), List.append_nil])
    go_wp2_with (first | (go_at_call 23; (with_reducible refine (HNT.out _).mono ?_); rintro e w' ⟨rfl, ⟨osj, dj, rfl⟩⟩))
    go_returns
    exact ⟨by rw [HE, HF.out]; rfl, by (first | ((repeat (first | with_reducible exact Junk.refl _ | with_reducible exact Junk.app _ _ _ _ _ | with_reducible apply Junk.alloc | with_reducible apply Junk.junk | with_reducible apply Junk.drew | with_reducible apply Junk.drewN)); done) | ((try simp only [World.junk_junk, Array.append_assoc]); (repeat (first | with_reducible exact Junk.refl _ | with_reducible exact Junk.app _ _ _ _ _ | with_reducible exact Junk.app2 _ _ _ _ _ _ | with_reducible exact Junk.app3 _ _ _ _ _ _ _ | with_reducible exact Junk.app4 _ _ _ _ _ _ _ _ | with_reducible exact Junk.app5 _ _ _ _ _ _ _ _ _ | with_reducible apply Junk.alloc | with_reducible apply Junk.junk | with_reducible apply Junk.drew | with_reducible apply Junk.drewN))))⟩
set_option maxRecDepth 100000 in
set_option maxHeartbeats 32000000 in
theorem rline_udp1 (oa : Option Addr) (l c : Nat) (xs : Nat → Int) (w : World) (hl : l ≤ 100000000) (hB : Bts w oa l c xs) (h0 : parseErr xs l = 0) (hmf : (parseIp xs).mf = false) (hof : ¬ 0 < (parseIp xs).off) (hpr : (parseIp xs).proto = 17) (hz0 : udpErr (parseIp xs).src (parseIp xs).dst (parseIp xs).body (parseIp xs).bl = 0) (hns : (uChk (parseIp xs).body == 0) = true) :
    Calls Tryd.prog 8 #[.slice oa l c] w fun e w' => e = .returned (.string (lineS xs l)) ∧ Junk w w' := by
  have HB := Lib.hid hB
  have hbd := parse_bd h0 hB.byte hl
  have HPS := fun w1 (hb : Bts w1 oa l c xs) => (ipRParse_any oa l c xs w1 hl hb).mono fun e w' hq => show ∃ (oo ob : Option Addr) (oc bc : Nat), e = .returned (.tuple #[.agg #[.int .i64 (parseIp xs).tos, .int .i64 (parseIp xs).id, .bool (parseIp xs).df, .bool (parseIp xs).mf, .int .i64 (parseIp xs).off, .int .i64 (parseIp xs).ttl, .int .i64 (parseIp xs).proto, .int .u32 (parseIp xs).src, .int .u32 (parseIp xs).dst, .slice oo (parseIp xs).ol oc, .slice ob (parseIp xs).bl bc], .int .i64 0]) ∧ Junk w1 w' ∧ IpAt w' (parseIp xs) oo oc ob bc by
    obtain ⟨p, oo, ob, oc, bc, rfl, hj, hP, ⟨_, rfl⟩ | ⟨h1, _⟩⟩ := hq
    · exact ⟨oo, ob, oc, bc, by rw [h0], hj, hP⟩
    · exact absurd h0 h1
  have HE : lineS xs l = joinS (lineW (parseIp xs)) tSP := by unfold lineS; rw [if_pos h0]
  obtain ⟨p, hp⟩ : ∃ p, parseIp xs = p := ⟨_, rfl⟩
  rw [hp] at hbd HPS HE hmf hof hpr hz0 hns
  have HPS := Lib.hid HPS
  have HBD := Lib.hid hbd
  have b1 := hbd.id; have b2 := hbd.off; have b3 := hbd.ttl; have b4 := hbd.proto; have b5 := hbd.bl
  have HA1 := Lib.hid (fun w1 => radr_any p.src hbd.src w1)
  have HA2 := Lib.hid (fun w1 => radr_any p.dst hbd.dst w1)
  have HNP := Lib.hid (fun w1 => rnum_any p.proto (by omega) w1)
  have HNL := Lib.hid (fun w1 => rnum_any (p.bl : Int) (by omega) w1)
  have HNT := Lib.hid (fun w1 => rnum_any p.ttl (by omega) w1)
  have q1 := adrS_size hbd.src; have q2 := adrS_size hbd.dst
  have q3 := itoaS_size (n := p.proto) (by omega); have q4 := itoaS_size (n := (p.bl : Int)) (by omega); have q5 := itoaS_size (n := p.ttl) (by omega)
  obtain ⟨S1, hS1⟩ : ∃ s, adrS p.src = s := ⟨_, rfl⟩
  obtain ⟨S2, hS2⟩ : ∃ s, adrS p.dst = s := ⟨_, rfl⟩
  obtain ⟨NP, hNP⟩ : ∃ s, itoaS p.proto = s := ⟨_, rfl⟩
  obtain ⟨NL, hNL⟩ : ∃ s, itoaS (p.bl : Int) = s := ⟨_, rfl⟩
  obtain ⟨NT, hNT⟩ : ∃ s, itoaS p.ttl = s := ⟨_, rfl⟩
  rw [hS1] at HA1 q1
  rw [hS2] at HA2 q2
  rw [hNP] at HNP q3
  rw [hNL] at HNL q4
  rw [hNT] at HNT q5
  have h8 : 8 ≤ p.bl ∧ uSize p.body ≤ p.bl := by
    have h0 := hz0
    unfold udpErr at h0
    split at h0
    · cases h0
    · split at h0
      · cases h0
      · omega
  have x0 := hbd.body 0 (by omega); have x1 := hbd.body 1 (by omega); have x2 := hbd.body 2 (by omega); have x3 := hbd.body 3 (by omega)
  have hbw : bodyW p = some (udpW p.src p.dst (p.body 0 * 256 + p.body 1) (p.body 2 * 256 + p.body 3) (uSize p.body - 8) true) := by unfold bodyW; rw [if_neg (by omega), if_pos hpr, if_pos hz0, hns]
  have HTP := fun ob bc w1 (hb : Bts w1 ob p.bl bc p.body) => (ruparse_any p.src p.dst ob p.bl bc p.body w1 hbd.src hbd.dst hbd.bl hb).mono fun e w' hq => show ∃ (o1 : Option Addr) (c1 : Nat), e = .returned (.tuple #[.agg #[.int .i64 (p.body 0 * 256 + p.body 1), .int .i64 (p.body 2 * 256 + p.body 3), .bool true, .slice o1 (uSize p.body - 8) c1], .int .i64 0]) ∧ Junk w1 w' by
    obtain ⟨hj, ⟨h1, _⟩ | ⟨_, o1, c1, hb, rfl⟩⟩ := hq
    · exact absurd hz0 h1
    · exact ⟨o1, c1, by rw [hns], hj⟩
  obtain ⟨sp, hsp⟩ : ∃ t, p.body 0 * 256 + p.body 1 = t := ⟨_, rfl⟩
  obtain ⟨dp, hdp⟩ : ∃ c, p.body 2 * 256 + p.body 3 = c := ⟨_, rfl⟩
  obtain ⟨n, hn⟩ : ∃ n, uSize p.body - 8 = n := ⟨_, rfl⟩
  rw [hsp, hdp, hn] at hbw HTP
  have hnb : n ≤ 100000000 := by omega
  have HTP := Lib.hid HTP
  rw [hpr] at HNP
  have hp6 : (p.proto == 6) = false := by simp [hpr]
  have hp17 : (p.proto == 17) = true := by simp [hpr]
  have hp1 : (p.proto == 1) = false := by simp [hpr]
  have HNS := Lib.hid (fun w1 => rnum_any sp (by omega) w1)
  have q6 := itoaS_size (n := sp) (by omega)
  obtain ⟨NS, hNS⟩ : ∃ s, itoaS sp = s := ⟨_, rfl⟩
  rw [hNS] at HNS q6
  have HND := Lib.hid (fun w1 => rnum_any dp (by omega) w1)
  have q7 := itoaS_size (n := dp) (by omega)
  obtain ⟨ND, hND⟩ : ∃ s, itoaS dp = s := ⟨_, rfl⟩
  rw [hND] at HND q7
  have HNB := Lib.hid (fun w1 => rnum_any (n : Int) (by omega) w1)
  have q8 := itoaS_size (n := (n : Int)) (by omega)
  obtain ⟨NB, hNB⟩ : ∃ s, itoaS (n : Int) = s := ⟨_, rfl⟩
  rw [hNB] at HNB q8
  clear hsp hdp hn h8 x0 x1 x2 x3
  have zb1 : ¬ 9223372036854775807 < 4 + S1.size := by omega
  have zb2 : ¬ 9223372036854775807 < 4 + S1.size + 1 := by omega
  have zb3 : ¬ 9223372036854775807 < 4 + S1.size + 1 + NS.size := by omega
  have zb4 : ¬ 9223372036854775807 < 4 + S1.size + 1 + NS.size + 3 := by omega
  have zb5 : ¬ 9223372036854775807 < 4 + S1.size + 1 + NS.size + 3 + S2.size := by omega
  have zb6 : ¬ 9223372036854775807 < 4 + S1.size + 1 + NS.size + 3 + S2.size + 1 := by omega
  have zb7 : ¬ 9223372036854775807 < 4 + S1.size + 1 + NS.size + 3 + S2.size + 1 + ND.size := by omega
  have zb8 : ¬ 9223372036854775807 < 4 + S1.size + 1 + NS.size + 3 + S2.size + 1 + ND.size + 5 := by omega
  have zb9 : ¬ 9223372036854775807 < 4 + S1.size + 1 + NS.size + 3 + S2.size + 1 + ND.size + 5 + NB.size := by omega
  have zb10 : ¬ 9223372036854775807 < 4 + S1.size + 1 + NS.size + 3 + S2.size + 1 + ND.size + 5 + NB.size + 6 := by omega
  have za1 : ¬ 9223372036854775807 < 3 + S1.size := by omega
  have za2 : ¬ 9223372036854775807 < 3 + S1.size + 3 := by omega
  have za3 : ¬ 9223372036854775807 < 3 + S1.size + 3 + S2.size := by omega
  have za4 : ¬ 9223372036854775807 < 3 + S1.size + 3 + S2.size + 7 := by omega
  have za5 : ¬ 9223372036854775807 < 3 + S1.size + 3 + S2.size + 7 + NP.size := by omega
  have za6 : ¬ 9223372036854775807 < 3 + S1.size + 3 + S2.size + 7 + NP.size + 5 := by omega
  have za7 : ¬ 9223372036854775807 < 3 + S1.size + 3 + S2.size + 7 + NP.size + 5 + NL.size := by omega
  have zt1 : ¬ 9223372036854775807 < 5 + NT.size := by omega
  have HZ := Lib.hid (fun (T : ByteArray) (hT : T.size ≤ 100000000) => show ¬ 9223372036854775807 < T.size + (5 + NT.size) ∧ ¬ 9223372036854775807 < T.size + (5 + NT.size) + 3 by omega)
  have HLS := Lib.hid (joinS_size (headW_sm hbd))
  have HEQ := Lib.hid (show (⟨#[117, 100, 112, 32]⟩ ++ S1 ++ ⟨#[58]⟩ ++ NS ++ ⟨#[32, 62, 32]⟩ ++ S2 ++ ⟨#[58]⟩ ++ ND ++ ⟨#[32, 108, 101, 110, 32]⟩ ++ NB ++ ⟨#[32, 110, 111, 115, 117, 109]⟩) = joinS (headW p) tSP from by
    have hpc : ¬ pcB p = true := by unfold pcB; rw [hmf]; simp; omega
    have : headW p = udpW p.src p.dst sp dp n true := by unfold headW; rw [if_neg hpc, hbw]
    rw [this]; unfold udpW sideS; rw [if_pos rfl, hS1, hS2, hNS, hND, hNB]
    apply ByteArray.ext
    simp [joinS, joinL, Lib.join_cons, Lib.joinTail, ByteArray.data_append, tPIECE, tGT, tID, tOFF, tLEN, tSP, tMORE, tIP, tPROTO, tUDP, tNOSUM, tICMP, tTYPE, tCODE, tNAME, sideS])
  have HTT := Lib.hid (show ∀ T, T = joinS (headW p) tSP → T ++ (⟨#[32, 116, 116, 108, 32]⟩ ++ NT) = joinS (headW p ++ [tTTL, itoaS p.ttl]) tSP from fun T hT => by
    rw [hT, hNT, joinS_app (headW_ne p), tail_two]; rfl)
  clear hB hbd h0 hp hl hS1 hS2 hNP hNL hNT q1 q2 q3 q4 q5
  go_enter Tryd.func8, Tryd.ntmps8
  go_upto_region 4 with (first | (go_at_call 22; (with_reducible refine (HPS.out _ (HB.out.on (by (first | ((repeat (first | with_reducible exact Junk.refl _ | with_reducible exact Junk.app _ _ _ _ _ | with_reducible apply Junk.alloc | with_reducible apply Junk.junk | with_reducible apply Junk.drew | with_reducible apply Junk.drewN)); done) | ((try simp only [World.junk_junk, Array.append_assoc]); (repeat (first | with_reducible exact Junk.refl _ | with_reducible exact Junk.app _ _ _ _ _ | with_reducible exact Junk.app2 _ _ _ _ _ _ | with_reducible exact Junk.app3 _ _ _ _ _ _ _ | with_reducible exact Junk.app4 _ _ _ _ _ _ _ _ | with_reducible exact Junk.app5 _ _ _ _ _ _ _ _ _ | with_reducible apply Junk.alloc | with_reducible apply Junk.junk | with_reducible apply Junk.drew | with_reducible apply Junk.drewN))))))).mono ?_); rintro e w' ⟨oo, ob, oc, bc, rfl, ⟨osj, dj, rfl⟩, hP⟩; have HP := Lib.hid hP; clear hP))
  refine wp_region_junk (by kernel_rfl) (by kernel_rfl) ?_; (repeat (go_big_quiet_step (first | first | (go_at_call 10; first | with_reducible exact Calls.junk_of5 (HA1.out _) | with_reducible exact Calls.junk_of4 (HA1.out _) | with_reducible exact Calls.junk_of3 (HA1.out _) | with_reducible exact Calls.junk_of2 (HA1.out _) | with_reducible exact Calls.junk_of (HA1.out _)) | (go_at_call 10; first | with_reducible exact Calls.junk_of5 (HA2.out _) | with_reducible exact Calls.junk_of4 (HA2.out _) | with_reducible exact Calls.junk_of3 (HA2.out _) | with_reducible exact Calls.junk_of2 (HA2.out _) | with_reducible exact Calls.junk_of (HA2.out _))))); refine wpQuiet_nil ?_; rintro _ ⟨⟨osq4, dq4⟩, rfl⟩
  go_upto_region 5 with (first | fail)
  refine wp_region_junk (by kernel_rfl) (by kernel_rfl) ?_; (repeat (go_big_quiet_step (first | first | (go_at_call 23; first | with_reducible exact Calls.junk_of5 (HNP.out _) | with_reducible exact Calls.junk_of4 (HNP.out _) | with_reducible exact Calls.junk_of3 (HNP.out _) | with_reducible exact Calls.junk_of2 (HNP.out _) | with_reducible exact Calls.junk_of (HNP.out _)) | (go_at_call 23; first | with_reducible exact Calls.junk_of5 (HNL.out _) | with_reducible exact Calls.junk_of4 (HNL.out _) | with_reducible exact Calls.junk_of3 (HNL.out _) | with_reducible exact Calls.junk_of2 (HNL.out _) | with_reducible exact Calls.junk_of (HNL.out _))))); refine wpQuiet_nil ?_; rintro _ ⟨⟨osq5, dq5⟩, rfl⟩
  go_upto_region 21 with (first | (go_at_call 26; (with_reducible refine (HTP.out _ _ _ (HP.out.body.on (by (first | ((repeat (first | with_reducible exact Junk.refl _ | with_reducible exact Junk.app _ _ _ _ _ | with_reducible apply Junk.alloc | with_reducible apply Junk.junk | with_reducible apply Junk.drew | with_reducible apply Junk.drewN)); done) | ((try simp only [World.junk_junk, Array.append_assoc]); (repeat (first | with_reducible exact Junk.refl _ | with_reducible exact Junk.app _ _ _ _ _ | with_reducible exact Junk.app2 _ _ _ _ _ _ | with_reducible exact Junk.app3 _ _ _ _ _ _ _ | with_reducible exact Junk.app4 _ _ _ _ _ _ _ _ | with_reducible exact Junk.app5 _ _ _ _ _ _ _ _ _ | with_reducible apply Junk.alloc | with_reducible apply Junk.junk | with_reducible apply Junk.drew | with_reducible apply Junk.drewN))))))).mono ?_); rintro e w' ⟨o1, c1, rfl, ⟨osk, dk, rfl⟩⟩))
  refine wp_region_junk (by kernel_rfl) (by kernel_rfl) ?_; (repeat (go_big_quiet_step (first | first | (go_at_call 23; first | with_reducible exact Calls.junk_of5 (HNS.out _) | with_reducible exact Calls.junk_of4 (HNS.out _) | with_reducible exact Calls.junk_of3 (HNS.out _) | with_reducible exact Calls.junk_of2 (HNS.out _) | with_reducible exact Calls.junk_of (HNS.out _)) | (go_at_call 23; first | with_reducible exact Calls.junk_of5 (HND.out _) | with_reducible exact Calls.junk_of4 (HND.out _) | with_reducible exact Calls.junk_of3 (HND.out _) | with_reducible exact Calls.junk_of2 (HND.out _) | with_reducible exact Calls.junk_of (HND.out _)) | (go_at_call 23; first | with_reducible exact Calls.junk_of5 (HNB.out _) | with_reducible exact Calls.junk_of4 (HNB.out _) | with_reducible exact Calls.junk_of3 (HNB.out _) | with_reducible exact Calls.junk_of2 (HNB.out _) | with_reducible exact Calls.junk_of (HNB.out _))))); refine wpQuiet_nil ?_; rintro _ ⟨⟨osq21, dq21⟩, rfl⟩
  go_upto_region 30 with (first | fail)
  generalize hT : (⟨#[117, 100, 112, 32]⟩ ++ S1 ++ ⟨#[58]⟩ ++ NS ++ ⟨#[32, 62, 32]⟩ ++ S2 ++ ⟨#[58]⟩ ++ ND ++ ⟨#[32, 108, 101, 110, 32]⟩ ++ NB ++ ⟨#[32, 110, 111, 115, 117, 109]⟩) = T
  have hT2 : T = joinS (headW p) tSP := by rw [← hT]; exact HEQ.out
  have hTs : T.size ≤ 100000000 := by rw [hT2]; exact HLS.out
  obtain ⟨zt2, zt3⟩ := HZ.out T hTs
  have HT3 := Lib.hid (HTT.out T hT2)
  clear hT hT2 hTs
  cases hdf : p.df with
  | true =>
    have HF := Lib.hid (show joinS (lineW p) tSP = T ++ (⟨#[32, 116, 116, 108, 32]⟩ ++ NT) ++ ⟨#[32, 100, 102]⟩ by
      rw [HT3.out]; unfold lineW; rw [hdf, if_pos rfl, joinS_app (by simp), tail_one]; rfl)
    go_wp2_with (first | (go_at_call 23; (with_reducible refine (HNT.out _).mono ?_); rintro e w' ⟨rfl, ⟨osj, dj, rfl⟩⟩))
    go_returns
    exact ⟨by rw [HE, HF.out]; rfl, by (first | ((repeat (first | with_reducible exact Junk.refl _ | with_reducible exact Junk.app _ _ _ _ _ | with_reducible apply Junk.alloc | with_reducible apply Junk.junk | with_reducible apply Junk.drew | with_reducible apply Junk.drewN)); done) | ((try simp only [World.junk_junk, Array.append_assoc]); (repeat (first | with_reducible exact Junk.refl _ | with_reducible exact Junk.app _ _ _ _ _ | with_reducible exact Junk.app2 _ _ _ _ _ _ | with_reducible exact Junk.app3 _ _ _ _ _ _ _ | with_reducible exact Junk.app4 _ _ _ _ _ _ _ _ | with_reducible exact Junk.app5 _ _ _ _ _ _ _ _ _ | with_reducible apply Junk.alloc | with_reducible apply Junk.junk | with_reducible apply Junk.drew | with_reducible apply Junk.drewN))))⟩
  | false =>
    have HF := Lib.hid (show joinS (lineW p) tSP = T ++ (⟨#[32, 116, 116, 108, 32]⟩ ++ NT) by
      rw [HT3.out]; unfold lineW; rw [hdf, if_neg (by decide), List.append_nil])
    go_wp2_with (first | (go_at_call 23; (with_reducible refine (HNT.out _).mono ?_); rintro e w' ⟨rfl, ⟨osj, dj, rfl⟩⟩))
    go_returns
    exact ⟨by rw [HE, HF.out]; rfl, by (first | ((repeat (first | with_reducible exact Junk.refl _ | with_reducible exact Junk.app _ _ _ _ _ | with_reducible apply Junk.alloc | with_reducible apply Junk.junk | with_reducible apply Junk.drew | with_reducible apply Junk.drewN)); done) | ((try simp only [World.junk_junk, Array.append_assoc]); (repeat (first | with_reducible exact Junk.refl _ | with_reducible exact Junk.app _ _ _ _ _ | with_reducible exact Junk.app2 _ _ _ _ _ _ | with_reducible exact Junk.app3 _ _ _ _ _ _ _ | with_reducible exact Junk.app4 _ _ _ _ _ _ _ _ | with_reducible exact Junk.app5 _ _ _ _ _ _ _ _ _ | with_reducible apply Junk.alloc | with_reducible apply Junk.junk | with_reducible apply Junk.drew | with_reducible apply Junk.drewN))))⟩
end Go.Proofs.YtfkhnhenemgcmaaDoor
