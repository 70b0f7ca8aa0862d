/- The reference's line: segments. -/
import Derived.Test.YtfkhnhenemgcmaaDoorDuM
import Derived.Test.YtfkhnhenemgcmaaDoorTcpG
set_option linter.unusedVariables false
set_option maxRecDepth 100000
set_option linter.unusedSimpArgs false
namespace Go.Proofs.YtfkhnhenemgcmaaDoor
open Go.RowKit
theorem z13 (s1s nss s2s nds fls nqs nas nws nbs : Nat) (h : s1s ≤ 1000 ∧ nss ≤ 1000 ∧ s2s ≤ 1000 ∧ nds ≤ 1000 ∧ fls ≤ 1000 ∧ nqs ≤ 1000 ∧ nas ≤ 1000 ∧ nws ≤ 1000 ∧ nbs ≤ 1000) : ¬ 9223372036854775807 < 4 + s1s ∧ ¬ 9223372036854775807 < 4 + s1s + 1 ∧ ¬ 9223372036854775807 < 4 + s1s + 1 + nss ∧ ¬ 9223372036854775807 < 4 + s1s + 1 + nss + 3 ∧ ¬ 9223372036854775807 < 4 + s1s + 1 + nss + 3 + s2s ∧ ¬ 9223372036854775807 < 4 + s1s + 1 + nss + 3 + s2s + 1 ∧ ¬ 9223372036854775807 < 4 + s1s + 1 + nss + 3 + s2s + 1 + nds ∧ ¬ 9223372036854775807 < 4 + s1s + 1 + nss + 3 + s2s + 1 + nds + 1 ∧ ¬ 9223372036854775807 < 4 + s1s + 1 + nss + 3 + s2s + 1 + nds + 1 + fls ∧ ¬ 9223372036854775807 < 4 + s1s + 1 + nss + 3 + s2s + 1 + nds + 1 + fls + 5 ∧ ¬ 9223372036854775807 < 4 + s1s + 1 + nss + 3 + s2s + 1 + nds + 1 + fls + 5 + nqs ∧ ¬ 9223372036854775807 < 4 + s1s + 1 + nss + 3 + s2s + 1 + nds + 1 + fls + 5 + nqs + 5 ∧ ¬ 9223372036854775807 < 4 + s1s + 1 + nss + 3 + s2s + 1 + nds + 1 + fls + 5 + nqs + 5 + nas ∧ ¬ 9223372036854775807 < 4 + s1s + 1 + nss + 3 + s2s + 1 + nds + 1 + fls + 5 + nqs + 5 + nas + 5 ∧ ¬ 9223372036854775807 < 4 + s1s + 1 + nss + 3 + s2s + 1 + nds + 1 + fls + 5 + nqs + 5 + nas + 5 + nws ∧ ¬ 9223372036854775807 < 4 + s1s + 1 + nss + 3 + s2s + 1 + nds + 1 + fls + 5 + nqs + 5 + nas + 5 + nws + 5 ∧ ¬ 9223372036854775807 < 4 + s1s + 1 + nss + 3 + s2s + 1 + nds + 1 + fls + 5 + nqs + 5 + nas + 5 + nws + 5 + nbs :=
  ⟨by omega, by omega, by omega, by omega, by omega, by omega, by omega, by omega, by omega, by omega, by omega, by omega, by omega, by omega, by omega, by omega, by omega⟩
set_option maxRecDepth 100000 in
set_option maxHeartbeats 32000000 in
theorem rline_tcp (oa : Option Addr) (l c : Nat) (xs : Nat → Int) (w : World) (hl : l ≤ 100000000) (hB : Bts w oa l c xs) (h0 : parseErr xs l = 0) (hmf : (parseIp xs).mf = false) (hof : ¬ 0 < (parseIp xs).off) (hpr : (parseIp xs).proto = 6) (hz0 : tcpErr (parseIp xs).src (parseIp xs).dst (parseIp xs).body (parseIp xs).bl = 0) :
    Calls Tryd.prog 8 #[.slice oa l c] w fun e w' => e = .returned (.string (lineS xs l)) ∧ Junk w w' := by
  have HB := Lib.hid hB
  have hbd := parse_bd h0 hB.byte hl
  have HPS := fun w1 (hb : Bts w1 oa l c xs) => (ipRParse_any oa l c xs w1 hl hb).mono fun e w' hq => show ∃ (oo ob : Option Addr) (oc bc : Nat), e = .returned (.tuple #[.agg #[.int .i64 (parseIp xs).tos, .int .i64 (parseIp xs).id, .bool (parseIp xs).df, .bool (parseIp xs).mf, .int .i64 (parseIp xs).off, .int .i64 (parseIp xs).ttl, .int .i64 (parseIp xs).proto, .int .u32 (parseIp xs).src, .int .u32 (parseIp xs).dst, .slice oo (parseIp xs).ol oc, .slice ob (parseIp xs).bl bc], .int .i64 0]) ∧ Junk w1 w' ∧ IpAt w' (parseIp xs) oo oc ob bc by
    obtain ⟨p, oo, ob, oc, bc, rfl, hj, hP, ⟨_, rfl⟩ | ⟨h1, _⟩⟩ := hq
    · exact ⟨oo, ob, oc, bc, by rw [h0], hj, hP⟩
    · exact absurd h0 h1
  have HE : lineS xs l = joinS (lineW (parseIp xs)) tSP := by unfold lineS; rw [if_pos h0]
  obtain ⟨p, hp⟩ : ∃ p, parseIp xs = p := ⟨_, rfl⟩
  rw [hp] at hbd HPS HE hmf hof hpr hz0
  have HPS := Lib.hid HPS
  have HBD := Lib.hid hbd
  have b1 := hbd.id; have b2 := hbd.off; have b3 := hbd.ttl; have b4 := hbd.proto; have b5 := hbd.bl
  have HA1 := Lib.hid (fun w1 => radr_any p.src hbd.src w1)
  have HA2 := Lib.hid (fun w1 => radr_any p.dst hbd.dst w1)
  have HNP := Lib.hid (fun w1 => rnum_any p.proto (by omega) w1)
  have HNL := Lib.hid (fun w1 => rnum_any (p.bl : Int) (by omega) w1)
  have HNT := Lib.hid (fun w1 => rnum_any p.ttl (by omega) w1)
  have q1 := adrS_size hbd.src; have q2 := adrS_size hbd.dst
  have q3 := itoaS_size (n := p.proto) (by omega); have q4 := itoaS_size (n := (p.bl : Int)) (by omega); have q5 := itoaS_size (n := p.ttl) (by omega)
  obtain ⟨S1, hS1⟩ : ∃ s, adrS p.src = s := ⟨_, rfl⟩
  obtain ⟨S2, hS2⟩ : ∃ s, adrS p.dst = s := ⟨_, rfl⟩
  obtain ⟨NP, hNP⟩ : ∃ s, itoaS p.proto = s := ⟨_, rfl⟩
  obtain ⟨NL, hNL⟩ : ∃ s, itoaS (p.bl : Int) = s := ⟨_, rfl⟩
  obtain ⟨NT, hNT⟩ : ∃ s, itoaS p.ttl = s := ⟨_, rfl⟩
  rw [hS1] at HA1 q1
  rw [hS2] at HA2 q2
  rw [hNP] at HNP q3
  rw [hNL] at HNL q4
  rw [hNT] at HNT q5
  obtain ⟨hbd2, hlen, hks⟩ := tcp_bd hz0 hbd.body hbd.bl
  have hbw : bodyW p = some (tcpW p.src p.dst (tcpTc p.body p.bl) ((tcpTc p.body p.bl).os.map Od.k)) := by unfold bodyW; rw [if_pos hpr, if_pos hz0]
  have HTP := fun ob bc w1 (hb : Bts w1 ob p.bl bc p.body) => (rtparse_any p.src p.dst ob p.bl bc p.body w1 hbd.src hbd.dst hbd.bl hb).mono fun e w' hq => show ∃ (F : List Ot) (N : Nat) (o1 : Option Addr) (c1 : Nat) (o2 : Option Addr) (c2 : Nat), e = .returned (.tuple #[.agg #[.int .i64 (tcpTc p.body p.bl).sport, .int .i64 (tcpTc p.body p.bl).dport, .int .u32 (tcpTc p.body p.bl).seq, .int .u32 (tcpTc p.body p.bl).ack, .int .i64 (tcpTc p.body p.bl).flags, .int .i64 (tcpTc p.body p.bl).win, .int .i64 (tcpTc p.body p.bl).urg, .slice o1 N c1, .slice o2 (tcpTc p.body p.bl).bl c2], .int .i64 0]) ∧ Junk w1 w' ∧ F.length = N ∧ F.map Ot.d = (tcpTc p.body p.bl).os ∧ OsAt w' o1 F by
    obtain ⟨hj, ⟨h1, _⟩ | ⟨_, F, o1, c1, o2, c2, hF, hT, rfl⟩⟩ := hq
    · exact absurd hz0 h1
    · exact ⟨F, F.length, o1, c1, o2, c2, rfl, hj, rfl, hF, hT.os⟩
  obtain ⟨U, hU⟩ : ∃ U, tcpTc p.body p.bl = U := ⟨_, rfl⟩
  rw [hU] at hbd2 hlen hks hbw HTP
  have HTP := Lib.hid HTP
  have c1 := hbd2.sp; have c2 := hbd2.dp; have c3 := hbd2.sq; have c4 := hbd2.ak; have c5 := hbd2.wi; have c6 := hbd2.bl
  have HFL := Lib.hid (fun w1 => rletters_any U.flags hbd2.fl w1)
  have q14 : (flagsS U.flags).size ≤ 200 := flagsS_sm _
  obtain ⟨FL, hFL⟩ : ∃ s, flagsS U.flags = s := ⟨_, rfl⟩
  rw [hFL] at HFL q14
  have pw1 := wrapk_i64 U.seq (by omega) (by omega)
  have pw2 := wrapk_i64 U.ack (by omega) (by omega)
  rw [hpr] at HNP
  have hp6 : (p.proto == 6) = true := by simp [hpr]
  have hp17 : (p.proto == 17) = false := by simp [hpr]
  have hp1 : (p.proto == 1) = false := by simp [hpr]
  have HNS := Lib.hid (fun w1 => rnum_any U.sport (by omega) w1)
  have q6 := itoaS_size (n := U.sport) (by omega)
  obtain ⟨NS, hNS⟩ : ∃ s, itoaS U.sport = s := ⟨_, rfl⟩
  rw [hNS] at HNS q6
  have HND := Lib.hid (fun w1 => rnum_any U.dport (by omega) w1)
  have q7 := itoaS_size (n := U.dport) (by omega)
  obtain ⟨ND, hND⟩ : ∃ s, itoaS U.dport = s := ⟨_, rfl⟩
  rw [hND] at HND q7
  have HNQ := Lib.hid (fun w1 => rnum_any U.seq (by omega) w1)
  have q8 := itoaS_size (n := U.seq) (by omega)
  obtain ⟨NQ, hNQ⟩ : ∃ s, itoaS U.seq = s := ⟨_, rfl⟩
  rw [hNQ] at HNQ q8
  have HNA := Lib.hid (fun w1 => rnum_any U.ack (by omega) w1)
  have q9 := itoaS_size (n := U.ack) (by omega)
  obtain ⟨NA, hNA⟩ : ∃ s, itoaS U.ack = s := ⟨_, rfl⟩
  rw [hNA] at HNA q9
  have HNW := Lib.hid (fun w1 => rnum_any U.win (by omega) w1)
  have q10 := itoaS_size (n := U.win) (by omega)
  obtain ⟨NW, hNW⟩ : ∃ s, itoaS U.win = s := ⟨_, rfl⟩
  rw [hNW] at HNW q10
  have HNB := Lib.hid (fun w1 => rnum_any (U.bl : Int) (by omega) w1)
  have q11 := itoaS_size (n := (U.bl : Int)) (by omega)
  obtain ⟨NB, hNB⟩ : ∃ s, itoaS (U.bl : Int) = s := ⟨_, rfl⟩
  rw [hNB] at HNB q11
  have HKS := Lib.hid hks
  have HLEN := Lib.hid hlen
  obtain ⟨zb1, zb2, zb3, zb4, zb5, zb6, zb7, zb8, zb9, zb10, zb11, zb12, zb13, zb14, zb15, zb16, zb17⟩ := z13 S1.size NS.size S2.size ND.size FL.size NQ.size NA.size NW.size NB.size (by refine ⟨?_, ?_, ?_, ?_, ?_, ?_, ?_, ?_, ?_⟩ <;> omega)
  obtain ⟨B, hB0⟩ : ∃ B, B = [tTCP, sideS p.src U.sport, tGT, sideS p.dst U.dport, flagsS U.flags] ++ [tSEQ, itoaS U.seq, tACK, itoaS U.ack] ++ [tWIN, itoaS U.win] ++ [tLEN, itoaS (U.bl : Int)] := ⟨_, rfl⟩
  have HBE := Lib.hid (show (⟨#[116, 99, 112, 32]⟩ ++ S1 ++ ⟨#[58]⟩ ++ NS ++ ⟨#[32, 62, 32]⟩ ++ S2 ++ ⟨#[58]⟩ ++ ND ++ ⟨#[32]⟩ ++ FL ++ ⟨#[32, 115, 101, 113, 32]⟩ ++ NQ ++ ⟨#[32, 97, 99, 107, 32]⟩ ++ NA ++ ⟨#[32, 119, 105, 110, 32]⟩ ++ NW ++ ⟨#[32, 108, 101, 110, 32]⟩ ++ NB) = joinS B tSP from by
    rw [hB0]; unfold sideS; rw [hS1, hS2, hNS, hND, hFL, hNQ, hNA, hNW, hNB]
    apply ByteArray.ext
    simp [joinS, joinL, Lib.join_cons, Lib.joinTail, ByteArray.data_append, tTCP, tGT, tSEQ, tACK, tWIN, tLEN, tSP])
  have hBW : tcpW p.src p.dst U (U.os.map Od.k) = B ++ optW (U.os.map Od.k) := by rw [hB0]; rfl
  have HBS := Lib.hid (fun k => show (joinS (B ++ optW ((U.os.map Od.k).take k)) tSP).size ≤ 100000000 from by
    have h1 : SmL 250 (B ++ optW ((U.os.map Od.k).take k)) := by
      have := tcpW_sm hbd.src hbd.dst hbd2 (ks := (U.os.map Od.k).take k) (fun j hj => by
        obtain ⟨f, hf, rfl⟩ := List.mem_map.1 (List.mem_of_mem_take hj)
        exact hks f hf) (by rw [List.length_take, List.length_map]; omega)
      rw [hB0]
      exact this
    exact joinS_size h1)
  have HBN : B ≠ [] := by rw [hB0]; simp
  have HBN := Lib.hid HBN
  clear hU hlen hks hFL hbd2 c1 c2 c3 c4 c5 hB0
  have za1 : ¬ 9223372036854775807 < 3 + S1.size := by omega
  have za2 : ¬ 9223372036854775807 < 3 + S1.size + 3 := by omega
  have za3 : ¬ 9223372036854775807 < 3 + S1.size + 3 + S2.size := by omega
  have za4 : ¬ 9223372036854775807 < 3 + S1.size + 3 + S2.size + 7 := by omega
  have za5 : ¬ 9223372036854775807 < 3 + S1.size + 3 + S2.size + 7 + NP.size := by omega
  have za6 : ¬ 9223372036854775807 < 3 + S1.size + 3 + S2.size + 7 + NP.size + 5 := by omega
  have za7 : ¬ 9223372036854775807 < 3 + S1.size + 3 + S2.size + 7 + NP.size + 5 + NL.size := by omega
  have zt1 : ¬ 9223372036854775807 < 5 + NT.size := by omega
  have HZ := Lib.hid (fun (T : ByteArray) (hT : T.size ≤ 100000000) => show ¬ 9223372036854775807 < T.size + (5 + NT.size) ∧ ¬ 9223372036854775807 < T.size + (5 + NT.size) + 3 by omega)
  have HLS := Lib.hid (joinS_size (headW_sm hbd))
  have HEQ := Lib.hid (show (joinS (B ++ optW (U.os.map Od.k)) tSP) = joinS (headW p) tSP from by
    have hpc : ¬ pcB p = true := by unfold pcB; rw [hmf]; simp; omega
    have : headW p = B ++ optW (U.os.map Od.k) := by unfold headW; rw [if_neg hpc, hbw, ← hBW]
    rw [this])
  have HTT := Lib.hid (show ∀ T, T = joinS (headW p) tSP → T ++ (⟨#[32, 116, 116, 108, 32]⟩ ++ NT) = joinS (headW p ++ [tTTL, itoaS p.ttl]) tSP from fun T hT => by
    rw [hT, hNT, joinS_app (headW_ne p), tail_two]; rfl)
  clear hB hbd h0 hp hl hS1 hS2 hNP hNL hNT q1 q2 q3 q4 q5
  go_enter Tryd.func8, Tryd.ntmps8
  go_upto_region 4 with (first | (go_at_call 22; (with_reducible refine (HPS.out _ (HB.out.on (by (first | ((repeat (first | with_reducible exact Junk.refl _ | with_reducible exact Junk.app _ _ _ _ _ | with_reducible apply Junk.alloc | with_reducible apply Junk.junk | with_reducible apply Junk.drew | with_reducible apply Junk.drewN)); done) | ((try simp only [World.junk_junk, Array.append_assoc]); (repeat (first | with_reducible exact Junk.refl _ | with_reducible exact Junk.app _ _ _ _ _ | with_reducible exact Junk.app2 _ _ _ _ _ _ | with_reducible exact Junk.app3 _ _ _ _ _ _ _ | with_reducible exact Junk.app4 _ _ _ _ _ _ _ _ | with_reducible exact Junk.app5 _ _ _ _ _ _ _ _ _ | with_reducible apply Junk.alloc | with_reducible apply Junk.junk | with_reducible apply Junk.drew | with_reducible apply Junk.drewN))))))).mono ?_); rintro e w' ⟨oo, ob, oc, bc, rfl, ⟨osj, dj, rfl⟩, hP⟩; have HP := Lib.hid hP; clear hP))
  refine wp_region_junk (by kernel_rfl) (by kernel_rfl) ?_; (repeat (go_big_quiet_step (first | first | (go_at_call 10; first | with_reducible exact Calls.junk_of5 (HA1.out _) | with_reducible exact Calls.junk_of4 (HA1.out _) | with_reducible exact Calls.junk_of3 (HA1.out _) | with_reducible exact Calls.junk_of2 (HA1.out _) | with_reducible exact Calls.junk_of (HA1.out _)) | (go_at_call 10; first | with_reducible exact Calls.junk_of5 (HA2.out _) | with_reducible exact Calls.junk_of4 (HA2.out _) | with_reducible exact Calls.junk_of3 (HA2.out _) | with_reducible exact Calls.junk_of2 (HA2.out _) | with_reducible exact Calls.junk_of (HA2.out _))))); refine wpQuiet_nil ?_; rintro _ ⟨⟨osq4, dq4⟩, rfl⟩
  go_upto_region 5 with (first | fail)
  refine wp_region_junk (by kernel_rfl) (by kernel_rfl) ?_; (repeat (go_big_quiet_step (first | first | (go_at_call 23; first | with_reducible exact Calls.junk_of5 (HNP.out _) | with_reducible exact Calls.junk_of4 (HNP.out _) | with_reducible exact Calls.junk_of3 (HNP.out _) | with_reducible exact Calls.junk_of2 (HNP.out _) | with_reducible exact Calls.junk_of (HNP.out _)) | (go_at_call 23; first | with_reducible exact Calls.junk_of5 (HNL.out _) | with_reducible exact Calls.junk_of4 (HNL.out _) | with_reducible exact Calls.junk_of3 (HNL.out _) | with_reducible exact Calls.junk_of2 (HNL.out _) | with_reducible exact Calls.junk_of (HNL.out _))))); refine wpQuiet_nil ?_; rintro _ ⟨⟨osq5, dq5⟩, rfl⟩
  go_upto_region 13 with (first | (go_at_call 24; (with_reducible refine (HTP.out _ _ _ (HP.out.body.on (by (first | ((repeat (first | with_reducible exact Junk.refl _ | with_reducible exact Junk.app _ _ _ _ _ | with_reducible apply Junk.alloc | with_reducible apply Junk.junk | with_reducible apply Junk.drew | with_reducible apply Junk.drewN)); done) | ((try simp only [World.junk_junk, Array.append_assoc]); (repeat (first | with_reducible exact Junk.refl _ | with_reducible exact Junk.app _ _ _ _ _ | with_reducible exact Junk.app2 _ _ _ _ _ _ | with_reducible exact Junk.app3 _ _ _ _ _ _ _ | with_reducible exact Junk.app4 _ _ _ _ _ _ _ _ | with_reducible exact Junk.app5 _ _ _ _ _ _ _ _ _ | with_reducible apply Junk.alloc | with_reducible apply Junk.junk | with_reducible apply Junk.drew | with_reducible apply Junk.drewN))))))).mono ?_); rintro e w' ⟨F, N, o1, c1, o2, c2, rfl, ⟨osk, dk, rfl⟩, hN, hF, hO⟩; (have HO := Lib.hid hO); have HN := Lib.hid hN; have HF0 := Lib.hid hF; clear hO hN hF))
  refine wp_region_junk (by kernel_rfl) (by kernel_rfl) ?_; (repeat (go_big_quiet_step (first | first | (go_at_call 23; first | with_reducible exact Calls.junk_of5 (HNS.out _) | with_reducible exact Calls.junk_of4 (HNS.out _) | with_reducible exact Calls.junk_of3 (HNS.out _) | with_reducible exact Calls.junk_of2 (HNS.out _) | with_reducible exact Calls.junk_of (HNS.out _)) | (go_at_call 23; first | with_reducible exact Calls.junk_of5 (HND.out _) | with_reducible exact Calls.junk_of4 (HND.out _) | with_reducible exact Calls.junk_of3 (HND.out _) | with_reducible exact Calls.junk_of2 (HND.out _) | with_reducible exact Calls.junk_of (HND.out _)) | (go_at_call 25; first | with_reducible exact Calls.junk_of5 (HFL.out _) | with_reducible exact Calls.junk_of4 (HFL.out _) | with_reducible exact Calls.junk_of3 (HFL.out _) | with_reducible exact Calls.junk_of2 (HFL.out _) | with_reducible exact Calls.junk_of (HFL.out _)) | (go_at_call 23; first | with_reducible exact Calls.junk_of5 (HNQ.out _) | with_reducible exact Calls.junk_of4 (HNQ.out _) | with_reducible exact Calls.junk_of3 (HNQ.out _) | with_reducible exact Calls.junk_of2 (HNQ.out _) | with_reducible exact Calls.junk_of (HNQ.out _)) | (go_at_call 23; first | with_reducible exact Calls.junk_of5 (HNA.out _) | with_reducible exact Calls.junk_of4 (HNA.out _) | with_reducible exact Calls.junk_of3 (HNA.out _) | with_reducible exact Calls.junk_of2 (HNA.out _) | with_reducible exact Calls.junk_of (HNA.out _)) | (go_at_call 23; first | with_reducible exact Calls.junk_of5 (HNW.out _) | with_reducible exact Calls.junk_of4 (HNW.out _) | with_reducible exact Calls.junk_of3 (HNW.out _) | with_reducible exact Calls.junk_of2 (HNW.out _) | with_reducible exact Calls.junk_of (HNW.out _)) | (go_at_call 23; first | with_reducible exact Calls.junk_of5 (HNB.out _) | with_reducible exact Calls.junk_of4 (HNB.out _) | with_reducible exact Calls.junk_of3 (HNB.out _) | with_reducible exact Calls.junk_of2 (HNB.out _) | with_reducible exact Calls.junk_of (HNB.out _))))); refine wpQuiet_nil ?_; rintro _ ⟨⟨osq13, dq13⟩, rfl⟩
  generalize hT0 : (⟨#[116, 99, 112, 32]⟩ ++ S1 ++ ⟨#[58]⟩ ++ NS ++ ⟨#[32, 62, 32]⟩ ++ S2 ++ ⟨#[58]⟩ ++ ND ++ ⟨#[32]⟩ ++ FL ++ ⟨#[32, 115, 101, 113, 32]⟩ ++ NQ ++ ⟨#[32, 97, 99, 107, 32]⟩ ++ NA ++ ⟨#[32, 119, 105, 110, 32]⟩ ++ NW ++ ⟨#[32, 108, 101, 110, 32]⟩ ++ NB) = T0
  have HT0 := Lib.hid (hT0.symm.trans HBE.out)
  clear hT0
  go_wp2_with (first | fail)
  have v5 : (((((w.junk osj dj).alloc (.cells #[.int .i64 p.tos, .int .i64 p.id, .bool p.df, .bool false, .int .i64 p.off, .int .i64 p.ttl, .int .i64 6, .int .u32 p.src, .int .u32 p.dst, .slice oo p.ol oc, .slice ob p.bl bc] 29)).junk (osq4 ++ (osq5 ++ osk)) dk).alloc (.cells #[.int .i64 U.sport, .int .i64 U.dport, .int .u32 U.seq, .int .u32 U.ack, .int .i64 U.flags, .int .i64 U.win, .int .i64 U.urg, .slice o1 N c1, .slice o2 U.bl c2] 55)).junk osq13 dq13).cell? ⟨w.heap.size + osj.size, 5, none⟩ = some (.int .i64 p.ttl) := by go_simp
  have v2 : (((((w.junk osj dj).alloc (.cells #[.int .i64 p.tos, .int .i64 p.id, .bool p.df, .bool false, .int .i64 p.off, .int .i64 p.ttl, .int .i64 6, .int .u32 p.src, .int .u32 p.dst, .slice oo p.ol oc, .slice ob p.bl bc] 29)).junk (osq4 ++ (osq5 ++ osk)) dk).alloc (.cells #[.int .i64 U.sport, .int .i64 U.dport, .int .u32 U.seq, .int .u32 U.ack, .int .i64 U.flags, .int .i64 U.win, .int .i64 U.urg, .slice o1 N c1, .slice o2 U.bl c2] 55)).junk osq13 dq13).cell? ⟨w.heap.size + osj.size, 2, none⟩ = some (.bool p.df) := by go_simp
  have v7 : (((((w.junk osj dj).alloc (.cells #[.int .i64 p.tos, .int .i64 p.id, .bool p.df, .bool false, .int .i64 p.off, .int .i64 p.ttl, .int .i64 6, .int .u32 p.src, .int .u32 p.dst, .slice oo p.ol oc, .slice ob p.bl bc] 29)).junk (osq4 ++ (osq5 ++ osk)) dk).alloc (.cells #[.int .i64 U.sport, .int .i64 U.dport, .int .u32 U.seq, .int .u32 U.ack, .int .i64 U.flags, .int .i64 U.win, .int .i64 U.urg, .slice o1 N c1, .slice o2 U.bl c2] 55)).junk osq13 dq13).cell? ⟨w.heap.size + osj.size + 1 + (osq4.size + (osq5.size + osk.size)), 7, none⟩ = some (.slice o1 N c1) := by go_simp
  have qj : Junk w (((((w.junk osj dj).alloc (.cells #[.int .i64 p.tos, .int .i64 p.id, .bool p.df, .bool false, .int .i64 p.off, .int .i64 p.ttl, .int .i64 6, .int .u32 p.src, .int .u32 p.dst, .slice oo p.ol oc, .slice ob p.bl bc] 29)).junk (osq4 ++ (osq5 ++ osk)) dk).alloc (.cells #[.int .i64 U.sport, .int .i64 U.dport, .int .u32 U.seq, .int .u32 U.ack, .int .i64 U.flags, .int .i64 U.win, .int .i64 U.urg, .slice o1 N c1, .slice o2 U.bl c2] 55)).junk osq13 dq13) := by (first | ((repeat (first | with_reducible exact Junk.refl _ | with_reducible exact Junk.app _ _ _ _ _ | with_reducible apply Junk.alloc | with_reducible apply Junk.junk | with_reducible apply Junk.drew | with_reducible apply Junk.drewN)); done) | ((try simp only [World.junk_junk, Array.append_assoc]); (repeat (first | with_reducible exact Junk.refl _ | with_reducible exact Junk.app _ _ _ _ _ | with_reducible exact Junk.app2 _ _ _ _ _ _ | with_reducible exact Junk.app3 _ _ _ _ _ _ _ | with_reducible exact Junk.app4 _ _ _ _ _ _ _ _ | with_reducible exact Junk.app5 _ _ _ _ _ _ _ _ _ | with_reducible apply Junk.alloc | with_reducible apply Junk.junk | with_reducible apply Junk.drew | with_reducible apply Junk.drewN))))
  have qs1 : w.heap.size + osj.size < (((((w.junk osj dj).alloc (.cells #[.int .i64 p.tos, .int .i64 p.id, .bool p.df, .bool false, .int .i64 p.off, .int .i64 p.ttl, .int .i64 6, .int .u32 p.src, .int .u32 p.dst, .slice oo p.ol oc, .slice ob p.bl bc] 29)).junk (osq4 ++ (osq5 ++ osk)) dk).alloc (.cells #[.int .i64 U.sport, .int .i64 U.dport, .int .u32 U.seq, .int .u32 U.ack, .int .i64 U.flags, .int .i64 U.win, .int .i64 U.urg, .slice o1 N c1, .slice o2 U.bl c2] 55)).junk osq13 dq13).heap.size := by go_simp; try omega
  have qs2 : w.heap.size + osj.size + 1 + (osq4.size + (osq5.size + osk.size)) < (((((w.junk osj dj).alloc (.cells #[.int .i64 p.tos, .int .i64 p.id, .bool p.df, .bool false, .int .i64 p.off, .int .i64 p.ttl, .int .i64 6, .int .u32 p.src, .int .u32 p.dst, .slice oo p.ol oc, .slice ob p.bl bc] 29)).junk (osq4 ++ (osq5 ++ osk)) dk).alloc (.cells #[.int .i64 U.sport, .int .i64 U.dport, .int .u32 U.seq, .int .u32 U.ack, .int .i64 U.flags, .int .i64 U.win, .int .i64 U.urg, .slice o1 N c1, .slice o2 U.bl c2] 55)).junk osq13 dq13).heap.size := by go_simp; try omega
  have hO2 : OsAt (((((w.junk osj dj).alloc (.cells #[.int .i64 p.tos, .int .i64 p.id, .bool p.df, .bool false, .int .i64 p.off, .int .i64 p.ttl, .int .i64 6, .int .u32 p.src, .int .u32 p.dst, .slice oo p.ol oc, .slice ob p.bl bc] 29)).junk (osq4 ++ (osq5 ++ osk)) dk).alloc (.cells #[.int .i64 U.sport, .int .i64 U.dport, .int .u32 U.seq, .int .u32 U.ack, .int .i64 U.flags, .int .i64 U.win, .int .i64 U.urg, .slice o1 N c1, .slice o2 U.bl c2] 55)).junk osq13 dq13) o1 F := by
    have h1 := HO.out
    simp only [World.junk_junk, Array.append_assoc, hmf, hpr] at h1
    exact (h1.on ((Junk.refl _).alloc _)).on ⟨_, _, rfl⟩
  obtain ⟨x1, hx1⟩ : ∃ b, w.heap.size + osj.size = b := ⟨_, rfl⟩
  rw [hx1] at v5 v2 v7 qs1 qs2 ⊢
  obtain ⟨x2, hx2⟩ : ∃ b, x1 + 1 + (osq4.size + (osq5.size + osk.size)) = b := ⟨_, rfl⟩
  rw [hx2] at v7 qs2 ⊢
  generalize (((((w.junk osj dj).alloc (.cells #[.int .i64 p.tos, .int .i64 p.id, .bool p.df, .bool false, .int .i64 p.off, .int .i64 p.ttl, .int .i64 6, .int .u32 p.src, .int .u32 p.dst, .slice oo p.ol oc, .slice ob p.bl bc] 29)).junk (osq4 ++ (osq5 ++ osk)) dk).alloc (.cells #[.int .i64 U.sport, .int .i64 U.dport, .int .u32 U.seq, .int .u32 U.ack, .int .i64 U.flags, .int .i64 U.win, .int .i64 U.urg, .slice o1 N c1, .slice o2 U.bl c2] 55)).junk osq13 dq13) = V at v5 v2 v7 qj qs1 qs2 hO2 ⊢
  have HWV := Lib.hid qj
  have HOV := Lib.hid hO2
  have HC := Lib.hid (And.intro v5 (And.intro v2 (And.intro v7 (And.intro qs1 qs2))))
  clear v5 v2 v7 qj qs1 qs2 hO2 hx1 hx2
  have HN2 := Lib.hid (show (U.os.map Od.k).length = N by rw [List.length_map, ← HF0.out, List.length_map]; exact HN.out)
  have hN100 : N ≤ 100 := by have h1 := HN2.out; have h2 := HLEN.out; rw [List.length_map] at h1; omega
  rw [HT0.out]
  go_loopw [7, 10] (fun s i wr => ∃ k : Nat, k ≤ N ∧ s = .string (joinS (B ++ optW ((U.os.map Od.k).take k)) tSP) ∧ i = .int .i64 (k : Int) ∧ Junk V wr) (fun _ i _ => N + 1 - (intOf i).toNat)
  case atStart => exact ⟨0, by omega, by simp [optW], rfl, Junk.refl _⟩
  case round =>
  obtain ⟨k, hk, rfl, rfl, hj⟩ := hrel
  have HJR := Lib.hid hj
  have v5 := ((hj.below (Nat.le_refl _)).cell (p := ⟨x1, 5, none⟩) HC.out.2.2.2.1).trans HC.out.1
  have v2 := ((hj.below (Nat.le_refl _)).cell (p := ⟨x1, 2, none⟩) HC.out.2.2.2.1).trans HC.out.2.1
  have v7 := ((hj.below (Nat.le_refl _)).cell (p := ⟨x2, 7, none⟩) HC.out.2.2.2.2).trans HC.out.2.2.1
  have hs1 : x1 < wr.heap.size := Nat.lt_of_lt_of_le HC.out.2.2.2.1 hj.size
  have hs2 : x2 < wr.heap.size := Nat.lt_of_lt_of_le HC.out.2.2.2.2 hj.size
  clear hj
  by_cases hkn : k < N
  · have hkn2 : (k : Int) < (N : Int) := by omega
    have pk := wrapk_i64 ((k : Int) + 1) (by omega) (by omega)
    obtain ⟨f, hf⟩ : ∃ f, F[k]? = some f := ⟨_, List.getElem?_eq_getElem (by rw [HN.out]; exact hkn)⟩
    have hfu : (U.os.map Od.k)[k]? = some f.k := by rw [← HF0.out, List.map_map, List.getElem?_map, hf]; rfl
    obtain ⟨bx, off, hob, hbl, c0, _, _⟩ := (HOV.out.on HJR.out) k f hf
    have hfk := HKS.out f.d (by rw [← HF0.out]; exact List.mem_map_of_mem (List.mem_of_getElem? hf))
    have hfk2 : 0 ≤ f.k ∧ f.k ≤ 255 := hfk
    have HS := Lib.hid (show joinS (B ++ optW ((U.os.map Od.k).take (k + 1))) tSP = joinS (B ++ optW ((U.os.map Od.k).take k)) tSP ++ (⟨#[32, 111, 112, 116, 32]⟩ ++ itoaS f.k) by
      rw [optW_next hfu, ← List.append_assoc, joinS_app (by simp [HBN.out]), tail_two]; rfl)
    have hsz := HBS.out k
    generalize joinS (B ++ optW ((U.os.map Od.k).take k)) tSP = Tk at HS hsz ⊢
    have HNK := Lib.hid (fun w1 => rnum_any f.k (by omega) w1)
    have qk := itoaS_size (n := f.k) (by omega)
    obtain ⟨NK, hNK⟩ : ∃ s, itoaS f.k = s := ⟨_, rfl⟩
    rw [hNK] at HNK qk HS
    have zk1 : ¬ 9223372036854775807 < 5 + NK.size := by omega
    have zk2 : ¬ 9223372036854775807 < Tk.size + (5 + NK.size) := by omega
    subst hob
    obtain ⟨fk, fo, fl, fc, fx⟩ := f
    simp only at c0 HNK
    clear hf hfu hfk hfk2 hNK qk hsz
    go_wp2_with (first | (go_at_call 23; (with_reducible refine (HNK.out _).mono ?_); rintro e w' ⟨rfl, ⟨osj, dj, rfl⟩⟩))
    exact ⟨⟨k + 1, by omega, by rw [HS.out], by go_num, HJR.out.trans (by (first | ((repeat (first | with_reducible exact Junk.refl _ | with_reducible exact Junk.app _ _ _ _ _ | with_reducible apply Junk.alloc | with_reducible apply Junk.junk | with_reducible apply Junk.drew | with_reducible apply Junk.drewN)); done) | ((try simp only [World.junk_junk, Array.append_assoc]); (repeat (first | with_reducible exact Junk.refl _ | with_reducible exact Junk.app _ _ _ _ _ | with_reducible exact Junk.app2 _ _ _ _ _ _ | with_reducible exact Junk.app3 _ _ _ _ _ _ _ | with_reducible exact Junk.app4 _ _ _ _ _ _ _ _ | with_reducible exact Junk.app5 _ _ _ _ _ _ _ _ _ | with_reducible apply Junk.alloc | with_reducible apply Junk.junk | with_reducible apply Junk.drew | with_reducible apply Junk.drewN)))))⟩, by simp [intOf]; omega⟩
  have hkn2 : ¬ (k : Int) < (N : Int) := by omega
  obtain rfl : k = N := by omega
  rw [List.take_of_length_le (by rw [HN2.out]; exact Nat.le_refl _)]
  go_upto_region 30 with (first | fail)
  generalize hT : (joinS (B ++ optW (U.os.map Od.k)) tSP) = T
  have hT2 : T = joinS (headW p) tSP := by rw [← hT]; exact HEQ.out
  have hTs : T.size ≤ 100000000 := by rw [hT2]; exact HLS.out
  obtain ⟨zt2, zt3⟩ := HZ.out T hTs
  have HT3 := Lib.hid (HTT.out T hT2)
  clear hT hT2 hTs
  cases hdf : p.df with
  | true =>
    have HF := Lib.hid (show joinS (lineW p) tSP = T ++ (⟨#[32, 116, 116, 108, 32]⟩ ++ NT) ++ ⟨#[32, 100, 102]⟩ by
      rw [HT3.out]; unfold lineW; rw [hdf, if_pos rfl, joinS_app (by simp), tail_one]; rfl)
    go_wp2_with (first | (go_at_call 23; (with_reducible refine (HNT.out _).mono ?_); rintro e w' ⟨rfl, ⟨osj, dj, rfl⟩⟩))
    go_returns
    exact ⟨by rw [HE, HF.out]; rfl, HWV.out.trans (HJR.out.trans (by (first | ((repeat (first | with_reducible exact Junk.refl _ | with_reducible exact Junk.app _ _ _ _ _ | with_reducible apply Junk.alloc | with_reducible apply Junk.junk | with_reducible apply Junk.drew | with_reducible apply Junk.drewN)); done) | ((try simp only [World.junk_junk, Array.append_assoc]); (repeat (first | with_reducible exact Junk.refl _ | with_reducible exact Junk.app _ _ _ _ _ | with_reducible exact Junk.app2 _ _ _ _ _ _ | with_reducible exact Junk.app3 _ _ _ _ _ _ _ | with_reducible exact Junk.app4 _ _ _ _ _ _ _ _ | with_reducible exact Junk.app5 _ _ _ _ _ _ _ _ _ | with_reducible apply Junk.alloc | with_reducible apply Junk.junk | with_reducible apply Junk.drew | with_reducible apply Junk.drewN))))))⟩
  | false =>
    have HF := Lib.hid (show joinS (lineW p) tSP = T ++ (⟨#[32, 116, 116, 108, 32]⟩ ++ NT) by
      rw [HT3.out]; unfold lineW; rw [hdf, if_neg (by decide), List.append_nil])
    go_wp2_with (first | (go_at_call 23; (with_reducible refine (HNT.out _).mono ?_); rintro e w' ⟨rfl, ⟨osj, dj, rfl⟩⟩))
    go_returns
    exact ⟨by rw [HE, HF.out]; rfl, HWV.out.trans (HJR.out.trans (by (first | ((repeat (first | with_reducible exact Junk.refl _ | with_reducible exact Junk.app _ _ _ _ _ | with_reducible apply Junk.alloc | with_reducible apply Junk.junk | with_reducible apply Junk.drew | with_reducible apply Junk.drewN)); done) | ((try simp only [World.junk_junk, Array.append_assoc]); (repeat (first | with_reducible exact Junk.refl _ | with_reducible exact Junk.app _ _ _ _ _ | with_reducible exact Junk.app2 _ _ _ _ _ _ | with_reducible exact Junk.app3 _ _ _ _ _ _ _ | with_reducible exact Junk.app4 _ _ _ _ _ _ _ _ | with_reducible exact Junk.app5 _ _ _ _ _ _ _ _ _ | with_reducible apply Junk.alloc | with_reducible apply Junk.junk | with_reducible apply Junk.drew | with_reducible apply Junk.drewN))))))⟩
end Go.Proofs.YtfkhnhenemgcmaaDoor
