/- The reference's line: joins. -/
import Derived.Test.YtfkhnhenemgcmaaDoorDuL
import Derived.Test.YtfkhnhenemgcmaaDoorIpRParse
set_option linter.unusedVariables false
set_option maxRecDepth 100000
set_option linter.unusedSimpArgs false
namespace Go.Proofs.YtfkhnhenemgcmaaDoor
open Go.RowKit
def tailS (L : List ByteArray) : ByteArray := ⟨(Lib.joinTail tSP.data.toList (L.map (·.data.toList))).toArray⟩
theorem joinS_app {A : List ByteArray} (h : A ≠ []) (B : List ByteArray) : joinS (A ++ B) tSP = joinS A tSP ++ tailS B := by
  cases A with
  | nil => exact absurd rfl h
  | cons x r =>
    apply ByteArray.ext
    simp [joinS, joinL, tailS, Lib.join_cons, Lib.joinTail, ByteArray.data_append]
theorem tail_one (a : ByteArray) : tailS [a] = tSP ++ a := by
  apply ByteArray.ext
  simp [tailS, Lib.joinTail, ByteArray.data_append]
theorem tail_app (A B : List ByteArray) : tailS (A ++ B) = tailS A ++ tailS B := by
  apply ByteArray.ext
  simp [tailS, Lib.joinTail, ByteArray.data_append]
theorem bts_assoc (a b c : ByteArray) : a ++ b ++ c = a ++ (b ++ c) := ByteArray.append_assoc
theorem tail_two (a b : ByteArray) : tailS [a, b] = tSP ++ a ++ tSP ++ b := by
  apply ByteArray.ext
  simp [tailS, Lib.joinTail, ByteArray.data_append]
theorem headW_ne (p : Ip) : headW p ≠ [] := by
  unfold headW
  split
  · unfold pieceW; simp
  · cases hb : bodyW p with
    | none => simp [plainW]
    | some M =>
      unfold bodyW at hb
      repeat' split at hb
      all_goals (first | (cases hb; done) | (simp only [Option.some.injEq] at hb; subst hb; simp [tcpW, udpW, icmpW]))
theorem joinS_size {L : List ByteArray} {n : Nat} (h : SmL n L) (hn : n ≤ 1000 := by omega) : (joinS L tSP).size ≤ 100000000 := by
  have := joinL_le h hn
  unfold joinS
  show ((joinL L tSP).toArray).size ≤ 100000000
  rw [List.size_toArray]
  exact this
set_option maxRecDepth 100000 in
set_option maxHeartbeats 32000000 in
theorem rline_piece (oa : Option Addr) (l c : Nat) (xs : Nat → Int) (w : World) (hl : l ≤ 100000000) (hB : Bts w oa l c xs) (h0 : parseErr xs l = 0) (hmf : (parseIp xs).mf = false) (hof : 0 < (parseIp xs).off) :
    Calls Tryd.prog 8 #[.slice oa l c] w fun e w' => e = .returned (.string (lineS xs l)) ∧ Junk w w' := by
  have HB := Lib.hid hB
  have hbd := parse_bd h0 hB.byte hl
  have HPS := fun w1 (hb : Bts w1 oa l c xs) => (ipRParse_any oa l c xs w1 hl hb).mono fun e w' hq => show ∃ (oo ob : Option Addr) (oc bc : Nat), e = .returned (.tuple #[.agg #[.int .i64 (parseIp xs).tos, .int .i64 (parseIp xs).id, .bool (parseIp xs).df, .bool (parseIp xs).mf, .int .i64 (parseIp xs).off, .int .i64 (parseIp xs).ttl, .int .i64 (parseIp xs).proto, .int .u32 (parseIp xs).src, .int .u32 (parseIp xs).dst, .slice oo (parseIp xs).ol oc, .slice ob (parseIp xs).bl bc], .int .i64 0]) ∧ Junk w1 w' ∧ IpAt w' (parseIp xs) oo oc ob bc by
    obtain ⟨p, oo, ob, oc, bc, rfl, hj, hP, ⟨_, rfl⟩ | ⟨h1, _⟩⟩ := hq
    · exact ⟨oo, ob, oc, bc, by rw [h0], hj, hP⟩
    · exact absurd h0 h1
  have HE : lineS xs l = joinS (lineW (parseIp xs)) tSP := by unfold lineS; rw [if_pos h0]
  obtain ⟨p, hp⟩ : ∃ p, parseIp xs = p := ⟨_, rfl⟩
  rw [hp] at hbd HPS HE hmf hof
  have HPS := Lib.hid HPS
  have HBD := Lib.hid hbd
  have b1 := hbd.id; have b2 := hbd.off; have b3 := hbd.ttl; have b4 := hbd.proto; have b5 := hbd.bl
  have HA1 := Lib.hid (fun w1 => radr_any p.src hbd.src w1)
  have HA2 := Lib.hid (fun w1 => radr_any p.dst hbd.dst w1)
  have HNP := Lib.hid (fun w1 => rnum_any p.proto (by omega) w1)
  have HNL := Lib.hid (fun w1 => rnum_any (p.bl : Int) (by omega) w1)
  have HNT := Lib.hid (fun w1 => rnum_any p.ttl (by omega) w1)
  have q1 := adrS_size hbd.src; have q2 := adrS_size hbd.dst
  have q3 := itoaS_size (n := p.proto) (by omega); have q4 := itoaS_size (n := (p.bl : Int)) (by omega); have q5 := itoaS_size (n := p.ttl) (by omega)
  obtain ⟨S1, hS1⟩ : ∃ s, adrS p.src = s := ⟨_, rfl⟩
  obtain ⟨S2, hS2⟩ : ∃ s, adrS p.dst = s := ⟨_, rfl⟩
  obtain ⟨NP, hNP⟩ : ∃ s, itoaS p.proto = s := ⟨_, rfl⟩
  obtain ⟨NL, hNL⟩ : ∃ s, itoaS (p.bl : Int) = s := ⟨_, rfl⟩
  obtain ⟨NT, hNT⟩ : ∃ s, itoaS p.ttl = s := ⟨_, rfl⟩
  rw [hS1] at HA1 q1
  rw [hS2] at HA2 q2
  rw [hNP] at HNP q3
  rw [hNL] at HNL q4
  rw [hNT] at HNT q5
  have HNI := Lib.hid (fun w1 => rnum_any p.id (by omega) w1)
  have HNO := Lib.hid (fun w1 => rnum_any p.off (by omega) w1)
  have q6 := itoaS_size (n := p.id) (by omega); have q7 := itoaS_size (n := p.off) (by omega)
  obtain ⟨NI, hNI⟩ : ∃ s, itoaS p.id = s := ⟨_, rfl⟩
  obtain ⟨NO, hNO⟩ : ∃ s, itoaS p.off = s := ⟨_, rfl⟩
  rw [hNI] at HNI q6
  rw [hNO] at HNO q7
  have zb1 : ¬ 9223372036854775807 < 6 + S1.size := by omega
  have zb2 : ¬ 9223372036854775807 < 6 + S1.size + 3 := by omega
  have zb3 : ¬ 9223372036854775807 < 6 + S1.size + 3 + S2.size := by omega
  have zb4 : ¬ 9223372036854775807 < 6 + S1.size + 3 + S2.size + 4 := by omega
  have zb5 : ¬ 9223372036854775807 < 6 + S1.size + 3 + S2.size + 4 + NI.size := by omega
  have zb6 : ¬ 9223372036854775807 < 6 + S1.size + 3 + S2.size + 4 + NI.size + 5 := by omega
  have zb7 : ¬ 9223372036854775807 < 6 + S1.size + 3 + S2.size + 4 + NI.size + 5 + NO.size := by omega
  have zb8 : ¬ 9223372036854775807 < 6 + S1.size + 3 + S2.size + 4 + NI.size + 5 + NO.size + 5 := by omega
  have zb9 : ¬ 9223372036854775807 < 6 + S1.size + 3 + S2.size + 4 + NI.size + 5 + NO.size + 5 + NL.size := by omega
  have za1 : ¬ 9223372036854775807 < 3 + S1.size := by omega
  have za2 : ¬ 9223372036854775807 < 3 + S1.size + 3 := by omega
  have za3 : ¬ 9223372036854775807 < 3 + S1.size + 3 + S2.size := by omega
  have za4 : ¬ 9223372036854775807 < 3 + S1.size + 3 + S2.size + 7 := by omega
  have za5 : ¬ 9223372036854775807 < 3 + S1.size + 3 + S2.size + 7 + NP.size := by omega
  have za6 : ¬ 9223372036854775807 < 3 + S1.size + 3 + S2.size + 7 + NP.size + 5 := by omega
  have za7 : ¬ 9223372036854775807 < 3 + S1.size + 3 + S2.size + 7 + NP.size + 5 + NL.size := by omega
  have zt1 : ¬ 9223372036854775807 < 5 + NT.size := by omega
  have HZ := Lib.hid (fun (T : ByteArray) (hT : T.size ≤ 100000000) => show ¬ 9223372036854775807 < T.size + (5 + NT.size) ∧ ¬ 9223372036854775807 < T.size + (5 + NT.size) + 3 by omega)
  have HLS := Lib.hid (joinS_size (headW_sm hbd))
  have HEQ := Lib.hid (show (⟨#[112, 105, 101, 99, 101, 32]⟩ ++ S1 ++ ⟨#[32, 62, 32]⟩ ++ S2 ++ ⟨#[32, 105, 100, 32]⟩ ++ NI ++ ⟨#[32, 111, 102, 102, 32]⟩ ++ NO ++ ⟨#[32, 108, 101, 110, 32]⟩ ++ NL) = joinS (headW p) tSP from by
    have : headW p = pieceW p := by unfold headW pcB; rw [if_pos (by rw [hmf]; simp; omega)]
    rw [this]; unfold pieceW; rw [hmf, if_neg (by decide), List.append_nil, hS1, hS2, hNI, hNO, hNL]
    apply ByteArray.ext
    simp [joinS, joinL, Lib.join_cons, Lib.joinTail, ByteArray.data_append, tPIECE, tGT, tID, tOFF, tLEN, tSP])
  have HTT := Lib.hid (show ∀ T, T = joinS (headW p) tSP → T ++ (⟨#[32, 116, 116, 108, 32]⟩ ++ NT) = joinS (headW p ++ [tTTL, itoaS p.ttl]) tSP from fun T hT => by
    rw [hT, hNT, joinS_app (headW_ne p), tail_two]; rfl)
  clear hB hbd h0 hp hl hS1 hS2 hNP hNL hNT q1 q2 q3 q4 q5
  go_enter Tryd.func8, Tryd.ntmps8
  go_upto_region 4 with (first | (go_at_call 22; (with_reducible refine (HPS.out _ (HB.out.on (by (first | ((repeat (first | with_reducible exact Junk.refl _ | with_reducible exact Junk.app _ _ _ _ _ | with_reducible apply Junk.alloc | with_reducible apply Junk.junk | with_reducible apply Junk.drew | with_reducible apply Junk.drewN)); done) | ((try simp only [World.junk_junk, Array.append_assoc]); (repeat (first | with_reducible exact Junk.refl _ | with_reducible exact Junk.app _ _ _ _ _ | with_reducible exact Junk.app2 _ _ _ _ _ _ | with_reducible exact Junk.app3 _ _ _ _ _ _ _ | with_reducible exact Junk.app4 _ _ _ _ _ _ _ _ | with_reducible exact Junk.app5 _ _ _ _ _ _ _ _ _ | with_reducible apply Junk.alloc | with_reducible apply Junk.junk | with_reducible apply Junk.drew | with_reducible apply Junk.drewN))))))).mono ?_); rintro e w' ⟨oo, ob, oc, bc, rfl, ⟨osj, dj, rfl⟩, hP⟩; have HP := Lib.hid hP; clear hP))
  refine wp_region_junk (by kernel_rfl) (by kernel_rfl) ?_; (repeat (go_big_quiet_step (first | first | (go_at_call 10; first | with_reducible exact Calls.junk_of5 (HA1.out _) | with_reducible exact Calls.junk_of4 (HA1.out _) | with_reducible exact Calls.junk_of3 (HA1.out _) | with_reducible exact Calls.junk_of2 (HA1.out _) | with_reducible exact Calls.junk_of (HA1.out _)) | (go_at_call 10; first | with_reducible exact Calls.junk_of5 (HA2.out _) | with_reducible exact Calls.junk_of4 (HA2.out _) | with_reducible exact Calls.junk_of3 (HA2.out _) | with_reducible exact Calls.junk_of2 (HA2.out _) | with_reducible exact Calls.junk_of (HA2.out _))))); refine wpQuiet_nil ?_; rintro _ ⟨⟨osq4, dq4⟩, rfl⟩
  go_upto_region 5 with (first | fail)
  refine wp_region_junk (by kernel_rfl) (by kernel_rfl) ?_; (repeat (go_big_quiet_step (first | first | (go_at_call 23; first | with_reducible exact Calls.junk_of5 (HNP.out _) | with_reducible exact Calls.junk_of4 (HNP.out _) | with_reducible exact Calls.junk_of3 (HNP.out _) | with_reducible exact Calls.junk_of2 (HNP.out _) | with_reducible exact Calls.junk_of (HNP.out _)) | (go_at_call 23; first | with_reducible exact Calls.junk_of5 (HNL.out _) | with_reducible exact Calls.junk_of4 (HNL.out _) | with_reducible exact Calls.junk_of3 (HNL.out _) | with_reducible exact Calls.junk_of2 (HNL.out _) | with_reducible exact Calls.junk_of (HNL.out _))))); refine wpQuiet_nil ?_; rintro _ ⟨⟨osq5, dq5⟩, rfl⟩
  go_upto_region 7 with (first | fail)
  refine wp_region_junk (by kernel_rfl) (by kernel_rfl) ?_; (repeat (go_big_quiet_step (first | first | (go_at_call 23; first | with_reducible exact Calls.junk_of5 (HNI.out _) | with_reducible exact Calls.junk_of4 (HNI.out _) | with_reducible exact Calls.junk_of3 (HNI.out _) | with_reducible exact Calls.junk_of2 (HNI.out _) | with_reducible exact Calls.junk_of (HNI.out _)) | (go_at_call 23; first | with_reducible exact Calls.junk_of5 (HNO.out _) | with_reducible exact Calls.junk_of4 (HNO.out _) | with_reducible exact Calls.junk_of3 (HNO.out _) | with_reducible exact Calls.junk_of2 (HNO.out _) | with_reducible exact Calls.junk_of (HNO.out _)) | (go_at_call 23; first | with_reducible exact Calls.junk_of5 (HNL.out _) | with_reducible exact Calls.junk_of4 (HNL.out _) | with_reducible exact Calls.junk_of3 (HNL.out _) | with_reducible exact Calls.junk_of2 (HNL.out _) | with_reducible exact Calls.junk_of (HNL.out _))))); refine wpQuiet_nil ?_; rintro _ ⟨⟨osq7, dq7⟩, rfl⟩
  go_upto_region 30 with (first | fail)
  generalize hT : (⟨#[112, 105, 101, 99, 101, 32]⟩ ++ S1 ++ ⟨#[32, 62, 32]⟩ ++ S2 ++ ⟨#[32, 105, 100, 32]⟩ ++ NI ++ ⟨#[32, 111, 102, 102, 32]⟩ ++ NO ++ ⟨#[32, 108, 101, 110, 32]⟩ ++ NL) = T
  have hT2 : T = joinS (headW p) tSP := by rw [← hT]; exact HEQ.out
  have hTs : T.size ≤ 100000000 := by rw [hT2]; exact HLS.out
  obtain ⟨zt2, zt3⟩ := HZ.out T hTs
  have HT3 := Lib.hid (HTT.out T hT2)
  clear hT hT2 hTs
  cases hdf : p.df with
  | true =>
    have HF := Lib.hid (show joinS (lineW p) tSP = T ++ (⟨#[32, 116, 116, 108, 32]⟩ ++ NT) ++ ⟨#[32, 100, 102]⟩ by
      rw [HT3.out]; unfold lineW; rw [hdf, if_pos rfl, joinS_app (by simp), tail_one]; rfl)
    go_wp2_with (first | (go_at_call 23; (with_reducible refine (HNT.out _).mono ?_); rintro e w' ⟨rfl, ⟨osj, dj, rfl⟩⟩))
    go_returns
    exact ⟨by rw [HE, HF.out]; rfl, by (first | ((repeat (first | with_reducible exact Junk.refl _ | with_reducible exact Junk.app _ _ _ _ _ | with_reducible apply Junk.alloc | with_reducible apply Junk.junk | with_reducible apply Junk.drew | with_reducible apply Junk.drewN)); done) | ((try simp only [World.junk_junk, Array.append_assoc]); (repeat (first | with_reducible exact Junk.refl _ | with_reducible exact Junk.app _ _ _ _ _ | with_reducible exact Junk.app2 _ _ _ _ _ _ | with_reducible exact Junk.app3 _ _ _ _ _ _ _ | with_reducible exact Junk.app4 _ _ _ _ _ _ _ _ | with_reducible exact Junk.app5 _ _ _ _ _ _ _ _ _ | with_reducible apply Junk.alloc | with_reducible apply Junk.junk | with_reducible apply Junk.drew | with_reducible apply Junk.drewN))))⟩
  | false =>
    have HF := Lib.hid (show joinS (lineW p) tSP = T ++ (⟨#[32, 116, 116, 108, 32]⟩ ++ NT) by
      rw [HT3.out]; unfold lineW; rw [hdf, if_neg (by decide), List.append_nil])
    go_wp2_with (first | (go_at_call 23; (with_reducible refine (HNT.out _).mono ?_); rintro e w' ⟨rfl, ⟨osj, dj, rfl⟩⟩))
    go_returns
    exact ⟨by rw [HE, HF.out]; rfl, by (first | ((repeat (first | with_reducible exact Junk.refl _ | with_reducible exact Junk.app _ _ _ _ _ | with_reducible apply Junk.alloc | with_reducible apply Junk.junk | with_reducible apply Junk.drew | with_reducible apply Junk.drewN)); done) | ((try simp only [World.junk_junk, Array.append_assoc]); (repeat (first | with_reducible exact Junk.refl _ | with_reducible exact Junk.app _ _ _ _ _ | with_reducible exact Junk.app2 _ _ _ _ _ _ | with_reducible exact Junk.app3 _ _ _ _ _ _ _ | with_reducible exact Junk.app4 _ _ _ _ _ _ _ _ | with_reducible exact Junk.app5 _ _ _ _ _ _ _ _ _ | with_reducible apply Junk.alloc | with_reducible apply Junk.junk | with_reducible apply Junk.drew | with_reducible apply Junk.drewN))))⟩
set_option maxRecDepth 100000 in
set_option maxHeartbeats 32000000 in
theorem rline_more (oa : Option Addr) (l c : Nat) (xs : Nat → Int) (w : World) (hl : l ≤ 100000000) (hB : Bts w oa l c xs) (h0 : parseErr xs l = 0) (hmf : (parseIp xs).mf = true) :
    Calls Tryd.prog 8 #[.slice oa l c] w fun e w' => e = .returned (.string (lineS xs l)) ∧ Junk w w' := by
  have HB := Lib.hid hB
  have hbd := parse_bd h0 hB.byte hl
  have HPS := fun w1 (hb : Bts w1 oa l c xs) => (ipRParse_any oa l c xs w1 hl hb).mono fun e w' hq => show ∃ (oo ob : Option Addr) (oc bc : Nat), e = .returned (.tuple #[.agg #[.int .i64 (parseIp xs).tos, .int .i64 (parseIp xs).id, .bool (parseIp xs).df, .bool (parseIp xs).mf, .int .i64 (parseIp xs).off, .int .i64 (parseIp xs).ttl, .int .i64 (parseIp xs).proto, .int .u32 (parseIp xs).src, .int .u32 (parseIp xs).dst, .slice oo (parseIp xs).ol oc, .slice ob (parseIp xs).bl bc], .int .i64 0]) ∧ Junk w1 w' ∧ IpAt w' (parseIp xs) oo oc ob bc by
    obtain ⟨p, oo, ob, oc, bc, rfl, hj, hP, ⟨_, rfl⟩ | ⟨h1, _⟩⟩ := hq
    · exact ⟨oo, ob, oc, bc, by rw [h0], hj, hP⟩
    · exact absurd h0 h1
  have HE : lineS xs l = joinS (lineW (parseIp xs)) tSP := by unfold lineS; rw [if_pos h0]
  obtain ⟨p, hp⟩ : ∃ p, parseIp xs = p := ⟨_, rfl⟩
  rw [hp] at hbd HPS HE hmf
  have HPS := Lib.hid HPS
  have HBD := Lib.hid hbd
  have b1 := hbd.id; have b2 := hbd.off; have b3 := hbd.ttl; have b4 := hbd.proto; have b5 := hbd.bl
  have HA1 := Lib.hid (fun w1 => radr_any p.src hbd.src w1)
  have HA2 := Lib.hid (fun w1 => radr_any p.dst hbd.dst w1)
  have HNP := Lib.hid (fun w1 => rnum_any p.proto (by omega) w1)
  have HNL := Lib.hid (fun w1 => rnum_any (p.bl : Int) (by omega) w1)
  have HNT := Lib.hid (fun w1 => rnum_any p.ttl (by omega) w1)
  have q1 := adrS_size hbd.src; have q2 := adrS_size hbd.dst
  have q3 := itoaS_size (n := p.proto) (by omega); have q4 := itoaS_size (n := (p.bl : Int)) (by omega); have q5 := itoaS_size (n := p.ttl) (by omega)
  obtain ⟨S1, hS1⟩ : ∃ s, adrS p.src = s := ⟨_, rfl⟩
  obtain ⟨S2, hS2⟩ : ∃ s, adrS p.dst = s := ⟨_, rfl⟩
  obtain ⟨NP, hNP⟩ : ∃ s, itoaS p.proto = s := ⟨_, rfl⟩
  obtain ⟨NL, hNL⟩ : ∃ s, itoaS (p.bl : Int) = s := ⟨_, rfl⟩
  obtain ⟨NT, hNT⟩ : ∃ s, itoaS p.ttl = s := ⟨_, rfl⟩
  rw [hS1] at HA1 q1
  rw [hS2] at HA2 q2
  rw [hNP] at HNP q3
  rw [hNL] at HNL q4
  rw [hNT] at HNT q5
  have HNI := Lib.hid (fun w1 => rnum_any p.id (by omega) w1)
  have q6 := itoaS_size (n := p.id) (by omega)
  obtain ⟨NI, hNI⟩ : ∃ s, itoaS p.id = s := ⟨_, rfl⟩
  rw [hNI] at HNI q6
  have HNO := Lib.hid (fun w1 => rnum_any p.off (by omega) w1)
  have q7 := itoaS_size (n := p.off) (by omega)
  obtain ⟨NO, hNO⟩ : ∃ s, itoaS p.off = s := ⟨_, rfl⟩
  rw [hNO] at HNO q7
  have zb1 : ¬ 9223372036854775807 < 6 + S1.size := by omega
  have zb2 : ¬ 9223372036854775807 < 6 + S1.size + 3 := by omega
  have zb3 : ¬ 9223372036854775807 < 6 + S1.size + 3 + S2.size := by omega
  have zb4 : ¬ 9223372036854775807 < 6 + S1.size + 3 + S2.size + 4 := by omega
  have zb5 : ¬ 9223372036854775807 < 6 + S1.size + 3 + S2.size + 4 + NI.size := by omega
  have zb6 : ¬ 9223372036854775807 < 6 + S1.size + 3 + S2.size + 4 + NI.size + 5 := by omega
  have zb7 : ¬ 9223372036854775807 < 6 + S1.size + 3 + S2.size + 4 + NI.size + 5 + NO.size := by omega
  have zb8 : ¬ 9223372036854775807 < 6 + S1.size + 3 + S2.size + 4 + NI.size + 5 + NO.size + 5 := by omega
  have zb9 : ¬ 9223372036854775807 < 6 + S1.size + 3 + S2.size + 4 + NI.size + 5 + NO.size + 5 + NL.size := by omega
  have zb10 : ¬ 9223372036854775807 < 6 + S1.size + 3 + S2.size + 4 + NI.size + 5 + NO.size + 5 + NL.size + 5 := by omega
  have za1 : ¬ 9223372036854775807 < 3 + S1.size := by omega
  have za2 : ¬ 9223372036854775807 < 3 + S1.size + 3 := by omega
  have za3 : ¬ 9223372036854775807 < 3 + S1.size + 3 + S2.size := by omega
  have za4 : ¬ 9223372036854775807 < 3 + S1.size + 3 + S2.size + 7 := by omega
  have za5 : ¬ 9223372036854775807 < 3 + S1.size + 3 + S2.size + 7 + NP.size := by omega
  have za6 : ¬ 9223372036854775807 < 3 + S1.size + 3 + S2.size + 7 + NP.size + 5 := by omega
  have za7 : ¬ 9223372036854775807 < 3 + S1.size + 3 + S2.size + 7 + NP.size + 5 + NL.size := by omega
  have zt1 : ¬ 9223372036854775807 < 5 + NT.size := by omega
  have HZ := Lib.hid (fun (T : ByteArray) (hT : T.size ≤ 100000000) => show ¬ 9223372036854775807 < T.size + (5 + NT.size) ∧ ¬ 9223372036854775807 < T.size + (5 + NT.size) + 3 by omega)
  have HLS := Lib.hid (joinS_size (headW_sm hbd))
  have HEQ := Lib.hid (show (⟨#[112, 105, 101, 99, 101, 32]⟩ ++ S1 ++ ⟨#[32, 62, 32]⟩ ++ S2 ++ ⟨#[32, 105, 100, 32]⟩ ++ NI ++ ⟨#[32, 111, 102, 102, 32]⟩ ++ NO ++ ⟨#[32, 108, 101, 110, 32]⟩ ++ NL ++ ⟨#[32, 109, 111, 114, 101]⟩) = joinS (headW p) tSP from by
    have : headW p = pieceW p := by unfold headW pcB; rw [if_pos (by rw [hmf]; simp)]
    rw [this]; unfold pieceW; rw [hmf, if_pos rfl, hS1, hS2, hNI, hNO, hNL]
    apply ByteArray.ext
    simp [joinS, joinL, Lib.join_cons, Lib.joinTail, ByteArray.data_append, tPIECE, tGT, tID, tOFF, tLEN, tSP, tMORE, tIP, tPROTO, tUDP, tNOSUM, tICMP, tTYPE, tCODE, tNAME, sideS])
  have HTT := Lib.hid (show ∀ T, T = joinS (headW p) tSP → T ++ (⟨#[32, 116, 116, 108, 32]⟩ ++ NT) = joinS (headW p ++ [tTTL, itoaS p.ttl]) tSP from fun T hT => by
    rw [hT, hNT, joinS_app (headW_ne p), tail_two]; rfl)
  clear hB hbd h0 hp hl hS1 hS2 hNP hNL hNT q1 q2 q3 q4 q5
  go_enter Tryd.func8, Tryd.ntmps8
  go_upto_region 4 with (first | (go_at_call 22; (with_reducible refine (HPS.out _ (HB.out.on (by (first | ((repeat (first | with_reducible exact Junk.refl _ | with_reducible exact Junk.app _ _ _ _ _ | with_reducible apply Junk.alloc | with_reducible apply Junk.junk | with_reducible apply Junk.drew | with_reducible apply Junk.drewN)); done) | ((try simp only [World.junk_junk, Array.append_assoc]); (repeat (first | with_reducible exact Junk.refl _ | with_reducible exact Junk.app _ _ _ _ _ | with_reducible exact Junk.app2 _ _ _ _ _ _ | with_reducible exact Junk.app3 _ _ _ _ _ _ _ | with_reducible exact Junk.app4 _ _ _ _ _ _ _ _ | with_reducible exact Junk.app5 _ _ _ _ _ _ _ _ _ | with_reducible apply Junk.alloc | with_reducible apply Junk.junk | with_reducible apply Junk.drew | with_reducible apply Junk.drewN))))))).mono ?_); rintro e w' ⟨oo, ob, oc, bc, rfl, ⟨osj, dj, rfl⟩, hP⟩; have HP := Lib.hid hP; clear hP))
  refine wp_region_junk (by kernel_rfl) (by kernel_rfl) ?_; (repeat (go_big_quiet_step (first | first | (go_at_call 10; first | with_reducible exact Calls.junk_of5 (HA1.out _) | with_reducible exact Calls.junk_of4 (HA1.out _) | with_reducible exact Calls.junk_of3 (HA1.out _) | with_reducible exact Calls.junk_of2 (HA1.out _) | with_reducible exact Calls.junk_of (HA1.out _)) | (go_at_call 10; first | with_reducible exact Calls.junk_of5 (HA2.out _) | with_reducible exact Calls.junk_of4 (HA2.out _) | with_reducible exact Calls.junk_of3 (HA2.out _) | with_reducible exact Calls.junk_of2 (HA2.out _) | with_reducible exact Calls.junk_of (HA2.out _))))); refine wpQuiet_nil ?_; rintro _ ⟨⟨osq4, dq4⟩, rfl⟩
  go_upto_region 5 with (first | fail)
  refine wp_region_junk (by kernel_rfl) (by kernel_rfl) ?_; (repeat (go_big_quiet_step (first | first | (go_at_call 23; first | with_reducible exact Calls.junk_of5 (HNP.out _) | with_reducible exact Calls.junk_of4 (HNP.out _) | with_reducible exact Calls.junk_of3 (HNP.out _) | with_reducible exact Calls.junk_of2 (HNP.out _) | with_reducible exact Calls.junk_of (HNP.out _)) | (go_at_call 23; first | with_reducible exact Calls.junk_of5 (HNL.out _) | with_reducible exact Calls.junk_of4 (HNL.out _) | with_reducible exact Calls.junk_of3 (HNL.out _) | with_reducible exact Calls.junk_of2 (HNL.out _) | with_reducible exact Calls.junk_of (HNL.out _))))); refine wpQuiet_nil ?_; rintro _ ⟨⟨osq5, dq5⟩, rfl⟩
  go_upto_region 7 with (first | fail)
  refine wp_region_junk (by kernel_rfl) (by kernel_rfl) ?_; (repeat (go_big_quiet_step (first | first | (go_at_call 23; first | with_reducible exact Calls.junk_of5 (HNI.out _) | with_reducible exact Calls.junk_of4 (HNI.out _) | with_reducible exact Calls.junk_of3 (HNI.out _) | with_reducible exact Calls.junk_of2 (HNI.out _) | with_reducible exact Calls.junk_of (HNI.out _)) | (go_at_call 23; first | with_reducible exact Calls.junk_of5 (HNO.out _) | with_reducible exact Calls.junk_of4 (HNO.out _) | with_reducible exact Calls.junk_of3 (HNO.out _) | with_reducible exact Calls.junk_of2 (HNO.out _) | with_reducible exact Calls.junk_of (HNO.out _)) | (go_at_call 23; first | with_reducible exact Calls.junk_of5 (HNL.out _) | with_reducible exact Calls.junk_of4 (HNL.out _) | with_reducible exact Calls.junk_of3 (HNL.out _) | with_reducible exact Calls.junk_of2 (HNL.out _) | with_reducible exact Calls.junk_of (HNL.out _))))); refine wpQuiet_nil ?_; rintro _ ⟨⟨osq7, dq7⟩, rfl⟩
  go_upto_region 30 with (first | fail)
  generalize hT : (⟨#[112, 105, 101, 99, 101, 32]⟩ ++ S1 ++ ⟨#[32, 62, 32]⟩ ++ S2 ++ ⟨#[32, 105, 100, 32]⟩ ++ NI ++ ⟨#[32, 111, 102, 102, 32]⟩ ++ NO ++ ⟨#[32, 108, 101, 110, 32]⟩ ++ NL ++ ⟨#[32, 109, 111, 114, 101]⟩) = T
  have hT2 : T = joinS (headW p) tSP := by rw [← hT]; exact HEQ.out
  have hTs : T.size ≤ 100000000 := by rw [hT2]; exact HLS.out
  obtain ⟨zt2, zt3⟩ := HZ.out T hTs
  have HT3 := Lib.hid (HTT.out T hT2)
  clear hT hT2 hTs
  cases hdf : p.df with
  | true =>
    have HF := Lib.hid (show joinS (lineW p) tSP = T ++ (⟨#[32, 116, 116, 108, 32]⟩ ++ NT) ++ ⟨#[32, 100, 102]⟩ by
      rw [HT3.out]; unfold lineW; rw [hdf, if_pos rfl, joinS_app (by simp), tail_one]; rfl)
    go_wp2_with (first | (go_at_call 23; (with_reducible refine (HNT.out _).mono ?_); rintro e w' ⟨rfl, ⟨osj, dj, rfl⟩⟩))
    go_returns
    exact ⟨by rw [HE, HF.out]; rfl, by (first | ((repeat (first | with_reducible exact Junk.refl _ | with_reducible exact Junk.app _ _ _ _ _ | with_reducible apply Junk.alloc | with_reducible apply Junk.junk | with_reducible apply Junk.drew | with_reducible apply Junk.drewN)); done) | ((try simp only [World.junk_junk, Array.append_assoc]); (repeat (first | with_reducible exact Junk.refl _ | with_reducible exact Junk.app _ _ _ _ _ | with_reducible exact Junk.app2 _ _ _ _ _ _ | with_reducible exact Junk.app3 _ _ _ _ _ _ _ | with_reducible exact Junk.app4 _ _ _ _ _ _ _ _ | with_reducible exact Junk.app5 _ _ _ _ _ _ _ _ _ | with_reducible apply Junk.alloc | with_reducible apply Junk.junk | with_reducible apply Junk.drew | with_reducible apply Junk.drewN))))⟩
  | false =>
    have HF := Lib.hid (show joinS (lineW p) tSP = T ++ (⟨#[32, 116, 116, 108, 32]⟩ ++ NT) by
      rw [HT3.out]; unfold lineW; rw [hdf, if_neg (by decide), List.append_nil])
    go_wp2_with (first | (go_at_call 23; (with_reducible refine (HNT.out _).mono ?_); rintro e w' ⟨rfl, ⟨osj, dj, rfl⟩⟩))
    go_returns
    exact ⟨by rw [HE, HF.out]; rfl, by (first | ((repeat (first | with_reducible exact Junk.refl _ | with_reducible exact Junk.app _ _ _ _ _ | with_reducible apply Junk.alloc | with_reducible apply Junk.junk | with_reducible apply Junk.drew | with_reducible apply Junk.drewN)); done) | ((try simp only [World.junk_junk, Array.append_assoc]); (repeat (first | with_reducible exact Junk.refl _ | with_reducible exact Junk.app _ _ _ _ _ | with_reducible exact Junk.app2 _ _ _ _ _ _ | with_reducible exact Junk.app3 _ _ _ _ _ _ _ | with_reducible exact Junk.app4 _ _ _ _ _ _ _ _ | with_reducible exact Junk.app5 _ _ _ _ _ _ _ _ _ | with_reducible apply Junk.alloc | with_reducible apply Junk.junk | with_reducible apply Junk.drew | with_reducible apply Junk.drewN))))⟩
end Go.Proofs.YtfkhnhenemgcmaaDoor
