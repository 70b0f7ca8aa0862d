/- reasm.buffer, a way of it. -/
import Derived.Test.YtgjppmkadmfibaaRsE
set_option linter.unusedVariables false
set_option maxRecDepth 100000
set_option linter.unusedSimpArgs false
namespace Go.Proofs.Ytgjppmkadmfibaa
open Go.RowKit
set_option maxRecDepth 100000 in
set_option maxHeartbeats 32000000 in
theorem buffer_true_n (src dst id proto born total now : Int) (h : Ip) (F : List Ot) (ho hb ro : Option Addr) (hoc hbc rc n : Nat) (w : World) (ht : ¬ total = -1) (hn : F.length = n) (hn6 : n ≤ 1000000) (htot : -9223372036854775808 ≤ total ∧ total ≤ 9223372036854775807) (hol : h.ol ≤ 1000) (hin : BfIn w (⟨src, dst, id, proto, born, h, true, total, F, ho, hoc, hb, hbc, ro, rc⟩ : Bf)) :
    Calls Try.prog 37 #[.agg #[.int .u32 src, .int .u32 dst, .int .i64 id, .int .i64 proto, .int .i64 born, .int .i64 h.tos, .int .i64 h.id, .bool h.df, .bool h.mf, .int .i64 h.off, .int .i64 h.ttl, .int .i64 h.proto, .int .u32 h.src, .int .u32 h.dst, .slice ho h.ol hoc, .slice hb h.bl hbc, .bool true, .int .i64 total, .slice ro n rc], .int .i64 now] w fun e w' => e = .returned (.bool (bufB (⟨src, dst, id, proto, born, h, true, total, F, ho, hoc, hb, hbc, ro, rc⟩ : Bf).q now)) ∧ Junk w w' := by
  obtain ⟨R, hR⟩ : ∃ R, bufB (⟨src, dst, id, proto, born, h, true, total, F, ho, hoc, hb, hbc, ro, rc⟩ : Bf).q now = R := ⟨_, rfl⟩
  rw [hR]
  have HR := Lib.hid hR
  have HIN := Lib.hid hin
  have HTT := Lib.hid ht
  clear ht
  obtain ⟨q, hq⟩ : ∃ q, (⟨src, dst, id, proto, born, h, true, total, F, ho, hoc, hb, hbc, ro, rc⟩ : Bf).q = q := ⟨_, rfl⟩
  have HRU := Lib.hid (fun w1 (hi : BfIn w1 (⟨src, dst, id, proto, born, h, true, total, F, ho, hoc, hb, hbc, ro, rc⟩ : Bf)) => show Calls Try.prog 57 #[.agg #[.int .u32 src, .int .u32 dst, .int .i64 id, .int .i64 proto, .int .i64 born, .int .i64 h.tos, .int .i64 h.id, .bool h.df, .bool h.mf, .int .i64 h.off, .int .i64 h.ttl, .int .i64 h.proto, .int .u32 h.src, .int .u32 h.dst, .slice ho h.ol hoc, .slice hb h.bl hbc, .bool true, .int .i64 total, .slice ro n rc]] w1 fun e w' => e = .returned (.bool (runsB q)) ∧ Junk w1 w' from by
    have := runs_any (⟨src, dst, id, proto, born, h, true, total, F, ho, hoc, hb, hbc, ro, rc⟩ : Bf) n w1 hi.runs hn hn6 htot
    rw [hq] at this
    exact this)
  have HQ := Lib.hid hq
  have HE := Lib.hid (show R = (wiR born 0 now && (runsB q && (((total == -1) || wiR total 1 65535) && ((true == (off0 q == 0)) && (decide (h.ol ≤ 40) && (sameIp h (headI h) && (true || sameIp h zeroIp))))))) from by rw [← hR, ← hq]; rfl)
  clear hin hR
  have HBAD := Lib.hid (show ∀ b : Bool, b = false → R = b → R = false from fun b hb h => h.trans hb)
  cases h1 : wiR born 0 now with
  | false =>
    have H1 := Lib.hid (fun w1 => show Calls Try.prog 21 #[.int .i64 born, .int .i64 0, .int .i64 now] w1 fun e w' => e = .returned (.bool false) ∧ Junk w1 w' from by rw [← h1]; exact rin_any born 0 now w1)
    have HF := Lib.hid (show R = false from by rw [HE.out, h1]; simp)
    go_enter Try.func37, Try.ntmps37
    go_upto_region 1 with (first | fail)
    refine wp_region_junk (by kernel_rfl) (by kernel_rfl) ?_
    repeat (go_big_quiet_step (first | (go_at_call 21; first | with_reducible exact Calls.junk_of3 (H1.out _) | with_reducible exact Calls.junk_of2 (H1.out _) | with_reducible exact Calls.junk_of (H1.out _))))
    refine wpQuiet_nil ?_; rintro _ ⟨⟨osq1, dq1⟩, rfl⟩
    go_wp2
    go_ret
    exact ⟨by rw [HF.out]; rfl, by (exact jkc)⟩
  | true =>
    have H1 := Lib.hid (fun w1 => show Calls Try.prog 21 #[.int .i64 born, .int .i64 0, .int .i64 now] w1 fun e w' => e = .returned (.bool true) ∧ Junk w1 w' from by rw [← h1]; exact rin_any born 0 now w1)
    cases h2 : runsB q with
    | false =>
      have H2 := Lib.hid (fun w1 (hi : BfIn w1 (⟨src, dst, id, proto, born, h, true, total, F, ho, hoc, hb, hbc, ro, rc⟩ : Bf)) => show Calls Try.prog 57 #[.agg #[.int .u32 src, .int .u32 dst, .int .i64 id, .int .i64 proto, .int .i64 born, .int .i64 h.tos, .int .i64 h.id, .bool h.df, .bool h.mf, .int .i64 h.off, .int .i64 h.ttl, .int .i64 h.proto, .int .u32 h.src, .int .u32 h.dst, .slice ho h.ol hoc, .slice hb h.bl hbc, .bool true, .int .i64 total, .slice ro n rc]] w1 fun e w' => e = .returned (.bool false) ∧ Junk w1 w' from by have h3 := HRU.out w1 hi; rw [h2] at h3; exact h3)
      have HF := Lib.hid (show R = false from by rw [HE.out, h1, h2]; simp)
      go_enter Try.func37, Try.ntmps37
      go_upto_region 1 with (first | fail)
      refine wp_region_junk (by kernel_rfl) (by kernel_rfl) ?_
      iterate 6 (go_big_quiet_step (first | (go_at_call 21; first | with_reducible exact Calls.junk_of3 (H1.out _) | with_reducible exact Calls.junk_of2 (H1.out _) | with_reducible exact Calls.junk_of (H1.out _)) | (go_at_call 57; first | with_reducible exact Calls.junk_of3 (H2.out _ (HIN.out.on (by (exact jkc)))) | with_reducible exact Calls.junk_of2 (H2.out _ (HIN.out.on (by (exact jkc)))) | with_reducible exact Calls.junk_of (H2.out _ (HIN.out.on (by (exact jkc)))))))
      refine wpQuiet_loadAgg (by first | rfl | (simp [Region.wanted, yielded]; done)) 45 _ rfl Try.isAgg45 _ 0 [.int .u32 src, .int .u32 dst, .int .i64 id, .int .i64 proto, .int .i64 born, .int .i64 h.tos, .int .i64 h.id, .bool h.df, .bool h.mf, .int .i64 h.off, .int .i64 h.ttl, .int .i64 h.proto, .int .u32 h.src, .int .u32 h.dst, .slice ho h.ol hoc, .slice hb h.bl hbc, .bool true, .int .i64 total, .slice ro n rc] Try.sizeOf45 rfl box_cells ?_; conv => arg 6; simp only [Act.put, List.setIfInBounds_toArray, List.set_cons_zero, List.set_cons_succ]
      repeat (go_big_quiet_step (first | (go_at_call 21; first | with_reducible exact Calls.junk_of3 (H1.out _) | with_reducible exact Calls.junk_of2 (H1.out _) | with_reducible exact Calls.junk_of (H1.out _)) | (go_at_call 57; first | with_reducible exact Calls.junk_of3 (H2.out _ (HIN.out.on (by (exact jkc)))) | with_reducible exact Calls.junk_of2 (H2.out _ (HIN.out.on (by (exact jkc)))) | with_reducible exact Calls.junk_of (H2.out _ (HIN.out.on (by (exact jkc)))))))
      refine wpQuiet_nil ?_; rintro _ ⟨⟨osq1, dq1⟩, rfl⟩
      go_wp2
      go_ret
      exact ⟨by rw [HF.out]; rfl, by (exact jkc)⟩
    | true =>
      have H2 := Lib.hid (fun w1 (hi : BfIn w1 (⟨src, dst, id, proto, born, h, true, total, F, ho, hoc, hb, hbc, ro, rc⟩ : Bf)) => show Calls Try.prog 57 #[.agg #[.int .u32 src, .int .u32 dst, .int .i64 id, .int .i64 proto, .int .i64 born, .int .i64 h.tos, .int .i64 h.id, .bool h.df, .bool h.mf, .int .i64 h.off, .int .i64 h.ttl, .int .i64 h.proto, .int .u32 h.src, .int .u32 h.dst, .slice ho h.ol hoc, .slice hb h.bl hbc, .bool true, .int .i64 total, .slice ro n rc]] w1 fun e w' => e = .returned (.bool true) ∧ Junk w1 w' from by have h3 := HRU.out w1 hi; rw [h2] at h3; exact h3)
      obtain ⟨f, hf, hoff, hk0⟩ := runsB_pos h2
      rw [← hq] at hf
      obtain ⟨f0, hf0, rfl⟩ : ∃ f0, F[0]? = some f0 ∧ f0.d = f := by
        unfold Bf.q at hf
        simp only [List.getElem?_map, Option.map_eq_some_iff] at hf
        exact hf
      obtain ⟨gx, ox, hox, hgx, d0, d1, hB⟩ := HIN.out.runs 0 f0 hf0
      rw [show ox + 0 * 2 = ox by omega] at d0
      have hn1 : 0 < n := by rw [← hn]; exact (List.getElem?_eq_some_iff.1 hf0).1
      have hoff2 : off0 q = f0.k := hoff
      subst hox
      clear hf hoff hk0 d1 hB hf0
      have ht := HTT.out
      have htb : (total == -1) = false := by simpa using ht
      have htb2 : (total != -1) = true := by simp [bne, htb]
      cases h3 : wiR total 1 65535 with
      | false =>
        have H3 := Lib.hid (fun w1 => show Calls Try.prog 21 #[.int .i64 total, .int .i64 1, .int .i64 65535] w1 fun e w' => e = .returned (.bool false) ∧ Junk w1 w' from by rw [← h3]; exact rin_any total 1 65535 w1)
        have htt : ((total == -1) || wiR total 1 65535) = false := by rw [h3, htb]; rfl
        have HF := Lib.hid (show R = false from by rw [HE.out, h1, h2, hoff2, htt]; simp)
        go_enter Try.func37, Try.ntmps37
        go_upto_region 1 with (first | fail)
        refine wp_region_junk (by kernel_rfl) (by kernel_rfl) ?_
        iterate 6 (go_big_quiet_step (first | (go_at_call 21; first | with_reducible exact Calls.junk_of3 (H1.out _) | with_reducible exact Calls.junk_of2 (H1.out _) | with_reducible exact Calls.junk_of (H1.out _)) | (go_at_call 21; first | with_reducible exact Calls.junk_of3 (H3.out _) | with_reducible exact Calls.junk_of2 (H3.out _) | with_reducible exact Calls.junk_of (H3.out _)) | (go_at_call 57; first | with_reducible exact Calls.junk_of3 (H2.out _ (HIN.out.on (by (exact jkc)))) | with_reducible exact Calls.junk_of2 (H2.out _ (HIN.out.on (by (exact jkc)))) | with_reducible exact Calls.junk_of (H2.out _ (HIN.out.on (by (exact jkc)))))))
        refine wpQuiet_loadAgg (by first | rfl | (simp [Region.wanted, yielded]; done)) 45 _ rfl Try.isAgg45 _ 0 [.int .u32 src, .int .u32 dst, .int .i64 id, .int .i64 proto, .int .i64 born, .int .i64 h.tos, .int .i64 h.id, .bool h.df, .bool h.mf, .int .i64 h.off, .int .i64 h.ttl, .int .i64 h.proto, .int .u32 h.src, .int .u32 h.dst, .slice ho h.ol hoc, .slice hb h.bl hbc, .bool true, .int .i64 total, .slice (some ⟨gx, ox, none⟩) n rc] Try.sizeOf45 rfl box_cells ?_; conv => arg 6; simp only [Act.put, List.setIfInBounds_toArray, List.set_cons_zero, List.set_cons_succ]
        repeat (go_big_quiet_step (first | (go_at_call 21; first | with_reducible exact Calls.junk_of3 (H1.out _) | with_reducible exact Calls.junk_of2 (H1.out _) | with_reducible exact Calls.junk_of (H1.out _)) | (go_at_call 21; first | with_reducible exact Calls.junk_of3 (H3.out _) | with_reducible exact Calls.junk_of2 (H3.out _) | with_reducible exact Calls.junk_of (H3.out _)) | (go_at_call 57; first | with_reducible exact Calls.junk_of3 (H2.out _ (HIN.out.on (by (exact jkc)))) | with_reducible exact Calls.junk_of2 (H2.out _ (HIN.out.on (by (exact jkc)))) | with_reducible exact Calls.junk_of (H2.out _ (HIN.out.on (by (exact jkc)))))))
        refine wpQuiet_nil ?_; rintro _ ⟨⟨osq1, dq1⟩, rfl⟩
        go_wp2
        go_ret
        exact ⟨by rw [HF.out]; rfl, by (exact jkc)⟩
      | true =>
        have H3 := Lib.hid (fun w1 => show Calls Try.prog 21 #[.int .i64 total, .int .i64 1, .int .i64 65535] w1 fun e w' => e = .returned (.bool true) ∧ Junk w1 w' from by rw [← h3]; exact rin_any total 1 65535 w1)
        have htt : ((total == -1) || wiR total 1 65535) = true := by rw [h3]; simp
        by_cases hz : f0.k = 0
        · by_cases h4 : h.ol ≤ 40
          · have h40 : (h.ol : Int) ≤ 40 := by omega
            have HS0 := Lib.hid (show R = (sameIp h (headI h) && (true || sameIp h zeroIp)) from by rw [HE.out, h1, h2, hoff2, htt]; simp [hz, h4])
            obtain ⟨S2, hS2⟩ : ∃ S2, sameIp h zeroIp = S2 := ⟨_, rfl⟩
            rw [hS2] at HS0
            have HC2 := Lib.hid (fun w1 hp => show Calls Try.prog 19 #[.agg #[.int .i64 h.tos, .int .i64 h.id, .bool h.df, .bool h.mf, .int .i64 h.off, .int .i64 h.ttl, .int .i64 h.proto, .int .u32 h.src, .int .u32 h.dst, .slice ho h.ol hoc, .slice hb h.bl hbc], .agg #[.int .i64 0, .int .i64 0, .bool false, .bool false, .int .i64 0, .int .i64 0, .int .i64 0, .int .u32 0, .int .u32 0, .slice none 0 0, .slice none 0 0]] w1 fun e w' => e = .returned (.bool S2) ∧ Junk w1 w' from by rw [← hS2]; exact ipSame_any h zeroIp ho hb none none hoc hbc 0 0 w1 hp ⟨bts_none _ _, bts_none _ _, by decide, by decide⟩)
            have HHD := Lib.hid (show IpAt w h ho hoc hb hbc from HIN.out.head)
            cases hs1 : sameIp h (headI h) with
            | false =>
              rw [hs1] at HS0
              have HC1 := Lib.hid (fun w1 o1 c1 hp hq => show Calls Try.prog 19 #[.agg #[.int .i64 h.tos, .int .i64 h.id, .bool h.df, .bool h.mf, .int .i64 h.off, .int .i64 h.ttl, .int .i64 h.proto, .int .u32 h.src, .int .u32 h.dst, .slice ho h.ol hoc, .slice hb h.bl hbc], .agg #[.int .i64 (headI h).tos, .int .i64 (headI h).id, .bool (headI h).df, .bool (headI h).mf, .int .i64 (headI h).off, .int .i64 (headI h).ttl, .int .i64 (headI h).proto, .int .u32 (headI h).src, .int .u32 (headI h).dst, .slice o1 (headI h).ol c1, .slice none (headI h).bl 0]] w1 fun e w' => e = .returned (.bool false) ∧ Junk w1 w' from by rw [← hs1]; exact ipSame_any h (headI h) ho hb o1 none hoc hbc c1 0 w1 hp hq)
              go_enter Try.func37, Try.ntmps37
              go_upto_region 1 with (first | fail)
              refine wp_region_junk (by kernel_rfl) (by kernel_rfl) ?_
              iterate 6 (go_big_quiet_step (first | (go_at_call 21; first | with_reducible exact Calls.junk_of3 (H1.out _) | with_reducible exact Calls.junk_of2 (H1.out _) | with_reducible exact Calls.junk_of (H1.out _)) | (go_at_call 21; first | with_reducible exact Calls.junk_of3 (H3.out _) | with_reducible exact Calls.junk_of2 (H3.out _) | with_reducible exact Calls.junk_of (H3.out _)) | (go_at_call 57; first | with_reducible exact Calls.junk_of3 (H2.out _ (HIN.out.on (by (exact jkc)))) | with_reducible exact Calls.junk_of2 (H2.out _ (HIN.out.on (by (exact jkc)))) | with_reducible exact Calls.junk_of (H2.out _ (HIN.out.on (by (exact jkc)))))))
              refine wpQuiet_loadAgg (by first | rfl | (simp [Region.wanted, yielded]; done)) 45 _ rfl Try.isAgg45 _ 0 [.int .u32 src, .int .u32 dst, .int .i64 id, .int .i64 proto, .int .i64 born, .int .i64 h.tos, .int .i64 h.id, .bool h.df, .bool h.mf, .int .i64 h.off, .int .i64 h.ttl, .int .i64 h.proto, .int .u32 h.src, .int .u32 h.dst, .slice ho h.ol hoc, .slice hb h.bl hbc, .bool true, .int .i64 total, .slice (some ⟨gx, ox, none⟩) n rc] Try.sizeOf45 rfl box_cells ?_; conv => arg 6; simp only [Act.put, List.setIfInBounds_toArray, List.set_cons_zero, List.set_cons_succ]
              repeat (go_big_quiet_step (first | (go_at_call 21; first | with_reducible exact Calls.junk_of3 (H1.out _) | with_reducible exact Calls.junk_of2 (H1.out _) | with_reducible exact Calls.junk_of (H1.out _)) | (go_at_call 21; first | with_reducible exact Calls.junk_of3 (H3.out _) | with_reducible exact Calls.junk_of2 (H3.out _) | with_reducible exact Calls.junk_of (H3.out _)) | (go_at_call 57; first | with_reducible exact Calls.junk_of3 (H2.out _ (HIN.out.on (by (exact jkc)))) | with_reducible exact Calls.junk_of2 (H2.out _ (HIN.out.on (by (exact jkc)))) | with_reducible exact Calls.junk_of (H2.out _ (HIN.out.on (by (exact jkc)))))))
              refine wpQuiet_nil ?_; rintro _ ⟨⟨osq1, dq1⟩, rfl⟩
              go_upto_region 3 with (first | fail)
              try simp only [World.junk_junk]
              refine wp_region_mixj (_) [(0, true), (1, true), (2, true), (3, true), (4, false), (5, false), (6, true), (7, true), (8, true), (9, true), (10, true), (11, true), (12, true), (13, false), (14, true), (15, true), (16, true)] (by kernel_rfl) (by kernel_rfl) (by exact Junk.refl _) ?_; (iterate 4 (refine wpMix_q rfl (fun K hK => ?_); (go_simp; try go_bits); (refine hK _ ?_; clear hK K))); refine wpMix_e rfl (fun osm3_0 dm3_0 K hK => ?_); (go_simp; try go_bits); (go_at_call 56; (with_reducible refine (rhead_any h ho hb hoc hbc _ (by omega) (HHD.out.on (by (exact jkc)))).mono ?_); rintro e w' ⟨o1, c1, rfl, ⟨osj, dj, rfl⟩, hh1⟩; have HH1 := Lib.hid hh1; clear hh1); refine hK _ _ (Junk.pair (by (first | exact jkc | repeat (first | with_reducible exact Junk.refl _ | with_reducible exact Junk.app _ _ _ _ _ | with_reducible apply Junk.alloc | with_reducible apply Junk.junk | with_reducible apply Junk.drew | with_reducible apply Junk.drewN | (with_reducible refine Junk.setCell ?_ (by simp) _))))) ?_; clear hK K; refine wpMix_e rfl (fun osm3_1 dm3_1 K hK => ?_); (go_simp; try go_bits); (go_at_call 19; (with_reducible refine (HC1.out _ o1 c1 (HHD.out.on (by (exact jkc))) (HH1.out.on (by (exact jkc)))).mono ?_); rintro e w' ⟨rfl, ⟨osj2, dj2, rfl⟩⟩); refine hK _ _ (Junk.pair (by (first | exact jkc | repeat (first | with_reducible exact Junk.refl _ | with_reducible exact Junk.app _ _ _ _ _ | with_reducible apply Junk.alloc | with_reducible apply Junk.junk | with_reducible apply Junk.drew | with_reducible apply Junk.drewN | (with_reducible refine Junk.setCell ?_ (by simp) _))))) ?_; clear hK K; (iterate 7 (refine wpMix_q rfl (fun K hK => ?_); (go_simp; try go_bits); (refine hK _ ?_; clear hK K))); refine wpMix_e rfl (fun osm3_2 dm3_2 K hK => ?_); (go_simp; try go_bits); (first | (go_at_call 19; (with_reducible refine (HC2.out _ (HHD.out.on (by (exact jkc)))).mono ?_); rintro e w' ⟨rfl, ⟨osj3, dj3, rfl⟩⟩) | skip); refine hK _ _ (Junk.pair (by (first | exact jkc | repeat (first | with_reducible exact Junk.refl _ | with_reducible exact Junk.app _ _ _ _ _ | with_reducible apply Junk.alloc | with_reducible apply Junk.junk | with_reducible apply Junk.drew | with_reducible apply Junk.drewN | (with_reducible refine Junk.setCell ?_ (by simp) _))))) ?_; clear hK K; (iterate 3 (refine wpMix_q rfl (fun K hK => ?_); (go_simp; try go_bits); (refine hK _ ?_; clear hK K))); refine wpMix_nil (fun osm dm => ?_)
              go_wp2
              go_ret
              exact ⟨by rw [HS0.out]; rfl, by (exact jkc)⟩
            | true =>
              rw [hs1] at HS0
              have HC1 := Lib.hid (fun w1 o1 c1 hp hq => show Calls Try.prog 19 #[.agg #[.int .i64 h.tos, .int .i64 h.id, .bool h.df, .bool h.mf, .int .i64 h.off, .int .i64 h.ttl, .int .i64 h.proto, .int .u32 h.src, .int .u32 h.dst, .slice ho h.ol hoc, .slice hb h.bl hbc], .agg #[.int .i64 (headI h).tos, .int .i64 (headI h).id, .bool (headI h).df, .bool (headI h).mf, .int .i64 (headI h).off, .int .i64 (headI h).ttl, .int .i64 (headI h).proto, .int .u32 (headI h).src, .int .u32 (headI h).dst, .slice o1 (headI h).ol c1, .slice none (headI h).bl 0]] w1 fun e w' => e = .returned (.bool true) ∧ Junk w1 w' from by rw [← hs1]; exact ipSame_any h (headI h) ho hb o1 none hoc hbc c1 0 w1 hp hq)
              go_enter Try.func37, Try.ntmps37
              go_upto_region 1 with (first | fail)
              refine wp_region_junk (by kernel_rfl) (by kernel_rfl) ?_
              iterate 6 (go_big_quiet_step (first | (go_at_call 21; first | with_reducible exact Calls.junk_of3 (H1.out _) | with_reducible exact Calls.junk_of2 (H1.out _) | with_reducible exact Calls.junk_of (H1.out _)) | (go_at_call 21; first | with_reducible exact Calls.junk_of3 (H3.out _) | with_reducible exact Calls.junk_of2 (H3.out _) | with_reducible exact Calls.junk_of (H3.out _)) | (go_at_call 57; first | with_reducible exact Calls.junk_of3 (H2.out _ (HIN.out.on (by (exact jkc)))) | with_reducible exact Calls.junk_of2 (H2.out _ (HIN.out.on (by (exact jkc)))) | with_reducible exact Calls.junk_of (H2.out _ (HIN.out.on (by (exact jkc)))))))
              refine wpQuiet_loadAgg (by first | rfl | (simp [Region.wanted, yielded]; done)) 45 _ rfl Try.isAgg45 _ 0 [.int .u32 src, .int .u32 dst, .int .i64 id, .int .i64 proto, .int .i64 born, .int .i64 h.tos, .int .i64 h.id, .bool h.df, .bool h.mf, .int .i64 h.off, .int .i64 h.ttl, .int .i64 h.proto, .int .u32 h.src, .int .u32 h.dst, .slice ho h.ol hoc, .slice hb h.bl hbc, .bool true, .int .i64 total, .slice (some ⟨gx, ox, none⟩) n rc] Try.sizeOf45 rfl box_cells ?_; conv => arg 6; simp only [Act.put, List.setIfInBounds_toArray, List.set_cons_zero, List.set_cons_succ]
              repeat (go_big_quiet_step (first | (go_at_call 21; first | with_reducible exact Calls.junk_of3 (H1.out _) | with_reducible exact Calls.junk_of2 (H1.out _) | with_reducible exact Calls.junk_of (H1.out _)) | (go_at_call 21; first | with_reducible exact Calls.junk_of3 (H3.out _) | with_reducible exact Calls.junk_of2 (H3.out _) | with_reducible exact Calls.junk_of (H3.out _)) | (go_at_call 57; first | with_reducible exact Calls.junk_of3 (H2.out _ (HIN.out.on (by (exact jkc)))) | with_reducible exact Calls.junk_of2 (H2.out _ (HIN.out.on (by (exact jkc)))) | with_reducible exact Calls.junk_of (H2.out _ (HIN.out.on (by (exact jkc)))))))
              refine wpQuiet_nil ?_; rintro _ ⟨⟨osq1, dq1⟩, rfl⟩
              go_upto_region 3 with (first | fail)
              try simp only [World.junk_junk]
              refine wp_region_mixj (_) [(0, true), (1, true), (2, true), (3, true), (4, false), (5, false), (6, true), (7, true), (8, true), (9, true), (10, true), (11, true), (12, true), (13, false), (14, true), (15, true), (16, true)] (by kernel_rfl) (by kernel_rfl) (by exact Junk.refl _) ?_; (iterate 4 (refine wpMix_q rfl (fun K hK => ?_); (go_simp; try go_bits); (refine hK _ ?_; clear hK K))); refine wpMix_e rfl (fun osm3_0 dm3_0 K hK => ?_); (go_simp; try go_bits); (go_at_call 56; (with_reducible refine (rhead_any h ho hb hoc hbc _ (by omega) (HHD.out.on (by (exact jkc)))).mono ?_); rintro e w' ⟨o1, c1, rfl, ⟨osj, dj, rfl⟩, hh1⟩; have HH1 := Lib.hid hh1; clear hh1); refine hK _ _ (Junk.pair (by (first | exact jkc | repeat (first | with_reducible exact Junk.refl _ | with_reducible exact Junk.app _ _ _ _ _ | with_reducible apply Junk.alloc | with_reducible apply Junk.junk | with_reducible apply Junk.drew | with_reducible apply Junk.drewN | (with_reducible refine Junk.setCell ?_ (by simp) _))))) ?_; clear hK K; refine wpMix_e rfl (fun osm3_1 dm3_1 K hK => ?_); (go_simp; try go_bits); (go_at_call 19; (with_reducible refine (HC1.out _ o1 c1 (HHD.out.on (by (exact jkc))) (HH1.out.on (by (exact jkc)))).mono ?_); rintro e w' ⟨rfl, ⟨osj2, dj2, rfl⟩⟩); refine hK _ _ (Junk.pair (by (first | exact jkc | repeat (first | with_reducible exact Junk.refl _ | with_reducible exact Junk.app _ _ _ _ _ | with_reducible apply Junk.alloc | with_reducible apply Junk.junk | with_reducible apply Junk.drew | with_reducible apply Junk.drewN | (with_reducible refine Junk.setCell ?_ (by simp) _))))) ?_; clear hK K; (iterate 7 (refine wpMix_q rfl (fun K hK => ?_); (go_simp; try go_bits); (refine hK _ ?_; clear hK K))); refine wpMix_e rfl (fun osm3_2 dm3_2 K hK => ?_); (go_simp; try go_bits); (first | (go_at_call 19; (with_reducible refine (HC2.out _ (HHD.out.on (by (exact jkc)))).mono ?_); rintro e w' ⟨rfl, ⟨osj3, dj3, rfl⟩⟩) | skip); refine hK _ _ (Junk.pair (by (first | exact jkc | repeat (first | with_reducible exact Junk.refl _ | with_reducible exact Junk.app _ _ _ _ _ | with_reducible apply Junk.alloc | with_reducible apply Junk.junk | with_reducible apply Junk.drew | with_reducible apply Junk.drewN | (with_reducible refine Junk.setCell ?_ (by simp) _))))) ?_; clear hK K; (iterate 3 (refine wpMix_q rfl (fun K hK => ?_); (go_simp; try go_bits); (refine hK _ ?_; clear hK K))); refine wpMix_nil (fun osm dm => ?_)
              go_wp2
              go_ret
              exact ⟨by rw [HS0.out]; rfl, by (exact jkc)⟩
          · have h40 : ¬ (h.ol : Int) ≤ 40 := by omega
            have HF := Lib.hid (show R = false from by rw [HE.out, h1, h2, hoff2, htt]; simp [hz, h4])
            go_enter Try.func37, Try.ntmps37
            go_upto_region 1 with (first | fail)
            refine wp_region_junk (by kernel_rfl) (by kernel_rfl) ?_
            iterate 6 (go_big_quiet_step (first | (go_at_call 21; first | with_reducible exact Calls.junk_of3 (H1.out _) | with_reducible exact Calls.junk_of2 (H1.out _) | with_reducible exact Calls.junk_of (H1.out _)) | (go_at_call 21; first | with_reducible exact Calls.junk_of3 (H3.out _) | with_reducible exact Calls.junk_of2 (H3.out _) | with_reducible exact Calls.junk_of (H3.out _)) | (go_at_call 57; first | with_reducible exact Calls.junk_of3 (H2.out _ (HIN.out.on (by (exact jkc)))) | with_reducible exact Calls.junk_of2 (H2.out _ (HIN.out.on (by (exact jkc)))) | with_reducible exact Calls.junk_of (H2.out _ (HIN.out.on (by (exact jkc)))))))
            refine wpQuiet_loadAgg (by first | rfl | (simp [Region.wanted, yielded]; done)) 45 _ rfl Try.isAgg45 _ 0 [.int .u32 src, .int .u32 dst, .int .i64 id, .int .i64 proto, .int .i64 born, .int .i64 h.tos, .int .i64 h.id, .bool h.df, .bool h.mf, .int .i64 h.off, .int .i64 h.ttl, .int .i64 h.proto, .int .u32 h.src, .int .u32 h.dst, .slice ho h.ol hoc, .slice hb h.bl hbc, .bool true, .int .i64 total, .slice (some ⟨gx, ox, none⟩) n rc] Try.sizeOf45 rfl box_cells ?_; conv => arg 6; simp only [Act.put, List.setIfInBounds_toArray, List.set_cons_zero, List.set_cons_succ]
            repeat (go_big_quiet_step (first | (go_at_call 21; first | with_reducible exact Calls.junk_of3 (H1.out _) | with_reducible exact Calls.junk_of2 (H1.out _) | with_reducible exact Calls.junk_of (H1.out _)) | (go_at_call 21; first | with_reducible exact Calls.junk_of3 (H3.out _) | with_reducible exact Calls.junk_of2 (H3.out _) | with_reducible exact Calls.junk_of (H3.out _)) | (go_at_call 57; first | with_reducible exact Calls.junk_of3 (H2.out _ (HIN.out.on (by (exact jkc)))) | with_reducible exact Calls.junk_of2 (H2.out _ (HIN.out.on (by (exact jkc)))) | with_reducible exact Calls.junk_of (H2.out _ (HIN.out.on (by (exact jkc)))))))
            refine wpQuiet_nil ?_; rintro _ ⟨⟨osq1, dq1⟩, rfl⟩
            go_wp2
            go_ret
            exact ⟨by rw [HF.out]; rfl, by (exact jkc)⟩
        · have hzb : (f0.k == 0) = false := by simpa using hz
          have HF := Lib.hid (show R = false from by rw [HE.out, h1, h2, hoff2, htt]; simp [hz])
          go_enter Try.func37, Try.ntmps37
          go_upto_region 1 with (first | fail)
          refine wp_region_junk (by kernel_rfl) (by kernel_rfl) ?_
          iterate 6 (go_big_quiet_step (first | (go_at_call 21; first | with_reducible exact Calls.junk_of3 (H1.out _) | with_reducible exact Calls.junk_of2 (H1.out _) | with_reducible exact Calls.junk_of (H1.out _)) | (go_at_call 21; first | with_reducible exact Calls.junk_of3 (H3.out _) | with_reducible exact Calls.junk_of2 (H3.out _) | with_reducible exact Calls.junk_of (H3.out _)) | (go_at_call 57; first | with_reducible exact Calls.junk_of3 (H2.out _ (HIN.out.on (by (exact jkc)))) | with_reducible exact Calls.junk_of2 (H2.out _ (HIN.out.on (by (exact jkc)))) | with_reducible exact Calls.junk_of (H2.out _ (HIN.out.on (by (exact jkc)))))))
          refine wpQuiet_loadAgg (by first | rfl | (simp [Region.wanted, yielded]; done)) 45 _ rfl Try.isAgg45 _ 0 [.int .u32 src, .int .u32 dst, .int .i64 id, .int .i64 proto, .int .i64 born, .int .i64 h.tos, .int .i64 h.id, .bool h.df, .bool h.mf, .int .i64 h.off, .int .i64 h.ttl, .int .i64 h.proto, .int .u32 h.src, .int .u32 h.dst, .slice ho h.ol hoc, .slice hb h.bl hbc, .bool true, .int .i64 total, .slice (some ⟨gx, ox, none⟩) n rc] Try.sizeOf45 rfl box_cells ?_; conv => arg 6; simp only [Act.put, List.setIfInBounds_toArray, List.set_cons_zero, List.set_cons_succ]
          repeat (go_big_quiet_step (first | (go_at_call 21; first | with_reducible exact Calls.junk_of3 (H1.out _) | with_reducible exact Calls.junk_of2 (H1.out _) | with_reducible exact Calls.junk_of (H1.out _)) | (go_at_call 21; first | with_reducible exact Calls.junk_of3 (H3.out _) | with_reducible exact Calls.junk_of2 (H3.out _) | with_reducible exact Calls.junk_of (H3.out _)) | (go_at_call 57; first | with_reducible exact Calls.junk_of3 (H2.out _ (HIN.out.on (by (exact jkc)))) | with_reducible exact Calls.junk_of2 (H2.out _ (HIN.out.on (by (exact jkc)))) | with_reducible exact Calls.junk_of (H2.out _ (HIN.out.on (by (exact jkc)))))))
          refine wpQuiet_nil ?_; rintro _ ⟨⟨osq1, dq1⟩, rfl⟩
          go_wp2
          go_ret
          exact ⟨by rw [HF.out]; rfl, by (exact jkc)⟩
end Go.Proofs.Ytgjppmkadmfibaa
