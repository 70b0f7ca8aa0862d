/- The law IpBack: what is put is parsed as it was, whatever stands behind it; what is parsed is put as it was, but for a check sum of 65535 where 0 would do. -/
import Derived.Test.YteegeckkfdeccaaIpBackP
import Derived.Deep.DeepCutAuto
set_option linter.unusedVariables false
set_option linter.unusedSimpArgs false
namespace Go.Proofs.Yteegeckkfdeccaa
open Go.RowKit
theorem bytesL_behind (N n : Nat) (ys xs : Nat → Int) : ((List.range N).map fun i => Value.int .u8 (ys i)) ++ ((List.range n).map fun i => .int .u8 (xs i)) = (List.range (N + n)).map fun i => Value.int .u8 (behind N ys xs i) := by
  rw [← @range_ext N n (fun i => Value.int .u8 (behind N ys xs i))]
  congr 1
  · apply List.map_congr_left
    intro i hi
    have : i < N := by simpa using hi
    simp [behind, this]
  · apply List.map_congr_left
    intro i _
    unfold behind
    rw [if_neg (by omega), Nat.add_sub_cancel_left]
theorem bts_sub3 {w : World} {oa : Option Addr} {n c : Nat} {xs : Nat → Int} (h : Bts w oa n c xs) (i l : Nat) (hij : i ≤ l) (hj : l ≤ n) (hc : c ≠ i) (b off : Nat) (ho : oa = some ⟨b, off, none⟩) :
    Bts w (some ⟨b, off + i, none⟩) (l - i) (c - i) (fun k => xs (i + k)) := by
  subst ho
  have := bts_sub h i l hij hj
  rwa [if_neg hc] at this
set_option maxRecDepth 100000 in
set_option maxHeartbeats 3000000 in
theorem ipBack_walk (p : Ip) (oo ob : Option Addr) (oc bc : Nat) (oa : Option Addr) (l c n : Nat) (xs : Nat → Int) (w : World) (hP : IpAt w p oo oc ob bc) (hB : Bts w oa l c xs) (hmin : (min (l : Int) 3000).toNat = n) (hn : n ≤ l) (hn3 : n ≤ 3000) :
    Calls Try.prog 12 #[.agg #[.int .i64 p.tos, .int .i64 p.id, .bool p.df, .bool p.mf, .int .i64 p.off, .int .i64 p.ttl, .int .i64 p.proto, .int .u32 p.src, .int .u32 p.dst, .slice oo p.ol oc, .slice ob p.bl bc], .slice oa l c] w fun e w' => e = .returned (.bool true) ∧ Junk w w' := by
  have HP := Lib.hid hP
  have HB := Lib.hid (bts_short hB n hn)
  have hlc := hB.le
  have hcm : c ≤ 9223372036854775807 := hB.cap
  clear hP hB
  go_enter Try.func12, Try.ntmps12
  go_upto_if 26 with (first | (go_at_call 29; refine (awake03_any _).mono ?_; rintro e w' ⟨rfl, ⟨osj, dj, rfl⟩⟩) | (go_at_call 32; (try simp only [World.junk_junk]); refine calls_gen (fun osA dA => ?_); refine (ipParse_any oa n c xs _ (by omega) (HB.out.on (by ((try simp only [World.junk_junk, Array.append_assoc]); (repeat (first | with_reducible exact Junk.refl _ | with_reducible exact Junk.app _ _ _ _ _ | with_reducible exact Junk.app2 _ _ _ _ _ _ | with_reducible exact Junk.app3 _ _ _ _ _ _ _ | with_reducible exact Junk.app4 _ _ _ _ _ _ _ _ | with_reducible exact Junk.app5 _ _ _ _ _ _ _ _ _ | with_reducible apply Junk.alloc | with_reducible apply Junk.junk | with_reducible apply Junk.drew | with_reducible apply Junk.drewN)))))).mono ?_; intro e w' hp; obtain ⟨q, oo3, ob3, oc3, bc3, rfl, ⟨osj2, dj2, rfl⟩, hq, hcase⟩ := hp; have HQ := Lib.hid hq; have HC := Lib.hid hcase; clear hq hcase))
  go_cut [] (fun wx => Junk (w.alloc (.cells #[.int .i64 p.tos, .int .i64 p.id, .bool p.df, .bool p.mf, .int .i64 p.off, .int .i64 p.ttl, .int .i64 p.proto, .int .u32 p.src, .int .u32 p.dst, .slice oo p.ol oc, .slice ob p.bl bc] 45)) wx)
  case first =>
    by_cases h0 : parseErr xs n = 0
    · have he : (parseErr xs n == 0) = true := by simp [h0]
      have hq : q = parseIp xs := by
        rcases HC.out with ⟨_, h⟩ | ⟨h, _⟩
        · exact h
        · exact absurd h0 h
      subst hq
      have hm := parse_may HB.out h0
      obtain ⟨l1, l2, l3, l4⟩ := parse_len h0
      have hpp := put_parsed HB.out h0
      obtain ⟨T, hT⟩ : ∃ T, T = ipTotal xs := ⟨_, rfl⟩
      rw [← hT] at l1 l2 l4 hpp
      have v1 : (parseIp xs).ol ≤ 100000000 := by omega
      have v2 : (parseIp xs).bl ≤ 100000000 := by omega
      have hs10 : sameN (pktB (parseIp xs)) xs 10 10 = true := by
        simp only [sameN, decide_eq_true_eq, true_and]
        exact fun i hi => hpp i (by omega) (by omega) (by omega)
      have hs12 : sameN (fun k => pktB (parseIp xs) (12 + k)) (fun k => xs (12 + k)) (T - 12) (T - 12) = true := by
        simp only [sameN, decide_eq_true_eq, true_and]
        exact fun i hi => hpp (12 + i) (by omega) (by omega) (by omega)
      obtain ⟨b, off, rfl, _, _⟩ := HB.out.at_ 0 (by omega)
      have HN := Lib.hid l1
      have hcc := HB.out.le
      have HB10 := Lib.hid (bts_short HB.out 10 (by omega))
      have HB12 := Lib.hid (bts_sub3 HB.out 12 T (by omega) l2 (by omega) b off rfl)
      have m1 : ¬ c = 12 := by omega
      have m2 : (T : Int) ≤ (n : Int) := by omega
      have m3 : (12 : Int) ≤ (T : Int) := by omega
      have m4 : (10 : Int) ≤ (c : Int) := by omega
      have m5 : (T : Int) ≤ (c : Int) := by omega
      clear hT hpp l1 l3 h0
      go_wp2_with (go_at_call 31; refine (ipPut_any (parseIp xs) oo3 ob3 oc3 bc3 _ v1 v2 (HQ.out.on (by ((try simp only [World.junk_junk, Array.append_assoc]); (repeat (first | with_reducible exact Junk.refl _ | with_reducible exact Junk.app _ _ _ _ _ | with_reducible exact Junk.app2 _ _ _ _ _ _ | with_reducible exact Junk.app3 _ _ _ _ _ _ _ | with_reducible exact Junk.app4 _ _ _ _ _ _ _ _ | with_reducible exact Junk.app5 _ _ _ _ _ _ _ _ _ | with_reducible apply Junk.alloc | with_reducible apply Junk.junk | with_reducible apply Junk.drew | with_reducible apply Junk.drewN)))))).mono ?_; intro e w' hp; obtain ⟨o1, c1, rfl, ⟨osj5, dj5, rfl⟩, hb, ho⟩ := hp.ok hm; clear hp; rw [HN.out] at hb ho ⊢; obtain ⟨g, rfl, _, _, _⟩ := own_some ho (by omega); have hbc := hb.le; have hb12 := bts_sub3 hb 12 T (by omega) (Nat.le_refl _) (by omega) g 0 rfl; rw [Nat.zero_add] at hb12; have Hb10 := Lib.hid (bts_short hb 10 (by omega)); have Hb12 := Lib.hid hb12; clear hb hb12 ho)
      have m6 : ¬ c1 = 12 := by omega
      have m7 : (10 : Int) ≤ (c1 : Int) := by omega
      have m8 : (T : Int) ≤ (c1 : Int) := by omega
      have m9 : (12 : Int) ≤ (c1 : Int) := by omega
      refine wp_region_junk (by kernel_rfl) (by kernel_rfl) ?_; (repeat (refine wpQuiet_step (fun K hK => ?_); (go_simp; try go_bits); first | (refine hK _ ?_; clear hK K) | (apply Exists.intro; refine ⟨fun _ => ?_, hK _ ?_⟩; (first | (go_at_call 21; first | with_reducible exact Calls.junk_of2 (rsame_any _ _ 10 _ 10 _ (pktB (parseIp xs)) xs _ (by omega) (by omega) (Hb10.out.at_.on (by ((try simp only [World.junk_junk, Array.append_assoc]); (repeat (first | with_reducible exact Junk.refl _ | with_reducible exact Junk.app _ _ _ _ _ | with_reducible exact Junk.app2 _ _ _ _ _ _ | with_reducible exact Junk.app3 _ _ _ _ _ _ _ | with_reducible exact Junk.app4 _ _ _ _ _ _ _ _ | with_reducible exact Junk.app5 _ _ _ _ _ _ _ _ _ | with_reducible apply Junk.alloc | with_reducible apply Junk.junk | with_reducible apply Junk.drew | with_reducible apply Junk.drewN))))) (HB10.out.at_.on (by ((try simp only [World.junk_junk, Array.append_assoc]); (repeat (first | with_reducible exact Junk.refl _ | with_reducible exact Junk.app _ _ _ _ _ | with_reducible exact Junk.app2 _ _ _ _ _ _ | with_reducible exact Junk.app3 _ _ _ _ _ _ _ | with_reducible exact Junk.app4 _ _ _ _ _ _ _ _ | with_reducible exact Junk.app5 _ _ _ _ _ _ _ _ _ | with_reducible apply Junk.alloc | with_reducible apply Junk.junk | with_reducible apply Junk.drew | with_reducible apply Junk.drewN)))))) | exact Calls.junk_of2 (rsame_any _ _ (T - 12) _ (T - 12) _ (fun k => pktB (parseIp xs) (12 + k)) (fun k => xs (12 + k)) _ (by omega) (by omega) (Hb12.out.at_.on (by ((try simp only [World.junk_junk, Array.append_assoc]); (repeat (first | with_reducible exact Junk.refl _ | with_reducible exact Junk.app _ _ _ _ _ | with_reducible exact Junk.app2 _ _ _ _ _ _ | with_reducible exact Junk.app3 _ _ _ _ _ _ _ | with_reducible exact Junk.app4 _ _ _ _ _ _ _ _ | with_reducible exact Junk.app5 _ _ _ _ _ _ _ _ _ | with_reducible apply Junk.alloc | with_reducible apply Junk.junk | with_reducible apply Junk.drew | with_reducible apply Junk.drewN))))) (HB12.out.at_.on (by ((try simp only [World.junk_junk, Array.append_assoc]); (repeat (first | with_reducible exact Junk.refl _ | with_reducible exact Junk.app _ _ _ _ _ | with_reducible exact Junk.app2 _ _ _ _ _ _ | with_reducible exact Junk.app3 _ _ _ _ _ _ _ | with_reducible exact Junk.app4 _ _ _ _ _ _ _ _ | with_reducible exact Junk.app5 _ _ _ _ _ _ _ _ _ | with_reducible apply Junk.alloc | with_reducible apply Junk.junk | with_reducible apply Junk.drew | with_reducible apply Junk.drewN)))))))); clear hK K))); refine wpQuiet_nil ?_; rintro _ ⟨⟨osq, dq⟩, rfl⟩
      go_wp2
      all_goals
        go_meet
        exact (by ((try simp only [World.junk_junk, Array.append_assoc]); (repeat (first | with_reducible exact Junk.refl _ | with_reducible exact Junk.app _ _ _ _ _ | with_reducible exact Junk.app2 _ _ _ _ _ _ | with_reducible exact Junk.app3 _ _ _ _ _ _ _ | with_reducible exact Junk.app4 _ _ _ _ _ _ _ _ | with_reducible exact Junk.app5 _ _ _ _ _ _ _ _ _ | with_reducible apply Junk.alloc | with_reducible apply Junk.junk | with_reducible apply Junk.drew | with_reducible apply Junk.drewN))))
    · have he : (parseErr xs n == 0) = false := by simp [h0]
      have H0 := Lib.hid h0
      clear h0
      go_wp2
      go_meet
      exact (by ((try simp only [World.junk_junk, Array.append_assoc]); (repeat (first | with_reducible exact Junk.refl _ | with_reducible exact Junk.app _ _ _ _ _ | with_reducible exact Junk.app2 _ _ _ _ _ _ | with_reducible exact Junk.app3 _ _ _ _ _ _ _ | with_reducible exact Junk.app4 _ _ _ _ _ _ _ _ | with_reducible exact Junk.app5 _ _ _ _ _ _ _ _ _ | with_reducible apply Junk.alloc | with_reducible apply Junk.junk | with_reducible apply Junk.drew | with_reducible apply Junk.drewN))))
  case rest =>
    obtain ⟨os, d, rfl⟩ := hcut
    cases hs : shortB p with
    | false =>
      go_wp2_with (first | (go_at_call 30; refine (short_any p oo ob oc bc _).mono ?_; rintro e w' ⟨rfl, ⟨osj, dj, rfl⟩⟩))
      all_goals (go_ret; exact ⟨ret_bool rfl, by ((try simp only [World.junk_junk, Array.append_assoc]); (repeat (first | with_reducible exact Junk.refl _ | with_reducible exact Junk.app _ _ _ _ _ | with_reducible exact Junk.app2 _ _ _ _ _ _ | with_reducible exact Junk.app3 _ _ _ _ _ _ _ | with_reducible exact Junk.app4 _ _ _ _ _ _ _ _ | with_reducible exact Junk.app5 _ _ _ _ _ _ _ _ _ | with_reducible apply Junk.alloc | with_reducible apply Junk.junk | with_reducible apply Junk.drew | with_reducible apply Junk.drewN)))⟩)
    | true =>
      obtain ⟨s1, s2⟩ := shortB_true hs
      cases hm : mayB p with
      | false =>
        go_wp2_with (first | (go_at_call 30; refine (short_any p oo ob oc bc _).mono ?_; rintro e w' ⟨rfl, ⟨osj, dj, rfl⟩⟩) | (go_at_call 31; refine (ipPut_any p oo ob oc bc _ (by omega) (by omega) (HP.out.on (by ((try simp only [World.junk_junk, Array.append_assoc]); (repeat (first | with_reducible exact Junk.refl _ | with_reducible exact Junk.app _ _ _ _ _ | with_reducible exact Junk.app2 _ _ _ _ _ _ | with_reducible exact Junk.app3 _ _ _ _ _ _ _ | with_reducible exact Junk.app4 _ _ _ _ _ _ _ _ | with_reducible exact Junk.app5 _ _ _ _ _ _ _ _ _ | with_reducible apply Junk.alloc | with_reducible apply Junk.junk | with_reducible apply Junk.drew | with_reducible apply Junk.drewN)))))).mono ?_; intro e w' hp; obtain ⟨rfl, ⟨osj2, dj2, rfl⟩⟩ := hp.bad hm; clear hp))
        all_goals (go_ret; exact ⟨ret_bool rfl, by ((try simp only [World.junk_junk, Array.append_assoc]); (repeat (first | with_reducible exact Junk.refl _ | with_reducible exact Junk.app _ _ _ _ _ | with_reducible exact Junk.app2 _ _ _ _ _ _ | with_reducible exact Junk.app3 _ _ _ _ _ _ _ | with_reducible exact Junk.app4 _ _ _ _ _ _ _ _ | with_reducible exact Junk.app5 _ _ _ _ _ _ _ _ _ | with_reducible apply Junk.alloc | with_reducible apply Junk.junk | with_reducible apply Junk.drew | with_reducible apply Junk.drewN)))⟩)
      | true =>
        have M := may_iff.1 hm
        have hpp := parse_put (m := n) (xs := xs) M HP.out.src HP.out.dst HP.out.opts.byte HP.out.body.byte
        obtain ⟨hpe, hsame⟩ := hpp
        have hbyte : ∀ i, i < 20 + p.ol + p.bl + n → 0 ≤ behind (20 + p.ol + p.bl) (pktB p) xs i ∧ behind (20 + p.ol + p.bl) (pktB p) xs i ≤ 255 := fun i hi => by
          unfold behind
          split
          · exact pktB_byte M HP.out.src HP.out.dst HP.out.opts.byte HP.out.body.byte i ‹_›
          · exact HB.out.byte _ (by omega)
        obtain ⟨N, hN⟩ : ∃ N, N = 20 + p.ol + p.bl := ⟨_, rfl⟩
        rw [← hN] at hpe hsame hbyte
        have HN := Lib.hid hN.symm
        have Hby := Lib.hid hbyte
        have n3 : N ≤ 5000 := by omega
        clear hN hbyte M
        go_wp2_with (first | (go_at_call 30; refine (short_any p oo ob oc bc _).mono ?_; rintro e w' ⟨rfl, ⟨osj, dj, rfl⟩⟩) | (go_at_call 31; (try simp only [World.junk_junk]); refine calls_gen (fun osA dA => ?_); refine (ipPut_any p oo ob oc bc _ (by omega) (by omega) (HP.out.on (by ((try simp only [World.junk_junk, Array.append_assoc]); (repeat (first | with_reducible exact Junk.refl _ | with_reducible exact Junk.app _ _ _ _ _ | with_reducible exact Junk.app2 _ _ _ _ _ _ | with_reducible exact Junk.app3 _ _ _ _ _ _ _ | with_reducible exact Junk.app4 _ _ _ _ _ _ _ _ | with_reducible exact Junk.app5 _ _ _ _ _ _ _ _ _ | with_reducible apply Junk.alloc | with_reducible apply Junk.junk | with_reducible apply Junk.drew | with_reducible apply Junk.drewN)))))).mono ?_; intro e w' hp; obtain ⟨o1, c1, rfl, ⟨osj2, dj2, rfl⟩, hb, _⟩ := hp.ok hm; clear hp; rw [HN.out] at hb ⊢; have Hb := Lib.hid hb; clear hb) | (at_builtin; (refine ap_own (W0 := (w.alloc (.cells #[.int .i64 p.tos, .int .i64 p.id, .bool p.df, .bool p.mf, .int .i64 p.off, .int .i64 p.ttl, .int .i64 p.proto, .int .u32 p.src, .int .u32 p.dst, .slice oo p.ol oc, .slice ob p.bl bc] 45)).junk (osA ++ osj2) dj2) rfl _ _ 22 rfl 5 (.int .u8 0) 1 1 (by kernel_rfl) rfl (by decide) Try.underlying22 (by ((try simp only [World.junk_junk, Array.append_assoc]); (repeat (first | with_reducible exact Junk.refl _ | with_reducible exact Junk.app _ _ _ _ _ | with_reducible exact Junk.app2 _ _ _ _ _ _ | with_reducible exact Junk.app3 _ _ _ _ _ _ _ | with_reducible exact Junk.app4 _ _ _ _ _ _ _ _ | with_reducible exact Junk.app5 _ _ _ _ _ _ _ _ _ | with_reducible apply Junk.alloc | with_reducible apply Junk.junk | with_reducible apply Junk.drew | with_reducible apply Junk.drewN)))) _ 0 0 [] rfl (own_made _ _ 1 0 _ _ (by simp) (by simp) (Nat.zero_le _) rfl) o1 N c1 rfl ((List.range N).map fun i => .int .u8 (pktB p i)) (by simp) ((Hb.out.on (by ((try simp only [World.junk_junk, Array.append_assoc]); (repeat (first | with_reducible exact Junk.refl _ | with_reducible exact Junk.app _ _ _ _ _ | with_reducible exact Junk.app2 _ _ _ _ _ _ | with_reducible exact Junk.app3 _ _ _ _ _ _ _ | with_reducible exact Junk.app4 _ _ _ _ _ _ _ _ | with_reducible exact Junk.app5 _ _ _ _ _ _ _ _ _ | with_reducible apply Junk.alloc | with_reducible apply Junk.junk | with_reducible apply Junk.drew | with_reducible apply Junk.drewN))))).at_.src) (fun h => Hb.out.nil h) (by simp [Value.oneCell']) (by simp only [maxLen]; omega) (by omega) ?_; intro o2 c2 os2 d2 hown _; rw [List.nil_append, Nat.zero_add] at hown; (try rw [Nat.zero_add]); (try simp only [World.junk_junk] at hown ⊢); have Ho := Lib.hid hown; clear hown)) | (at_builtin; (refine ap_own (W0 := (w.alloc (.cells #[.int .i64 p.tos, .int .i64 p.id, .bool p.df, .bool p.mf, .int .i64 p.off, .int .i64 p.ttl, .int .i64 p.proto, .int .u32 p.src, .int .u32 p.dst, .slice oo p.ol oc, .slice ob p.bl bc] 45)).junk (osA ++ osj2) dj2) rfl _ _ 22 rfl 5 (.int .u8 0) 1 1 (by kernel_rfl) rfl (by decide) Try.underlying22 (by ((try simp only [World.junk_junk, Array.append_assoc]); (repeat (first | with_reducible exact Junk.refl _ | with_reducible exact Junk.app _ _ _ _ _ | with_reducible exact Junk.app2 _ _ _ _ _ _ | with_reducible exact Junk.app3 _ _ _ _ _ _ _ | with_reducible exact Junk.app4 _ _ _ _ _ _ _ _ | with_reducible exact Junk.app5 _ _ _ _ _ _ _ _ _ | with_reducible apply Junk.alloc | with_reducible apply Junk.junk | with_reducible apply Junk.drew | with_reducible apply Junk.drewN)))) o2 c2 N _ rfl (Ho.out.on (by ((try simp only [World.junk_junk, Array.append_assoc]); (repeat (first | with_reducible exact Junk.refl _ | with_reducible exact Junk.app _ _ _ _ _ | with_reducible exact Junk.app2 _ _ _ _ _ _ | with_reducible exact Junk.app3 _ _ _ _ _ _ _ | with_reducible exact Junk.app4 _ _ _ _ _ _ _ _ | with_reducible exact Junk.app5 _ _ _ _ _ _ _ _ _ | with_reducible apply Junk.alloc | with_reducible apply Junk.junk | with_reducible apply Junk.drew | with_reducible apply Junk.drewN))))) oa n c rfl ((List.range n).map fun i => .int .u8 (xs i)) (by simp) ((HB.out.on (by ((try simp only [World.junk_junk, Array.append_assoc]); (repeat (first | with_reducible exact Junk.refl _ | with_reducible exact Junk.app _ _ _ _ _ | with_reducible exact Junk.app2 _ _ _ _ _ _ | with_reducible exact Junk.app3 _ _ _ _ _ _ _ | with_reducible exact Junk.app4 _ _ _ _ _ _ _ _ | with_reducible exact Junk.app5 _ _ _ _ _ _ _ _ _ | with_reducible apply Junk.alloc | with_reducible apply Junk.junk | with_reducible apply Junk.drew | with_reducible apply Junk.drewN))))).at_.src) (fun h => HB.out.nil h) (by simp [Value.oneCell']) (by simp only [maxLen]; omega) (by omega) ?_; intro o3 c3 os3 d3 hown _; have hb3 := own_bts (own_cast2 hown (bytesL_behind N n (pktB p) xs)) Hby.out; (try simp only [World.junk_junk] at hb3 ⊢); have Hb3 := Lib.hid hb3; clear hown hb3)) | (go_at_call 32; refine (ipParse_any o3 (N + n) c3 (behind N (pktB p) xs) _ (by omega) (Hb3.out.on (by ((try simp only [World.junk_junk, Array.append_assoc]); (repeat (first | with_reducible exact Junk.refl _ | with_reducible exact Junk.app _ _ _ _ _ | with_reducible exact Junk.app2 _ _ _ _ _ _ | with_reducible exact Junk.app3 _ _ _ _ _ _ _ | with_reducible exact Junk.app4 _ _ _ _ _ _ _ _ | with_reducible exact Junk.app5 _ _ _ _ _ _ _ _ _ | with_reducible apply Junk.alloc | with_reducible apply Junk.junk | with_reducible apply Junk.drew | with_reducible apply Junk.drewN)))))).mono ?_; intro e w' hp; obtain ⟨oo4, ob4, oc4, bc4, rfl, ⟨osj4, dj4, rfl⟩, hq⟩ := hp.ok hpe; clear hp; have Hq := Lib.hid hq; clear hq) | (go_at_call 38; refine (ipSame_any p (parseIp (behind N (pktB p) xs)) oo ob oo4 ob4 oc bc oc4 bc4 _ (HP.out.on (by ((try simp only [World.junk_junk, Array.append_assoc]); (repeat (first | with_reducible exact Junk.refl _ | with_reducible exact Junk.app _ _ _ _ _ | with_reducible exact Junk.app2 _ _ _ _ _ _ | with_reducible exact Junk.app3 _ _ _ _ _ _ _ | with_reducible exact Junk.app4 _ _ _ _ _ _ _ _ | with_reducible exact Junk.app5 _ _ _ _ _ _ _ _ _ | with_reducible apply Junk.alloc | with_reducible apply Junk.junk | with_reducible apply Junk.drew | with_reducible apply Junk.drewN))))) (Hq.out.on (by ((try simp only [World.junk_junk, Array.append_assoc]); (repeat (first | with_reducible exact Junk.refl _ | with_reducible exact Junk.app _ _ _ _ _ | with_reducible exact Junk.app2 _ _ _ _ _ _ | with_reducible exact Junk.app3 _ _ _ _ _ _ _ | with_reducible exact Junk.app4 _ _ _ _ _ _ _ _ | with_reducible exact Junk.app5 _ _ _ _ _ _ _ _ _ | with_reducible apply Junk.alloc | with_reducible apply Junk.junk | with_reducible apply Junk.drew | with_reducible apply Junk.drewN)))))).mono ?_; rintro e w' ⟨rfl, ⟨osj, dj, rfl⟩⟩))
        all_goals (go_ret; exact ⟨ret_bool rfl, by ((try simp only [World.junk_junk, Array.append_assoc]); (repeat (first | with_reducible exact Junk.refl _ | with_reducible exact Junk.app _ _ _ _ _ | with_reducible exact Junk.app2 _ _ _ _ _ _ | with_reducible exact Junk.app3 _ _ _ _ _ _ _ | with_reducible exact Junk.app4 _ _ _ _ _ _ _ _ | with_reducible exact Junk.app5 _ _ _ _ _ _ _ _ _ | with_reducible apply Junk.alloc | with_reducible apply Junk.junk | with_reducible apply Junk.drew | with_reducible apply Junk.drewN)))⟩)

theorem ipBack_core (W : World) (base : Nat) (v0 v1 : Value) (a0 : Arg Try.prog W base 45 v0) (a1 : Arg Try.prog W base 22 v1) :
    Calls Try.prog 12 #[v0, v1] W fun e W' => e = .returned (.bool true) ∧ Junk W W' := by
  obtain ⟨cs_p, rfl, h_p⟩ := a0.struct Try.underlying45
  obtain ⟨hl_p, hf_p⟩ := h_p.fields1 Try.underlying45 (by kernel_rfl) (n := 11) (by kernel_rfl)
  obtain ⟨p_TOS, lp0, e_p0⟩ : ∃ x l, cs_p = x :: l := by cases cs_p with | nil => simp at hl_p | cons x l => exact ⟨x, l, rfl⟩
  subst e_p0
  obtain ⟨p_ID, lp1, e_p1⟩ : ∃ x l, lp0 = x :: l := by cases lp0 with | nil => simp at hl_p | cons x l => exact ⟨x, l, rfl⟩
  subst e_p1
  obtain ⟨p_DF, lp2, e_p2⟩ : ∃ x l, lp1 = x :: l := by cases lp1 with | nil => simp at hl_p | cons x l => exact ⟨x, l, rfl⟩
  subst e_p2
  obtain ⟨p_MF, lp3, e_p3⟩ : ∃ x l, lp2 = x :: l := by cases lp2 with | nil => simp at hl_p | cons x l => exact ⟨x, l, rfl⟩
  subst e_p3
  obtain ⟨p_Off, lp4, e_p4⟩ : ∃ x l, lp3 = x :: l := by cases lp3 with | nil => simp at hl_p | cons x l => exact ⟨x, l, rfl⟩
  subst e_p4
  obtain ⟨p_TTL, lp5, e_p5⟩ : ∃ x l, lp4 = x :: l := by cases lp4 with | nil => simp at hl_p | cons x l => exact ⟨x, l, rfl⟩
  subst e_p5
  obtain ⟨p_Proto, lp6, e_p6⟩ : ∃ x l, lp5 = x :: l := by cases lp5 with | nil => simp at hl_p | cons x l => exact ⟨x, l, rfl⟩
  subst e_p6
  obtain ⟨p_Src, lp7, e_p7⟩ : ∃ x l, lp6 = x :: l := by cases lp6 with | nil => simp at hl_p | cons x l => exact ⟨x, l, rfl⟩
  subst e_p7
  obtain ⟨p_Dst, lp8, e_p8⟩ : ∃ x l, lp7 = x :: l := by cases lp7 with | nil => simp at hl_p | cons x l => exact ⟨x, l, rfl⟩
  subst e_p8
  obtain ⟨p_Opts, lp9, e_p9⟩ : ∃ x l, lp8 = x :: l := by cases lp8 with | nil => simp at hl_p | cons x l => exact ⟨x, l, rfl⟩
  subst e_p9
  obtain ⟨p_Body, lp10, e_p10⟩ : ∃ x l, lp9 = x :: l := by cases lp9 with | nil => simp at hl_p | cons x l => exact ⟨x, l, rfl⟩
  subst e_p10
  obtain rfl : lp10 = [] := by simpa using hl_p
  have f_p0 : Cells Try.prog W 3 [p_TOS] := hf_p 0 _ rfl
  have f_p1 : Cells Try.prog W 3 [p_ID] := hf_p 1 _ rfl
  have f_p2 : Cells Try.prog W 4 [p_DF] := hf_p 2 _ rfl
  have f_p3 : Cells Try.prog W 4 [p_MF] := hf_p 3 _ rfl
  have f_p4 : Cells Try.prog W 3 [p_Off] := hf_p 4 _ rfl
  have f_p5 : Cells Try.prog W 3 [p_TTL] := hf_p 5 _ rfl
  have f_p6 : Cells Try.prog W 3 [p_Proto] := hf_p 6 _ rfl
  have f_p7 : Cells Try.prog W 24 [p_Src] := hf_p 7 _ rfl
  have f_p8 : Cells Try.prog W 24 [p_Dst] := hf_p 8 _ rfl
  have f_p9 : Cells Try.prog W 22 [p_Opts] := hf_p 9 _ rfl
  have f_p10 : Cells Try.prog W 22 [p_Body] := hf_p 10 _ rfl
  clear hf_p hl_p
  obtain ⟨p_TOS, e_p_TOS, w_p_TOS⟩ := f_p0.int Try.underlying3; cases e_p_TOS
  obtain ⟨p_ID, e_p_ID, w_p_ID⟩ := f_p1.int Try.underlying3; cases e_p_ID
  obtain ⟨p_DF, e_p_DF⟩ := f_p2.bool Try.underlying4; cases e_p_DF
  obtain ⟨p_MF, e_p_MF⟩ := f_p3.bool Try.underlying4; cases e_p_MF
  obtain ⟨p_Off, e_p_Off, w_p_Off⟩ := f_p4.int Try.underlying3; cases e_p_Off
  obtain ⟨p_TTL, e_p_TTL, w_p_TTL⟩ := f_p5.int Try.underlying3; cases e_p_TTL
  obtain ⟨p_Proto, e_p_Proto, w_p_Proto⟩ := f_p6.int Try.underlying3; cases e_p_Proto
  obtain ⟨p_Src, e_p_Src, w_p_Src⟩ := f_p7.int Try.underlying24; cases e_p_Src
  obtain ⟨p_Dst, e_p_Dst, w_p_Dst⟩ := f_p8.int Try.underlying24; cases e_p_Dst
  obtain ⟨p_Opts_a, p_Opts_l, p_Opts_c, p_Opts, e_p_Opts, lc_p_Opts, cm_p_Opts, S_p_Opts, w_p_Opts⟩ := f_p9.ints Try.underlying22 Try.underlying5 (by kernel_rfl); cases e_p_Opts
  obtain ⟨p_Body_a, p_Body_l, p_Body_c, p_Body, e_p_Body, lc_p_Body, cm_p_Body, S_p_Body, w_p_Body⟩ := f_p10.ints Try.underlying22 Try.underlying5 (by kernel_rfl); cases e_p_Body
  have f_b := a1.slice Try.underlying22
  obtain ⟨b_a, b_l, b_c, b, e_b, lc_b, cm_b, S_b, w_b⟩ := f_b.ints Try.underlying22 Try.underlying5 (by kernel_rfl); cases e_b
  have hlm : maxLen = 9223372036854775807 := rfl
  exact ipBack_walk ⟨p_TOS, p_ID, p_DF, p_MF, p_Off, p_TTL, p_Proto, p_Src, p_Dst, p_Opts_l, p_Opts, p_Body_l, p_Body⟩ p_Opts_a p_Body_a p_Opts_c p_Body_c b_a b_l b_c (min b_l 3000) b W
    ⟨⟨S_p_Opts, fun i hi => bounds_u8 (w_p_Opts i hi), Cells.nil_slice Try.underlying22 f_p9, lc_p_Opts, cm_p_Opts⟩, ⟨S_p_Body, fun i hi => bounds_u8 (w_p_Body i hi), Cells.nil_slice Try.underlying22 f_p10, lc_p_Body, cm_p_Body⟩, bounds_u32 w_p_Src, bounds_u32 w_p_Dst⟩ ⟨S_b, fun i hi => bounds_u8 (w_b i hi), Cells.nil_slice Try.underlying22 f_b, lc_b, cm_b⟩ (by omega) (by omega) (by omega)
set_option maxRecDepth 100000 in
theorem ipBack_lifted (os : Os) (started : os.Started) (H : Type) (enc : TypeId × Value → H) :
    ReturnsInHanded {} Try.checked os 12 .any (Rows.ipBackSpec.pre6 enc Try.prog Try.f12 Rows.ipBackRow.domain false) (Rows.ipBackSpec.post enc Try.prog Try.f12 false true false false) := by
  refine returnsInHanded_of_change (C := Try.checked) (by kernel_rfl) started (by kernel_rfl) Try.func12
    (ChangeSpec.witness6 (enc := enc) (C := Try.checked) false ⟨#[], #[.agg #[.int .i64 0, .int .i64 0, .bool false, .bool false, .int .i64 0, .int .i64 0, .int .i64 0, .int .u32 0, .int .u32 0, .slice none 0 0, .slice none 0 0], .slice none 0 0], []⟩ 8 (by kernel_rfl) (by kernel_rfl) (by kernel_rfl) (by kernel_rfl)) ?_
  intro W base args ds gs before hval hW _ _
  obtain ⟨p, q, hA, _, _, _, _⟩ := id hW
  have hargs : Args Try.prog W base Try.f12.params.toList args.toList := args_of (fun j t v h1 h2 => hval j t v (by simpa using h1) (by simpa using h2)) hA
  rw [Try.params12] at hargs
  obtain ⟨v0, l0, e0, a0, r0⟩ := args_cons hargs
  obtain ⟨v1, l1, e1, a1, r1⟩ := args_cons r0
  have hn := args_nil r1
  have he : args = #[v0, v1] := by
    apply Array.ext'
    simp only [e0, e1, hn]
  subst he
  exact (ipBack_core W base v0 v1 a0 a1).mono fun e W' ⟨he, hj⟩ => ⟨_, he, post_true (tb := 4) (by kernel_rfl) (by kernel_rfl) rfl (by kernel_rfl) rfl hW (fun hg hl => by
    subst hg
    match ds, hl with
    | [_, _], _ => exact ⟨rfl, rfl, rfl⟩) hj⟩
theorem ipBack_holds : Rows.IpBackSaid :=
  OpenClaim.holds_of_wide 12 Try.f12 rfl rfl rfl rfl rfl rfl rfl ⟨rfl, rfl, rfl, rfl, rfl⟩ rfl rfl rfl rfl rfl (by kernel_rfl) Try.func12 (by kernel_rfl)
    (of_decide_eq_true (by kernel_rfl)) (by unfold Func.isWrapper; rw [if_neg (of_decide_eq_false (by kernel_rfl))]; exact ⟨rfl, rfl⟩)
    (fun os started H enc _ => ipBack_lifted os started H enc)

end Go.Proofs.Yteegeckkfdeccaa
