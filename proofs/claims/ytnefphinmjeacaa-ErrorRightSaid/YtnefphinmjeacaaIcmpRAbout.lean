/- The contract of the reference's About. -/
import Derived.Test.YtnefphinmjeacaaIcmpAbout1
import Derived.Test.YtnefphinmjeacaaIpRParse
import Derived.Outline
import Derived.Test.YtnefphinmjeacaaMix2
set_option linter.unusedVariables false
set_option maxRecDepth 100000
set_option linter.unusedSimpArgs false
namespace Go.Proofs.Ytnefphinmjeacaa
open Go.RowKit
theorem about_len {kind : Int} {xs : Nat → Int} {l : Nat} {n : Int} (h : errorB kind = true) (hw : wholeErr xs l = n) : aboutErr kind xs l = n := by
  unfold aboutErr; rw [if_neg (by simp [h])]; exact hw
theorem own_over2 {B : Nat} {V V' : World} {cur cur' : Array Value} {t e : TypeId} {os os' : Array Obj} {d d' size cap n : Nat} {oa : Option Addr} {l : List Value} (hs : V'.heap.size = V.heap.size) (h : Own B ((V.alloc (.cells cur t)).junk os d) e size oa cap n l) (hB : V.heap.size + 1 ≤ B) (ho : ∃ x, os' = os ++ x) : Own B ((V'.alloc (.cells cur' t)).junk os' d') e size oa cap n l := by
  obtain ⟨x, rfl⟩ := ho
  refine ⟨h.1, ?_⟩
  rcases h.2 with hn | ⟨g, cap', cur1, h1, hb, hg, hr⟩
  · exact .inl hn
  · refine .inr ⟨g, cap', cur1, h1, hb, ?_, hr⟩
    rw [← hg]
    have hlt := (Array.getElem?_eq_some_iff.1 hg).1
    simp only [World.junk, World.alloc] at hlt ⊢
    rw [← Array.append_assoc, Array.getElem?_append_left (by simp at hlt ⊢; omega), Array.getElem?_append_right (by simp; try omega), Array.getElem?_append_right (by simp; try omega)]
    simp [hs]
theorem bts_sub4 {w : World} {b off l c : Nat} {xs : Nat → Int} (h : Bts w (some ⟨b, off, none⟩) l c xs) (i j : Nat) (hij : i ≤ j) (hj : j ≤ l) (hc : c ≠ i) : Bts w (some ⟨b, off + i, none⟩) (j - i) (c - i) (fun k => xs (i + k)) := by
  have := bts_sub h i j hij hj
  rwa [if_neg hc] at this
theorem bytesL_succ (n : Nat) (f : Nat → Int) : bytesL n f ++ [.int .u8 (f n)] = bytesL (n + 1) f := by
  unfold bytesL; rw [List.range_succ, List.map_append]; rfl
theorem built_cells2 {w : World} {news : List Value} {e : TypeId} {n : Nat} {os : Array Obj} {d : Nat} (hn : n = w.heap.size) : ∀ ad : Addr, some (⟨n, 0, none⟩ : Addr) = some ad → ∀ j u, news[j]? = some u → ((w.alloc (.cells news.toArray e)).junk os d).cell? (ad.add j) = some u := by
  intro ad had j u hu
  have h := built_cells (e := e) hn ad had j u hu
  cases had
  rw [Addr.add_lit] at h ⊢
  rw [World.cell?_junk _ _ _ _ _ (by simp [hn])]
  exact h
set_option maxHeartbeats 8000000 in
theorem rabout_ok1 (kind code rest : Int) (oa : Option Addr) (l c : Nat) (xs : Nat → Int) (w : World) (hl : l ≤ 100000000) (hB : Bts w oa l c xs) (a1 : errorB kind = true) (hz : wholeErr xs l = 0) (h8 : l < ipSize xs + 8) :
    Calls Try.prog 33 #[.agg #[.int .i64 kind, .int .i64 code, .int .u32 rest, .slice oa l c]] w (AboutM w kind xs l) := by
  have K := wholeErr_zero hz
  obtain ⟨z1, hv, hs1, hs2, ht1, hm, z6⟩ := K
  have hlc := hB.le
  have hcm := hB.cap
  have Hx := Lib.hid (fun i (hi : i < l) => hB.byte i hi)
  have x0 := hB.byte 0 (by omega); have x1 := hB.byte 1 (by omega); have x2 := hB.byte 2 (by omega); have x3 := hB.byte 3 (by omega); have x4 := hB.byte 4 (by omega); have x5 := hB.byte 5 (by omega); have x6 := hB.byte 6 (by omega); have x7 := hB.byte 7 (by omega); have x8 := hB.byte 8 (by omega); have x9 := hB.byte 9 (by omega); have x12 := hB.byte 12 (by omega); have x13 := hB.byte 13 (by omega); have x14 := hB.byte 14 (by omega); have x15 := hB.byte 15 (by omega); have x16 := hB.byte 16 (by omega); have x17 := hB.byte 17 (by omega); have x18 := hB.byte 18 (by omega); have x19 := hB.byte 19 (by omega)
  have hsz : ((ipSize xs : Nat) : Int) = xs 0 % 16 * 4 := by unfold ipSize; omega
  have htt : ((ipTotal xs : Nat) : Int) = xs 2 * 256 + xs 3 := by unfold ipTotal; omega
  have Hsum := fun h => sumN_bd xs (ipSize xs) (fun i hi => hB.byte i (Nat.lt_of_lt_of_le hi h))
  obtain ⟨b, off, rfl, hblk, hc0⟩ := hB.at_ 0 (by omega)
  have hc1 := (bts_cell hB 1 (by omega)).2
  have hc8 := (bts_cell hB 8 (by omega)).2
  have hc9 := (bts_cell hB 9 (by omega)).2
  have H := Lib.hid hB
  have H20 := Lib.hid (bts_short hB 20 (by omega))
  clear hB
  simp only [Nat.add_zero] at hc0
  obtain ⟨S, hS⟩ : ∃ S, S = ipSize xs := ⟨_, rfl⟩
  obtain ⟨T, hT⟩ : ∃ T, T = ipTotal xs := ⟨_, rfl⟩
  rw [← hS] at hsz
  rw [← hT] at htt
  have e1 : xs 0 % 16 * 4 = (S : Int) := hsz.symm
  have e2 : xs 2 * 256 + xs 3 = (T : Int) := htt.symm
  have ES := Lib.hid hS
  have ET := Lib.hid hT
  have E2 := Lib.hid e2
  have b1 : S ≤ 60 := by omega
  have b2 : T ≤ 65535 := by omega
  rw [← hS] at Hsum hs1 hs2 ht1 hm h8 z6
  rw [← hT] at ht1 z6
  clear hS hT hsz htt
  have hfl : ipFlags xs = xs 6 * 256 + xs 7 := rfl
  have f1 : 0 ≤ ipFlags xs := by omega
  have f2 : ipFlags xs ≤ 65535 := by omega
  have Hfl := Lib.hid hfl
  clear hfl e2
  have j0 : (0 : Int) < (l : Int) := by omega
  have j1 : (1 : Int) < (l : Int) := by omega
  have j8 : (8 : Int) < (l : Int) := by omega
  have j9 : (9 : Int) < (l : Int) := by omega
  have i0 : 0 < l := by omega
  have i1 : 1 < l := by omega
  have i8 : 8 < l := by omega
  have i9 : 9 < l := by omega
  have j20 : (20 : Int) ≤ (c : Int) := by omega
  have ev : (xs 0 / 16 != 4) = false := by simp [hv]
  have HV := Lib.hid hv
  clear hv
  obtain ⟨m1, m2⟩ := Hsum hs2
  have HI := Lib.hid (bts_short H.out S hs2)
  have jc : (S : Int) ≤ (c : Int) := by omega
  have em : (sumN xs S != 65535) = false := by simp [hm]
  have HM := Lib.hid hm
  clear hm
  have HZ := Lib.hid hz
  clear hz
  have h9 : ¬ l < T := fun h => z6 ⟨h8, h⟩
  clear z6
  obtain ⟨U, hU⟩ : ∃ U, U = min T l := ⟨_, rfl⟩
  have u2 : U ≤ l := by omega
  have u3 : S ≤ U := by omega
  have u4 : U ≤ T := by omega
  have EU := Lib.hid (show U = min (ipTotal xs) l by rw [hU, ET.out])
  have HU := Lib.hid hU
  clear hU
  have js : (S : Int) ≤ (U : Int) := by omega
  have jt : (U : Int) ≤ (c : Int) := by omega
  have k8 : (l : Int) - (S : Int) < 8 := by omega
  go_enter Try.func33, Try.ntmps33
  go_wp2_with (first | (go_at_call 69; refine (rerror_any _ _).mono ?_; rintro e w' ⟨rfl, rfl⟩) | (go_at_call 70; refine (words_any (some ⟨b, off, none⟩) 20 c xs _ (by omega) (H20.out.at_.on (by ((try simp only [World.junk_junk, Array.append_assoc]); (repeat (first | with_reducible exact Junk.refl _ | with_reducible exact Junk.app _ _ _ _ _ | with_reducible exact Junk.app2 _ _ _ _ _ _ | with_reducible exact Junk.app3 _ _ _ _ _ _ _ | with_reducible exact Junk.app4 _ _ _ _ _ _ _ _ | with_reducible exact Junk.app5 _ _ _ _ _ _ _ _ _ | with_reducible apply Junk.alloc | with_reducible apply Junk.junk | with_reducible apply Junk.drew | with_reducible apply Junk.drewN))))) H20.out.byte).mono ?_; rintro e w' ⟨ow, cw, rfl, ⟨osj, dj, rfl⟩, hown⟩; obtain ⟨g, rfl, _, hgS, _⟩ := own_some hown (by omega); obtain ⟨g1, hg1, _, _, hw1, _⟩ := hown.cells 1 (.int .u16 ((T : Int))) (by rw [show (wordsL xs 20 10)[1]? = some (.int .u16 (T : Int)) from by rw [word_at xs 1 (by omega)]; exact congrArg _ (congrArg _ E2.out)]); cases hg1; have hv1 := fun os d => (World.cell?_junk _ os d g _ hgS).trans hw1; obtain ⟨g2, hg2, _, _, hw2, _⟩ := hown.cells 2 (.int .u16 (xs 4 * 256 + xs 5)) (by exact word_at xs 2 (by omega)); cases hg2; have hv2 := fun os d => (World.cell?_junk _ os d g _ hgS).trans hw2; obtain ⟨g3, hg3, _, _, hw3, _⟩ := hown.cells 3 (.int .u16 (ipFlags xs)) (by exact word_at xs 3 (by omega)); cases hg3; have hv3 := fun os d => (World.cell?_junk _ os d g _ hgS).trans hw3; obtain ⟨g6, hg6, _, _, hw6, _⟩ := hown.cells 6 (.int .u16 (xs 12 * 256 + xs 13)) (by exact word_at xs 6 (by omega)); cases hg6; have hv6 := fun os d => (World.cell?_junk _ os d g _ hgS).trans hw6; obtain ⟨g7, hg7, _, _, hw7, _⟩ := hown.cells 7 (.int .u16 (xs 14 * 256 + xs 15)) (by exact word_at xs 7 (by omega)); cases hg7; have hv7 := fun os d => (World.cell?_junk _ os d g _ hgS).trans hw7; obtain ⟨g8, hg8, _, _, hw8, _⟩ := hown.cells 8 (.int .u16 (xs 16 * 256 + xs 17)) (by exact word_at xs 8 (by omega)); cases hg8; have hv8 := fun os d => (World.cell?_junk _ os d g _ hgS).trans hw8; obtain ⟨g9, hg9, _, _, hw9, _⟩ := hown.cells 9 (.int .u16 (xs 18 * 256 + xs 19)) (by exact word_at xs 9 (by omega)); cases hg9; have hv9 := fun os d => (World.cell?_junk _ os d g _ hgS).trans hw9; have hgB : ∀ k, g < w.heap.size + 1 + 1 + (osj.size + k) := (fun k => by simp at hgS; omega); simp only [World.junk_junk, Array.append_assoc] at hw1 hv1 hw2 hv2 hw3 hv3 hw6 hv6 hw7 hv7 hw8 hv8 hw9 hv9 ⊢; clear hown) | (go_at_call 71; refine (rsum_any (some ⟨b, off, none⟩) S c xs _ (by omega) (HI.out.at_.on (by ((try simp only [World.junk_junk, Array.append_assoc]); (repeat (first | with_reducible exact Junk.refl _ | with_reducible exact Junk.app _ _ _ _ _ | with_reducible exact Junk.app2 _ _ _ _ _ _ | with_reducible exact Junk.app3 _ _ _ _ _ _ _ | with_reducible exact Junk.app4 _ _ _ _ _ _ _ _ | with_reducible exact Junk.app5 _ _ _ _ _ _ _ _ _ | with_reducible apply Junk.alloc | with_reducible apply Junk.junk | with_reducible apply Junk.drew | with_reducible apply Junk.drewN))))) HI.out.byte).mono ?_; rintro e w' ⟨rfl, ⟨osS, dS, rfl⟩⟩))
  refine wp_region_mixj (((w.alloc (.cells #[.int .i64 kind, .int .i64 code, .int .u32 rest, .slice (some ⟨b, off, none⟩) l c] 25)).alloc (.cells #[.int .i64 0, .int .i64 0, .bool false, .bool false, .int .i64 0, .int .i64 0, .int .i64 0, .int .u32 0, .int .u32 0, .slice none 0 0, .slice none 0 0] 43)).junk (osj ++ osS) dS) [(0, true), (1, true), (2, true), (3, true), (4, true), (5, true), (6, true), (7, true), (8, true), (9, true), (10, true), (11, true), (12, true), (13, true), (14, true), (15, true), (16, true), (17, true), (18, true), (19, true), (20, true), (21, true), (22, true), (23, true), (24, true), (25, true), (26, true), (27, true), (28, true), (29, true), (30, true), (31, true), (32, true), (33, true), (34, true), (35, true), (36, true), (37, true), (38, true), (39, true), (40, true), (41, true), (42, true), (43, true), (44, true), (45, true), (46, true), (47, true), (48, false), (49, false)] (by kernel_rfl) (by kernel_rfl) (by (repeat (first | with_reducible exact Junk.refl _ | with_reducible exact Junk.app _ _ _ _ _ | with_reducible exact Junk.app2 _ _ _ _ _ _ | with_reducible exact Junk.app3 _ _ _ _ _ _ _ | with_reducible exact Junk.app4 _ _ _ _ _ _ _ _ | with_reducible apply Junk.alloc | with_reducible apply Junk.junk | with_reducible apply Junk.drew | with_reducible apply Junk.drewN))) ?_; (iterate 48 (refine wpMix_q rfl (fun K hK => ?_); (go_simp; try go_bits); (refine hK _ ?_; clear hK K))); refine wpMix_e rfl (fun osm18_0 dm18_0 K hK => ?_); (go_simp; try go_bits); refine hK _ _ (Junk.pair (by (repeat (first | with_reducible exact Junk.refl _ | with_reducible exact Junk.app _ _ _ _ _ | with_reducible exact Junk.app2 _ _ _ _ _ _ | with_reducible exact Junk.app3 _ _ _ _ _ _ _ | with_reducible exact Junk.app4 _ _ _ _ _ _ _ _ | with_reducible apply Junk.alloc | with_reducible apply Junk.junk | with_reducible apply Junk.drew | with_reducible apply Junk.drewN | (with_reducible refine Junk.setCell ?_ (by simp) _))))) ?_; clear hK K; refine wpMix_e rfl (fun osm18_1 dm18_1 K hK => ?_); (go_simp; try go_bits); refine hK _ _ (Junk.pair (by (repeat (first | with_reducible exact Junk.refl _ | with_reducible exact Junk.app _ _ _ _ _ | with_reducible exact Junk.app2 _ _ _ _ _ _ | with_reducible exact Junk.app3 _ _ _ _ _ _ _ | with_reducible exact Junk.app4 _ _ _ _ _ _ _ _ | with_reducible apply Junk.alloc | with_reducible apply Junk.junk | with_reducible apply Junk.drew | with_reducible apply Junk.drewN | (with_reducible refine Junk.setCell ?_ (by simp) _))))) ?_; clear hK K; refine wpMix_nil (fun osm dm => ?_)
  (try simp only [World.junk_junk, Array.append_assoc]); refine then_gen (fun osB dB => ?_)
  go_wp2_with (first | (at_builtin; (refine ap_own rfl _ _ 23 rfl 5 (.int .u8 0) 1 1 (by kernel_rfl) rfl (by decide) Try.underlying23 ((Junk.refl _).alloc _) _ 0 0 [] rfl (own_made _ _ 1 0 _ _ (by simp) (Nat.le_refl _) (Nat.zero_le _) rfl) _ (S - 20) (c - 20) rfl ((List.range (S - 20)).map fun i => .int .u8 (xs (20 + i))) (by simp) ((bts_sub H.out 20 S (by omega) (by omega)).on (by ((try simp only [World.junk_junk, Array.append_assoc]); (repeat (first | with_reducible exact Junk.refl _ | with_reducible exact Junk.app _ _ _ _ _ | with_reducible exact Junk.app2 _ _ _ _ _ _ | with_reducible exact Junk.app3 _ _ _ _ _ _ _ | with_reducible exact Junk.app4 _ _ _ _ _ _ _ _ | with_reducible exact Junk.app5 _ _ _ _ _ _ _ _ _ | with_reducible apply Junk.alloc | with_reducible apply Junk.junk | with_reducible apply Junk.drew | with_reducible apply Junk.drewN))))).at_.src (fun h => by split at h <;> cases h) (by simp [Value.oneCell']) (by simp only [maxLen]; omega) (by omega) ?_; intro oo1 co1 os1 d1 hown _; rw [List.nil_append, Nat.zero_add] at hown; have hb := own_bts hown (fun i hi => H.out.byte _ (by omega)); have Hf1 := Lib.hid (own_fresh hown); simp only [World.junk_junk] at hb; have Hcb1 := Lib.hid hb; clear hown hb; (try generalize (if c = 20 then (some (⟨b, off, none⟩ : Addr)) else some ⟨b, off + 20, none⟩) = dp1))))
  go_loopw [10] (fun i wr => ∃ (k j : Nat) (ob : Option Addr) (cap : Nat) (os : Array Obj) (d : Nat), i = .int .i64 (j : Int) ∧ wr = ((((w.alloc (.cells #[.int .i64 kind, .int .i64 code, .int .u32 rest, .slice (some ⟨b, off, none⟩) l c] 25)).alloc (.cells #[.int .i64 0, .int .i64 0, .bool false, .bool false, .int .i64 0, .int .i64 0, .int .i64 0, .int .u32 0, .int .u32 0, .slice none 0 0, .slice none 0 0] 43)).junk (osj ++ (osS ++ osm18_0)) dm18_0).alloc (.cells #[.int .i64 (mkIp xs S U).tos, .int .i64 (mkIp xs S U).id, .bool (mkIp xs S U).df, .bool (mkIp xs S U).mf, .int .i64 (mkIp xs S U).off, .int .i64 (mkIp xs S U).ttl, .int .i64 (mkIp xs S U).proto, .int .u32 (mkIp xs S U).src, .int .u32 (mkIp xs S U).dst, .slice oo1 (S - 20) co1, .slice ob k cap] 43)).junk (osB ++ (os1 ++ os)) d ∧ Own (w.heap.size + 1 + 1 + (osj.size + (osS.size + osm18_0.size)) + 1 + (osB.size + os1.size)) wr 5 1 ob cap k (bytesL k (fun q => xs (S + q))) ∧ j ≤ S + k ∧ S + k ≤ j ∧ j ≤ U) (fun i _ => U + 1 - (intOf i).toNat)
  case atStart => exact ⟨0, S, none, 0, #[], d1, rfl, by rw [Array.append_empty]; rfl, Own.nil _ _ _ _, by omega, by omega, by omega⟩
  case round =>
    obtain ⟨k, j, ob, cap, os, d, rfl, rfl, hown, hj1, hj2, hj3⟩ := hrel
    have Hown := Lib.hid hown
    clear hown
    have hw1 : j ≤ 100000000 := by omega
    by_cases hlt : j < U
    · have q1 : j < l := by omega
      have q2 : (j : Int) < (l : Int) := by omega
      have q3 : (j : Int) < (T : Int) := by have := HU.out; omega
      have hcj := (bts_cell H.out j q1).2
      have hbj := Hx.out j q1
      have hk9 : k ≤ 100000000 := by omega
      have HJ := Lib.hid (show j = S + k by omega)
      clear hj1 hj2
      go_wp2
      refine wp_region_mixl (((((w.alloc (.cells #[.int .i64 kind, .int .i64 code, .int .u32 rest, .slice (some ⟨b, off, none⟩) l c] 25)).alloc (.cells #[.int .i64 0, .int .i64 0, .bool false, .bool false, .int .i64 0, .int .i64 0, .int .i64 0, .int .u32 0, .int .u32 0, .slice none 0 0, .slice none 0 0] 43)).junk (osj ++ (osS ++ osm18_0)) dm18_0).alloc (.cells #[.int .i64 (mkIp xs S U).tos, .int .i64 (mkIp xs S U).id, .bool (mkIp xs S U).df, .bool (mkIp xs S U).mf, .int .i64 (mkIp xs S U).off, .int .i64 (mkIp xs S U).ttl, .int .i64 (mkIp xs S U).proto, .int .u32 (mkIp xs S U).src, .int .u32 (mkIp xs S U).dst, .slice oo1 (S - 20) co1, .slice ob k cap] 43)).junk (osB ++ os1) d1) 9 [(0, true), (1, true), (2, true), (3, true), (4, true), (5, true), (6, false), (7, false), (8, true), (9, false)] (by kernel_rfl) (by kernel_rfl) (by (repeat (first | with_reducible exact Junk.refl _ | with_reducible exact Junk.app _ _ _ _ _ | with_reducible exact Junk.app2 _ _ _ _ _ _ | with_reducible exact Junk.app3 _ _ _ _ _ _ _ | with_reducible exact Junk.app4 _ _ _ _ _ _ _ _ | with_reducible apply Junk.alloc | with_reducible apply Junk.junk | with_reducible apply Junk.drew | with_reducible apply Junk.drewN))) ?_; (iterate 6 (refine wpMixL_q rfl (fun K hK => ?_); (go_simp; try go_bits); (refine hK _ ?_; clear hK K))); refine wpMixL_e rfl (fun osm23_0 dm23_0 K hK => ?_); (go_simp; try go_bits); refine hK _ _ (Junk.pair (by (repeat (first | with_reducible exact Junk.refl _ | with_reducible exact Junk.app _ _ _ _ _ | with_reducible exact Junk.app2 _ _ _ _ _ _ | with_reducible exact Junk.app3 _ _ _ _ _ _ _ | with_reducible exact Junk.app4 _ _ _ _ _ _ _ _ | with_reducible apply Junk.alloc | with_reducible apply Junk.junk | with_reducible apply Junk.drew | with_reducible apply Junk.drewN | (with_reducible refine Junk.setCell ?_ (by simp) _))))) ?_; clear hK K; refine wpMixL_e1 rfl rfl (fun osm23_1 dm23_1 K hK => ?_); (refine ap_own_wp (W0 := ((((w.alloc (.cells #[.int .i64 kind, .int .i64 code, .int .u32 rest, .slice (some ⟨b, off, none⟩) l c] 25)).alloc (.cells #[.int .i64 0, .int .i64 0, .bool false, .bool false, .int .i64 0, .int .i64 0, .int .i64 0, .int .u32 0, .int .u32 0, .slice none 0 0, .slice none 0 0] 43)).junk (osj ++ (osS ++ osm18_0)) dm18_0).alloc (.cells #[.int .i64 (mkIp xs S U).tos, .int .i64 (mkIp xs S U).id, .bool (mkIp xs S U).df, .bool (mkIp xs S U).mf, .int .i64 (mkIp xs S U).off, .int .i64 (mkIp xs S U).ttl, .int .i64 (mkIp xs S U).proto, .int .u32 (mkIp xs S U).src, .int .u32 (mkIp xs S U).dst, .slice oo1 (S - 20) co1, .slice ob k cap] 43)).junk (osB ++ os1) d1) _ _ 23 rfl 5 (.int .u8 0) 1 1 (by kernel_rfl) rfl (by decide) Try.underlying23 (by ((try simp only [World.junk_junk, Array.append_assoc]); (repeat (first | with_reducible exact Junk.refl _ | with_reducible exact Junk.app _ _ _ _ _ | with_reducible exact Junk.app2 _ _ _ _ _ _ | with_reducible exact Junk.app3 _ _ _ _ _ _ _ | with_reducible exact Junk.app4 _ _ _ _ _ _ _ _ | with_reducible exact Junk.app5 _ _ _ _ _ _ _ _ _ | with_reducible apply Junk.alloc | with_reducible apply Junk.junk | with_reducible apply Junk.drew | with_reducible apply Junk.drewN)))) ob cap k _ rfl ((Hown.out.lower (by simp)).on (by ((try simp only [World.junk_junk, Array.append_assoc]); (repeat (first | with_reducible exact Junk.refl _ | with_reducible exact Junk.app _ _ _ _ _ | with_reducible exact Junk.app2 _ _ _ _ _ _ | with_reducible exact Junk.app3 _ _ _ _ _ _ _ | with_reducible exact Junk.app4 _ _ _ _ _ _ _ _ | with_reducible exact Junk.app5 _ _ _ _ _ _ _ _ _ | with_reducible apply Junk.alloc | with_reducible apply Junk.junk | with_reducible apply Junk.drew | with_reducible apply Junk.drewN))))) _ 1 1 rfl [_] rfl (built_cells2 (by simp)) (by simp) (by simp [Value.oneCell']) (by simp only [maxLen]; omega) (by omega) ?_; intro ob' cap' os' d' hown' _; simp only [World.junk_junk] at hown'; have Hown2 := Lib.hid hown'; clear hown'); refine hK _ _ (Junk.pair (by (repeat (first | with_reducible exact Junk.refl _ | with_reducible exact Junk.app _ _ _ _ _ | with_reducible exact Junk.app2 _ _ _ _ _ _ | with_reducible exact Junk.app3 _ _ _ _ _ _ _ | with_reducible exact Junk.app4 _ _ _ _ _ _ _ _ | with_reducible apply Junk.alloc | with_reducible apply Junk.junk | with_reducible apply Junk.drew | with_reducible apply Junk.drewN | (with_reducible refine Junk.setCell ?_ (by simp) _))))) ?_; clear hK K; (iterate 1 (refine wpMixL_q rfl (fun K hK => ?_); (go_simp; try go_bits); (refine hK _ ?_; clear hK K))); refine wpMixL_last rfl (fun osm23_2 dm23_2 K hK => ?_); (go_simp; try go_bits); refine hK _ _ ?_; clear hK K; refine wpMixL_nil (fun osm dm => ?_)
      (try simp only [World.junk_junk, Array.append_assoc])
      go_wp2
      exact ⟨⟨k + 1, j + 1, ob', cap', _, _, by go_num, by (try simp only [World.junk_junk, Array.append_assoc]); rfl, own_cast2 (own_over2 (by simp) (Hown2.out.lower (by simp)) (by simp; try omega) ⟨_, by simp only [Array.append_assoc]; rfl⟩) (by rw [HJ.out]; exact (bytesL_succ _ _)), by have := HJ.out; omega, by have := HJ.out; omega, by omega⟩, by simp [intOf]; omega⟩
    · have hU := HU.out
      obtain rfl : k = U - S := by omega
      by_cases hjl : j < l
      · have q2 : (j : Int) < (l : Int) := by omega
        have q3 : ¬ (j : Int) < (T : Int) := by omega
        clear hU
        go_wp2
        go_returns
        exact aboutM_ok (about_len a1 HZ.out) (by ((try simp only [World.junk_junk, Array.append_assoc]); (repeat (first | with_reducible exact Junk.refl _ | with_reducible exact Junk.app _ _ _ _ _ | with_reducible exact Junk.app2 _ _ _ _ _ _ | with_reducible exact Junk.app3 _ _ _ _ _ _ _ | with_reducible exact Junk.app4 _ _ _ _ _ _ _ _ | with_reducible exact Junk.app5 _ _ _ _ _ _ _ _ _ | with_reducible apply Junk.alloc | with_reducible apply Junk.junk | with_reducible apply Junk.drew | with_reducible apply Junk.drewN)))) ES.out EU.out (bts_over2 (by simp) Hcb1.out (Hf1.out.lower (by simp)) ⟨_, by repeat rw [Array.append_assoc]⟩) (bts_over2 (by simp) (own_bts Hown.out (fun i hi => Hx.out _ (by omega))) ((own_fresh Hown.out).lower (by simp; try omega)) ⟨#[], by simp⟩) (fun i hi => Hx.out i (by omega))
      · have q2 : ¬ (j : Int) < (l : Int) := by omega
        clear hU
        go_wp2
        go_returns
        exact aboutM_ok (about_len a1 HZ.out) (by ((try simp only [World.junk_junk, Array.append_assoc]); (repeat (first | with_reducible exact Junk.refl _ | with_reducible exact Junk.app _ _ _ _ _ | with_reducible exact Junk.app2 _ _ _ _ _ _ | with_reducible exact Junk.app3 _ _ _ _ _ _ _ | with_reducible exact Junk.app4 _ _ _ _ _ _ _ _ | with_reducible exact Junk.app5 _ _ _ _ _ _ _ _ _ | with_reducible apply Junk.alloc | with_reducible apply Junk.junk | with_reducible apply Junk.drew | with_reducible apply Junk.drewN)))) ES.out EU.out (bts_over2 (by simp) Hcb1.out (Hf1.out.lower (by simp)) ⟨_, by repeat rw [Array.append_assoc]⟩) (bts_over2 (by simp) (own_bts Hown.out (fun i hi => Hx.out _ (by omega))) ((own_fresh Hown.out).lower (by simp; try omega)) ⟨#[], by simp⟩) (fun i hi => Hx.out i (by omega))
set_option maxHeartbeats 8000000 in
theorem rabout_ok2 (kind code rest : Int) (oa : Option Addr) (l c : Nat) (xs : Nat → Int) (w : World) (hl : l ≤ 100000000) (hB : Bts w oa l c xs) (a1 : errorB kind = true) (hz : wholeErr xs l = 0) (h8 : ¬ l < ipSize xs + 8) :
    Calls Try.prog 33 #[.agg #[.int .i64 kind, .int .i64 code, .int .u32 rest, .slice oa l c]] w (AboutM w kind xs l) := by
  have K := wholeErr_zero hz
  obtain ⟨z1, hv, hs1, hs2, ht1, hm, z6⟩ := K
  have hlc := hB.le
  have hcm := hB.cap
  have Hx := Lib.hid (fun i (hi : i < l) => hB.byte i hi)
  have x0 := hB.byte 0 (by omega); have x1 := hB.byte 1 (by omega); have x2 := hB.byte 2 (by omega); have x3 := hB.byte 3 (by omega); have x4 := hB.byte 4 (by omega); have x5 := hB.byte 5 (by omega); have x6 := hB.byte 6 (by omega); have x7 := hB.byte 7 (by omega); have x8 := hB.byte 8 (by omega); have x9 := hB.byte 9 (by omega); have x12 := hB.byte 12 (by omega); have x13 := hB.byte 13 (by omega); have x14 := hB.byte 14 (by omega); have x15 := hB.byte 15 (by omega); have x16 := hB.byte 16 (by omega); have x17 := hB.byte 17 (by omega); have x18 := hB.byte 18 (by omega); have x19 := hB.byte 19 (by omega)
  have hsz : ((ipSize xs : Nat) : Int) = xs 0 % 16 * 4 := by unfold ipSize; omega
  have htt : ((ipTotal xs : Nat) : Int) = xs 2 * 256 + xs 3 := by unfold ipTotal; omega
  have Hsum := fun h => sumN_bd xs (ipSize xs) (fun i hi => hB.byte i (Nat.lt_of_lt_of_le hi h))
  obtain ⟨b, off, rfl, hblk, hc0⟩ := hB.at_ 0 (by omega)
  have hc1 := (bts_cell hB 1 (by omega)).2
  have hc8 := (bts_cell hB 8 (by omega)).2
  have hc9 := (bts_cell hB 9 (by omega)).2
  have H := Lib.hid hB
  have H20 := Lib.hid (bts_short hB 20 (by omega))
  clear hB
  simp only [Nat.add_zero] at hc0
  obtain ⟨S, hS⟩ : ∃ S, S = ipSize xs := ⟨_, rfl⟩
  obtain ⟨T, hT⟩ : ∃ T, T = ipTotal xs := ⟨_, rfl⟩
  rw [← hS] at hsz
  rw [← hT] at htt
  have e1 : xs 0 % 16 * 4 = (S : Int) := hsz.symm
  have e2 : xs 2 * 256 + xs 3 = (T : Int) := htt.symm
  have ES := Lib.hid hS
  have ET := Lib.hid hT
  have E2 := Lib.hid e2
  have b1 : S ≤ 60 := by omega
  have b2 : T ≤ 65535 := by omega
  rw [← hS] at Hsum hs1 hs2 ht1 hm h8 z6
  rw [← hT] at ht1 z6
  clear hS hT hsz htt
  have hfl : ipFlags xs = xs 6 * 256 + xs 7 := rfl
  have f1 : 0 ≤ ipFlags xs := by omega
  have f2 : ipFlags xs ≤ 65535 := by omega
  have Hfl := Lib.hid hfl
  clear hfl e2
  have j0 : (0 : Int) < (l : Int) := by omega
  have j1 : (1 : Int) < (l : Int) := by omega
  have j8 : (8 : Int) < (l : Int) := by omega
  have j9 : (9 : Int) < (l : Int) := by omega
  have i0 : 0 < l := by omega
  have i1 : 1 < l := by omega
  have i8 : 8 < l := by omega
  have i9 : 9 < l := by omega
  have j20 : (20 : Int) ≤ (c : Int) := by omega
  have ev : (xs 0 / 16 != 4) = false := by simp [hv]
  have HV := Lib.hid hv
  clear hv
  obtain ⟨m1, m2⟩ := Hsum hs2
  have HI := Lib.hid (bts_short H.out S hs2)
  have jc : (S : Int) ≤ (c : Int) := by omega
  have em : (sumN xs S != 65535) = false := by simp [hm]
  have HM := Lib.hid hm
  clear hm
  have HZ := Lib.hid hz
  clear hz
  clear z6
  obtain ⟨U, hU⟩ : ∃ U, U = min T l := ⟨_, rfl⟩
  have u2 : U ≤ l := by omega
  have u3 : S ≤ U := by omega
  have u4 : U ≤ T := by omega
  have EU := Lib.hid (show U = min (ipTotal xs) l by rw [hU, ET.out])
  have HU := Lib.hid hU
  clear hU
  have js : (S : Int) ≤ (U : Int) := by omega
  have jt : (U : Int) ≤ (c : Int) := by omega
  have k8 : ¬ (l : Int) - (S : Int) < 8 := by omega
  go_enter Try.func33, Try.ntmps33
  go_wp2_with (first | (go_at_call 69; refine (rerror_any _ _).mono ?_; rintro e w' ⟨rfl, rfl⟩) | (go_at_call 70; refine (words_any (some ⟨b, off, none⟩) 20 c xs _ (by omega) (H20.out.at_.on (by ((try simp only [World.junk_junk, Array.append_assoc]); (repeat (first | with_reducible exact Junk.refl _ | with_reducible exact Junk.app _ _ _ _ _ | with_reducible exact Junk.app2 _ _ _ _ _ _ | with_reducible exact Junk.app3 _ _ _ _ _ _ _ | with_reducible exact Junk.app4 _ _ _ _ _ _ _ _ | with_reducible exact Junk.app5 _ _ _ _ _ _ _ _ _ | with_reducible apply Junk.alloc | with_reducible apply Junk.junk | with_reducible apply Junk.drew | with_reducible apply Junk.drewN))))) H20.out.byte).mono ?_; rintro e w' ⟨ow, cw, rfl, ⟨osj, dj, rfl⟩, hown⟩; obtain ⟨g, rfl, _, hgS, _⟩ := own_some hown (by omega); obtain ⟨g1, hg1, _, _, hw1, _⟩ := hown.cells 1 (.int .u16 ((T : Int))) (by rw [show (wordsL xs 20 10)[1]? = some (.int .u16 (T : Int)) from by rw [word_at xs 1 (by omega)]; exact congrArg _ (congrArg _ E2.out)]); cases hg1; have hv1 := fun os d => (World.cell?_junk _ os d g _ hgS).trans hw1; obtain ⟨g2, hg2, _, _, hw2, _⟩ := hown.cells 2 (.int .u16 (xs 4 * 256 + xs 5)) (by exact word_at xs 2 (by omega)); cases hg2; have hv2 := fun os d => (World.cell?_junk _ os d g _ hgS).trans hw2; obtain ⟨g3, hg3, _, _, hw3, _⟩ := hown.cells 3 (.int .u16 (ipFlags xs)) (by exact word_at xs 3 (by omega)); cases hg3; have hv3 := fun os d => (World.cell?_junk _ os d g _ hgS).trans hw3; obtain ⟨g6, hg6, _, _, hw6, _⟩ := hown.cells 6 (.int .u16 (xs 12 * 256 + xs 13)) (by exact word_at xs 6 (by omega)); cases hg6; have hv6 := fun os d => (World.cell?_junk _ os d g _ hgS).trans hw6; obtain ⟨g7, hg7, _, _, hw7, _⟩ := hown.cells 7 (.int .u16 (xs 14 * 256 + xs 15)) (by exact word_at xs 7 (by omega)); cases hg7; have hv7 := fun os d => (World.cell?_junk _ os d g _ hgS).trans hw7; obtain ⟨g8, hg8, _, _, hw8, _⟩ := hown.cells 8 (.int .u16 (xs 16 * 256 + xs 17)) (by exact word_at xs 8 (by omega)); cases hg8; have hv8 := fun os d => (World.cell?_junk _ os d g _ hgS).trans hw8; obtain ⟨g9, hg9, _, _, hw9, _⟩ := hown.cells 9 (.int .u16 (xs 18 * 256 + xs 19)) (by exact word_at xs 9 (by omega)); cases hg9; have hv9 := fun os d => (World.cell?_junk _ os d g _ hgS).trans hw9; have hgB : ∀ k, g < w.heap.size + 1 + 1 + (osj.size + k) := (fun k => by simp at hgS; omega); simp only [World.junk_junk, Array.append_assoc] at hw1 hv1 hw2 hv2 hw3 hv3 hw6 hv6 hw7 hv7 hw8 hv8 hw9 hv9 ⊢; clear hown) | (go_at_call 71; refine (rsum_any (some ⟨b, off, none⟩) S c xs _ (by omega) (HI.out.at_.on (by ((try simp only [World.junk_junk, Array.append_assoc]); (repeat (first | with_reducible exact Junk.refl _ | with_reducible exact Junk.app _ _ _ _ _ | with_reducible exact Junk.app2 _ _ _ _ _ _ | with_reducible exact Junk.app3 _ _ _ _ _ _ _ | with_reducible exact Junk.app4 _ _ _ _ _ _ _ _ | with_reducible exact Junk.app5 _ _ _ _ _ _ _ _ _ | with_reducible apply Junk.alloc | with_reducible apply Junk.junk | with_reducible apply Junk.drew | with_reducible apply Junk.drewN))))) HI.out.byte).mono ?_; rintro e w' ⟨rfl, ⟨osS, dS, rfl⟩⟩))
  refine wp_region_mixj (((w.alloc (.cells #[.int .i64 kind, .int .i64 code, .int .u32 rest, .slice (some ⟨b, off, none⟩) l c] 25)).alloc (.cells #[.int .i64 0, .int .i64 0, .bool false, .bool false, .int .i64 0, .int .i64 0, .int .i64 0, .int .u32 0, .int .u32 0, .slice none 0 0, .slice none 0 0] 43)).junk (osj ++ osS) dS) [(0, true), (1, true), (2, true), (3, true), (4, true), (5, true), (6, true), (7, true), (8, true), (9, true), (10, true), (11, true), (12, true), (13, true), (14, true), (15, true), (16, true), (17, true), (18, true), (19, true), (20, true), (21, true), (22, true), (23, true), (24, true), (25, true), (26, true), (27, true), (28, true), (29, true), (30, true), (31, true), (32, true), (33, true), (34, true), (35, true), (36, true), (37, true), (38, true), (39, true), (40, true), (41, true), (42, true), (43, true), (44, true), (45, true), (46, true), (47, true), (48, false), (49, false)] (by kernel_rfl) (by kernel_rfl) (by (repeat (first | with_reducible exact Junk.refl _ | with_reducible exact Junk.app _ _ _ _ _ | with_reducible exact Junk.app2 _ _ _ _ _ _ | with_reducible exact Junk.app3 _ _ _ _ _ _ _ | with_reducible exact Junk.app4 _ _ _ _ _ _ _ _ | with_reducible apply Junk.alloc | with_reducible apply Junk.junk | with_reducible apply Junk.drew | with_reducible apply Junk.drewN))) ?_; (iterate 48 (refine wpMix_q rfl (fun K hK => ?_); (go_simp; try go_bits); (refine hK _ ?_; clear hK K))); refine wpMix_e rfl (fun osm18_0 dm18_0 K hK => ?_); (go_simp; try go_bits); refine hK _ _ (Junk.pair (by (repeat (first | with_reducible exact Junk.refl _ | with_reducible exact Junk.app _ _ _ _ _ | with_reducible exact Junk.app2 _ _ _ _ _ _ | with_reducible exact Junk.app3 _ _ _ _ _ _ _ | with_reducible exact Junk.app4 _ _ _ _ _ _ _ _ | with_reducible apply Junk.alloc | with_reducible apply Junk.junk | with_reducible apply Junk.drew | with_reducible apply Junk.drewN | (with_reducible refine Junk.setCell ?_ (by simp) _))))) ?_; clear hK K; refine wpMix_e rfl (fun osm18_1 dm18_1 K hK => ?_); (go_simp; try go_bits); refine hK _ _ (Junk.pair (by (repeat (first | with_reducible exact Junk.refl _ | with_reducible exact Junk.app _ _ _ _ _ | with_reducible exact Junk.app2 _ _ _ _ _ _ | with_reducible exact Junk.app3 _ _ _ _ _ _ _ | with_reducible exact Junk.app4 _ _ _ _ _ _ _ _ | with_reducible apply Junk.alloc | with_reducible apply Junk.junk | with_reducible apply Junk.drew | with_reducible apply Junk.drewN | (with_reducible refine Junk.setCell ?_ (by simp) _))))) ?_; clear hK K; refine wpMix_nil (fun osm dm => ?_)
  (try simp only [World.junk_junk, Array.append_assoc]); refine then_gen (fun osB dB => ?_)
  go_wp2_with (first | (at_builtin; (refine ap_own rfl _ _ 23 rfl 5 (.int .u8 0) 1 1 (by kernel_rfl) rfl (by decide) Try.underlying23 ((Junk.refl _).alloc _) _ 0 0 [] rfl (own_made _ _ 1 0 _ _ (by simp) (Nat.le_refl _) (Nat.zero_le _) rfl) _ (S - 20) (c - 20) rfl ((List.range (S - 20)).map fun i => .int .u8 (xs (20 + i))) (by simp) ((bts_sub4 H.out 20 S (by omega) (by omega) (by omega)).on (by ((try simp only [World.junk_junk, Array.append_assoc]); (repeat (first | with_reducible exact Junk.refl _ | with_reducible exact Junk.app _ _ _ _ _ | with_reducible exact Junk.app2 _ _ _ _ _ _ | with_reducible exact Junk.app3 _ _ _ _ _ _ _ | with_reducible exact Junk.app4 _ _ _ _ _ _ _ _ | with_reducible exact Junk.app5 _ _ _ _ _ _ _ _ _ | with_reducible apply Junk.alloc | with_reducible apply Junk.junk | with_reducible apply Junk.drew | with_reducible apply Junk.drewN))))).at_.src (fun h => by cases h) (by simp [Value.oneCell']) (by simp only [maxLen]; omega) (by omega) ?_; intro oo1 co1 os1 d1 hown _; rw [List.nil_append, Nat.zero_add] at hown; have hb := own_bts hown (fun i hi => H.out.byte _ (by omega)); have Hf1 := Lib.hid (own_fresh hown); simp only [World.junk_junk] at hb; have Hcb1 := Lib.hid hb; clear hown hb; (try generalize (if c = 20 then (some (⟨b, off, none⟩ : Addr)) else some ⟨b, off + 20, none⟩) = dp1))))
  go_loopw [10] (fun i wr => ∃ (k j : Nat) (ob : Option Addr) (cap : Nat) (os : Array Obj) (d : Nat), i = .int .i64 (j : Int) ∧ wr = ((((w.alloc (.cells #[.int .i64 kind, .int .i64 code, .int .u32 rest, .slice (some ⟨b, off, none⟩) l c] 25)).alloc (.cells #[.int .i64 0, .int .i64 0, .bool false, .bool false, .int .i64 0, .int .i64 0, .int .i64 0, .int .u32 0, .int .u32 0, .slice none 0 0, .slice none 0 0] 43)).junk (osj ++ (osS ++ osm18_0)) dm18_0).alloc (.cells #[.int .i64 (mkIp xs S U).tos, .int .i64 (mkIp xs S U).id, .bool (mkIp xs S U).df, .bool (mkIp xs S U).mf, .int .i64 (mkIp xs S U).off, .int .i64 (mkIp xs S U).ttl, .int .i64 (mkIp xs S U).proto, .int .u32 (mkIp xs S U).src, .int .u32 (mkIp xs S U).dst, .slice oo1 (S - 20) co1, .slice ob k cap] 43)).junk (osB ++ (os1 ++ os)) d ∧ Own (w.heap.size + 1 + 1 + (osj.size + (osS.size + osm18_0.size)) + 1 + (osB.size + os1.size)) wr 5 1 ob cap k (bytesL k (fun q => xs (S + q))) ∧ j ≤ S + k ∧ S + k ≤ j ∧ j ≤ U) (fun i _ => U + 1 - (intOf i).toNat)
  case atStart => exact ⟨0, S, none, 0, #[], d1, rfl, by rw [Array.append_empty]; rfl, Own.nil _ _ _ _, by omega, by omega, by omega⟩
  case round =>
    obtain ⟨k, j, ob, cap, os, d, rfl, rfl, hown, hj1, hj2, hj3⟩ := hrel
    have Hown := Lib.hid hown
    clear hown
    have hw1 : j ≤ 100000000 := by omega
    by_cases hlt : j < U
    · have q1 : j < l := by omega
      have q2 : (j : Int) < (l : Int) := by omega
      have q3 : (j : Int) < (T : Int) := by have := HU.out; omega
      have hcj := (bts_cell H.out j q1).2
      have hbj := Hx.out j q1
      have hk9 : k ≤ 100000000 := by omega
      have HJ := Lib.hid (show j = S + k by omega)
      clear hj1 hj2
      go_wp2
      refine wp_region_mixl (((((w.alloc (.cells #[.int .i64 kind, .int .i64 code, .int .u32 rest, .slice (some ⟨b, off, none⟩) l c] 25)).alloc (.cells #[.int .i64 0, .int .i64 0, .bool false, .bool false, .int .i64 0, .int .i64 0, .int .i64 0, .int .u32 0, .int .u32 0, .slice none 0 0, .slice none 0 0] 43)).junk (osj ++ (osS ++ osm18_0)) dm18_0).alloc (.cells #[.int .i64 (mkIp xs S U).tos, .int .i64 (mkIp xs S U).id, .bool (mkIp xs S U).df, .bool (mkIp xs S U).mf, .int .i64 (mkIp xs S U).off, .int .i64 (mkIp xs S U).ttl, .int .i64 (mkIp xs S U).proto, .int .u32 (mkIp xs S U).src, .int .u32 (mkIp xs S U).dst, .slice oo1 (S - 20) co1, .slice ob k cap] 43)).junk (osB ++ os1) d1) 9 [(0, true), (1, true), (2, true), (3, true), (4, true), (5, true), (6, false), (7, false), (8, true), (9, false)] (by kernel_rfl) (by kernel_rfl) (by (repeat (first | with_reducible exact Junk.refl _ | with_reducible exact Junk.app _ _ _ _ _ | with_reducible exact Junk.app2 _ _ _ _ _ _ | with_reducible exact Junk.app3 _ _ _ _ _ _ _ | with_reducible exact Junk.app4 _ _ _ _ _ _ _ _ | with_reducible apply Junk.alloc | with_reducible apply Junk.junk | with_reducible apply Junk.drew | with_reducible apply Junk.drewN))) ?_; (iterate 6 (refine wpMixL_q rfl (fun K hK => ?_); (go_simp; try go_bits); (refine hK _ ?_; clear hK K))); refine wpMixL_e rfl (fun osm23_0 dm23_0 K hK => ?_); (go_simp; try go_bits); refine hK _ _ (Junk.pair (by (repeat (first | with_reducible exact Junk.refl _ | with_reducible exact Junk.app _ _ _ _ _ | with_reducible exact Junk.app2 _ _ _ _ _ _ | with_reducible exact Junk.app3 _ _ _ _ _ _ _ | with_reducible exact Junk.app4 _ _ _ _ _ _ _ _ | with_reducible apply Junk.alloc | with_reducible apply Junk.junk | with_reducible apply Junk.drew | with_reducible apply Junk.drewN | (with_reducible refine Junk.setCell ?_ (by simp) _))))) ?_; clear hK K; refine wpMixL_e1 rfl rfl (fun osm23_1 dm23_1 K hK => ?_); (refine ap_own_wp (W0 := ((((w.alloc (.cells #[.int .i64 kind, .int .i64 code, .int .u32 rest, .slice (some ⟨b, off, none⟩) l c] 25)).alloc (.cells #[.int .i64 0, .int .i64 0, .bool false, .bool false, .int .i64 0, .int .i64 0, .int .i64 0, .int .u32 0, .int .u32 0, .slice none 0 0, .slice none 0 0] 43)).junk (osj ++ (osS ++ osm18_0)) dm18_0).alloc (.cells #[.int .i64 (mkIp xs S U).tos, .int .i64 (mkIp xs S U).id, .bool (mkIp xs S U).df, .bool (mkIp xs S U).mf, .int .i64 (mkIp xs S U).off, .int .i64 (mkIp xs S U).ttl, .int .i64 (mkIp xs S U).proto, .int .u32 (mkIp xs S U).src, .int .u32 (mkIp xs S U).dst, .slice oo1 (S - 20) co1, .slice ob k cap] 43)).junk (osB ++ os1) d1) _ _ 23 rfl 5 (.int .u8 0) 1 1 (by kernel_rfl) rfl (by decide) Try.underlying23 (by ((try simp only [World.junk_junk, Array.append_assoc]); (repeat (first | with_reducible exact Junk.refl _ | with_reducible exact Junk.app _ _ _ _ _ | with_reducible exact Junk.app2 _ _ _ _ _ _ | with_reducible exact Junk.app3 _ _ _ _ _ _ _ | with_reducible exact Junk.app4 _ _ _ _ _ _ _ _ | with_reducible exact Junk.app5 _ _ _ _ _ _ _ _ _ | with_reducible apply Junk.alloc | with_reducible apply Junk.junk | with_reducible apply Junk.drew | with_reducible apply Junk.drewN)))) ob cap k _ rfl ((Hown.out.lower (by simp)).on (by ((try simp only [World.junk_junk, Array.append_assoc]); (repeat (first | with_reducible exact Junk.refl _ | with_reducible exact Junk.app _ _ _ _ _ | with_reducible exact Junk.app2 _ _ _ _ _ _ | with_reducible exact Junk.app3 _ _ _ _ _ _ _ | with_reducible exact Junk.app4 _ _ _ _ _ _ _ _ | with_reducible exact Junk.app5 _ _ _ _ _ _ _ _ _ | with_reducible apply Junk.alloc | with_reducible apply Junk.junk | with_reducible apply Junk.drew | with_reducible apply Junk.drewN))))) _ 1 1 rfl [_] rfl (built_cells2 (by simp)) (by simp) (by simp [Value.oneCell']) (by simp only [maxLen]; omega) (by omega) ?_; intro ob' cap' os' d' hown' _; simp only [World.junk_junk] at hown'; have Hown2 := Lib.hid hown'; clear hown'); refine hK _ _ (Junk.pair (by (repeat (first | with_reducible exact Junk.refl _ | with_reducible exact Junk.app _ _ _ _ _ | with_reducible exact Junk.app2 _ _ _ _ _ _ | with_reducible exact Junk.app3 _ _ _ _ _ _ _ | with_reducible exact Junk.app4 _ _ _ _ _ _ _ _ | with_reducible apply Junk.alloc | with_reducible apply Junk.junk | with_reducible apply Junk.drew | with_reducible apply Junk.drewN | (with_reducible refine Junk.setCell ?_ (by simp) _))))) ?_; clear hK K; (iterate 1 (refine wpMixL_q rfl (fun K hK => ?_); (go_simp; try go_bits); (refine hK _ ?_; clear hK K))); refine wpMixL_last rfl (fun osm23_2 dm23_2 K hK => ?_); (go_simp; try go_bits); refine hK _ _ ?_; clear hK K; refine wpMixL_nil (fun osm dm => ?_)
      (try simp only [World.junk_junk, Array.append_assoc])
      go_wp2
      exact ⟨⟨k + 1, j + 1, ob', cap', _, _, by go_num, by (try simp only [World.junk_junk, Array.append_assoc]); rfl, own_cast2 (own_over2 (by simp) (Hown2.out.lower (by simp)) (by simp; try omega) ⟨_, by simp only [Array.append_assoc]; rfl⟩) (by rw [HJ.out]; exact (bytesL_succ _ _)), by have := HJ.out; omega, by have := HJ.out; omega, by omega⟩, by simp [intOf]; omega⟩
    · have hU := HU.out
      obtain rfl : k = U - S := by omega
      by_cases hjl : j < l
      · have q2 : (j : Int) < (l : Int) := by omega
        have q3 : ¬ (j : Int) < (T : Int) := by omega
        clear hU
        go_wp2
        go_returns
        exact aboutM_ok (about_len a1 HZ.out) (by ((try simp only [World.junk_junk, Array.append_assoc]); (repeat (first | with_reducible exact Junk.refl _ | with_reducible exact Junk.app _ _ _ _ _ | with_reducible exact Junk.app2 _ _ _ _ _ _ | with_reducible exact Junk.app3 _ _ _ _ _ _ _ | with_reducible exact Junk.app4 _ _ _ _ _ _ _ _ | with_reducible exact Junk.app5 _ _ _ _ _ _ _ _ _ | with_reducible apply Junk.alloc | with_reducible apply Junk.junk | with_reducible apply Junk.drew | with_reducible apply Junk.drewN)))) ES.out EU.out (bts_over2 (by simp) Hcb1.out (Hf1.out.lower (by simp)) ⟨_, by repeat rw [Array.append_assoc]⟩) (bts_over2 (by simp) (own_bts Hown.out (fun i hi => Hx.out _ (by omega))) ((own_fresh Hown.out).lower (by simp; try omega)) ⟨#[], by simp⟩) (fun i hi => Hx.out i (by omega))
      · have q2 : ¬ (j : Int) < (l : Int) := by omega
        clear hU
        go_wp2
        go_returns
        exact aboutM_ok (about_len a1 HZ.out) (by ((try simp only [World.junk_junk, Array.append_assoc]); (repeat (first | with_reducible exact Junk.refl _ | with_reducible exact Junk.app _ _ _ _ _ | with_reducible exact Junk.app2 _ _ _ _ _ _ | with_reducible exact Junk.app3 _ _ _ _ _ _ _ | with_reducible exact Junk.app4 _ _ _ _ _ _ _ _ | with_reducible exact Junk.app5 _ _ _ _ _ _ _ _ _ | with_reducible apply Junk.alloc | with_reducible apply Junk.junk | with_reducible apply Junk.drew | with_reducible apply Junk.drewN)))) ES.out EU.out (bts_over2 (by simp) Hcb1.out (Hf1.out.lower (by simp)) ⟨_, by repeat rw [Array.append_assoc]⟩) (bts_over2 (by simp) (own_bts Hown.out (fun i hi => Hx.out _ (by omega))) ((own_fresh Hown.out).lower (by simp; try omega)) ⟨#[], by simp⟩) (fun i hi => Hx.out i (by omega))
set_option maxHeartbeats 8000000 in
theorem rabout_any (kind code rest : Int) (oa : Option Addr) (l c : Nat) (xs : Nat → Int) (w : World) (hl : l ≤ 100000000) (hB : Bts w oa l c xs) :
    Calls Try.prog 33 #[.agg #[.int .i64 kind, .int .i64 code, .int .u32 rest, .slice oa l c]] w (AboutM w kind xs l) := by
  cases a1 : errorB kind with
  | false =>
    clear hB
    go_enter Try.func33, Try.ntmps33
    go_wp2_with (first | (go_at_call 69; refine (rerror_any _ _).mono ?_; rintro e w' ⟨rfl, rfl⟩))
    go_returns
    exact aboutM_bad (by unfold aboutErr; rw [if_pos a1]) (by decide) (by ((try simp only [World.junk_junk, Array.append_assoc]); (repeat (first | with_reducible exact Junk.refl _ | with_reducible exact Junk.app _ _ _ _ _ | with_reducible exact Junk.app2 _ _ _ _ _ _ | with_reducible exact Junk.app3 _ _ _ _ _ _ _ | with_reducible exact Junk.app4 _ _ _ _ _ _ _ _ | with_reducible exact Junk.app5 _ _ _ _ _ _ _ _ _ | with_reducible apply Junk.alloc | with_reducible apply Junk.junk | with_reducible apply Junk.drew | with_reducible apply Junk.drewN))))
  | true =>
  by_cases h20 : l < 20
  · clear hB
    go_enter Try.func33, Try.ntmps33
    go_wp2_with (first | (go_at_call 69; refine (rerror_any _ _).mono ?_; rintro e w' ⟨rfl, rfl⟩))
    go_returns
    exact aboutM_bad (about_len a1 (by unfold wholeErr; rw [if_pos h20])) (by decide) (by ((try simp only [World.junk_junk, Array.append_assoc]); (repeat (first | with_reducible exact Junk.refl _ | with_reducible exact Junk.app _ _ _ _ _ | with_reducible exact Junk.app2 _ _ _ _ _ _ | with_reducible exact Junk.app3 _ _ _ _ _ _ _ | with_reducible exact Junk.app4 _ _ _ _ _ _ _ _ | with_reducible exact Junk.app5 _ _ _ _ _ _ _ _ _ | with_reducible apply Junk.alloc | with_reducible apply Junk.junk | with_reducible apply Junk.drew | with_reducible apply Junk.drewN))))
  · have hlc := hB.le
    have hcm := hB.cap
    have Hx := Lib.hid (fun i (hi : i < l) => hB.byte i hi)
    have x0 := hB.byte 0 (by omega); have x1 := hB.byte 1 (by omega); have x2 := hB.byte 2 (by omega); have x3 := hB.byte 3 (by omega); have x4 := hB.byte 4 (by omega); have x5 := hB.byte 5 (by omega); have x6 := hB.byte 6 (by omega); have x7 := hB.byte 7 (by omega); have x8 := hB.byte 8 (by omega); have x9 := hB.byte 9 (by omega); have x12 := hB.byte 12 (by omega); have x13 := hB.byte 13 (by omega); have x14 := hB.byte 14 (by omega); have x15 := hB.byte 15 (by omega); have x16 := hB.byte 16 (by omega); have x17 := hB.byte 17 (by omega); have x18 := hB.byte 18 (by omega); have x19 := hB.byte 19 (by omega)
    have hsz : ((ipSize xs : Nat) : Int) = xs 0 % 16 * 4 := by unfold ipSize; omega
    have htt : ((ipTotal xs : Nat) : Int) = xs 2 * 256 + xs 3 := by unfold ipTotal; omega
    have Hsum := fun h => sumN_bd xs (ipSize xs) (fun i hi => hB.byte i (Nat.lt_of_lt_of_le hi h))
    obtain ⟨b, off, rfl, hblk, hc0⟩ := hB.at_ 0 (by omega)
    have hc1 := (bts_cell hB 1 (by omega)).2
    have hc8 := (bts_cell hB 8 (by omega)).2
    have hc9 := (bts_cell hB 9 (by omega)).2
    have H := Lib.hid hB
    have H20 := Lib.hid (bts_short hB 20 (by omega))
    clear hB
    simp only [Nat.add_zero] at hc0
    obtain ⟨S, hS⟩ : ∃ S, S = ipSize xs := ⟨_, rfl⟩
    obtain ⟨T, hT⟩ : ∃ T, T = ipTotal xs := ⟨_, rfl⟩
    rw [← hS] at hsz
    rw [← hT] at htt
    have e1 : xs 0 % 16 * 4 = (S : Int) := hsz.symm
    have e2 : xs 2 * 256 + xs 3 = (T : Int) := htt.symm
    have ES := Lib.hid hS
    have ET := Lib.hid hT
    have E2 := Lib.hid e2
    have b1 : S ≤ 60 := by omega
    have b2 : T ≤ 65535 := by omega
    rw [← hS] at Hsum
    clear hS hT hsz htt
    have hfl : ipFlags xs = xs 6 * 256 + xs 7 := rfl
    have f1 : 0 ≤ ipFlags xs := by omega
    have f2 : ipFlags xs ≤ 65535 := by omega
    have Hfl := Lib.hid hfl
    clear hfl e2
    have j0 : (0 : Int) < (l : Int) := by omega
    have j1 : (1 : Int) < (l : Int) := by omega
    have j8 : (8 : Int) < (l : Int) := by omega
    have j9 : (9 : Int) < (l : Int) := by omega
    have i0 : 0 < l := by omega
    have i1 : 1 < l := by omega
    have i8 : 8 < l := by omega
    have i9 : 9 < l := by omega
    have j20 : (20 : Int) ≤ (c : Int) := by omega
    by_cases hv : xs 0 / 16 = 4
    case neg =>
      have ev : (xs 0 / 16 != 4) = true := by simp [hv]
      have HV := Lib.hid hv
      clear hv
      go_enter Try.func33, Try.ntmps33
      go_wp2_with (first | (go_at_call 69; refine (rerror_any _ _).mono ?_; rintro e w' ⟨rfl, rfl⟩))
      go_returns
      exact aboutM_bad (about_len a1 (by unfold wholeErr; rw [if_neg h20, if_pos (fun h => HV.out h.1)])) (by decide) (by ((try simp only [World.junk_junk, Array.append_assoc]); (repeat (first | with_reducible exact Junk.refl _ | with_reducible exact Junk.app _ _ _ _ _ | with_reducible exact Junk.app2 _ _ _ _ _ _ | with_reducible exact Junk.app3 _ _ _ _ _ _ _ | with_reducible exact Junk.app4 _ _ _ _ _ _ _ _ | with_reducible exact Junk.app5 _ _ _ _ _ _ _ _ _ | with_reducible apply Junk.alloc | with_reducible apply Junk.junk | with_reducible apply Junk.drew | with_reducible apply Junk.drewN))))
    have ev : (xs 0 / 16 != 4) = false := by simp [hv]
    have HV := Lib.hid hv
    clear hv
    by_cases hs1 : 20 ≤ S
    case neg =>
      go_enter Try.func33, Try.ntmps33
      go_wp2_with (first | (go_at_call 69; refine (rerror_any _ _).mono ?_; rintro e w' ⟨rfl, rfl⟩))
      go_returns
      exact aboutM_bad (about_len a1 (by unfold wholeErr; rw [if_neg h20, if_pos (fun h => hs1 (ES.out ▸ h.2.1))])) (by decide) (by ((try simp only [World.junk_junk, Array.append_assoc]); (repeat (first | with_reducible exact Junk.refl _ | with_reducible exact Junk.app _ _ _ _ _ | with_reducible exact Junk.app2 _ _ _ _ _ _ | with_reducible exact Junk.app3 _ _ _ _ _ _ _ | with_reducible exact Junk.app4 _ _ _ _ _ _ _ _ | with_reducible exact Junk.app5 _ _ _ _ _ _ _ _ _ | with_reducible apply Junk.alloc | with_reducible apply Junk.junk | with_reducible apply Junk.drew | with_reducible apply Junk.drewN))))
    by_cases hs2 : S ≤ l
    case neg =>
      go_enter Try.func33, Try.ntmps33
      go_wp2_with (first | (go_at_call 69; refine (rerror_any _ _).mono ?_; rintro e w' ⟨rfl, rfl⟩))
      go_returns
      exact aboutM_bad (about_len a1 (by unfold wholeErr; rw [if_neg h20, if_pos (fun h => hs2 (ES.out ▸ h.2.2))])) (by decide) (by ((try simp only [World.junk_junk, Array.append_assoc]); (repeat (first | with_reducible exact Junk.refl _ | with_reducible exact Junk.app _ _ _ _ _ | with_reducible exact Junk.app2 _ _ _ _ _ _ | with_reducible exact Junk.app3 _ _ _ _ _ _ _ | with_reducible exact Junk.app4 _ _ _ _ _ _ _ _ | with_reducible exact Junk.app5 _ _ _ _ _ _ _ _ _ | with_reducible apply Junk.alloc | with_reducible apply Junk.junk | with_reducible apply Junk.drew | with_reducible apply Junk.drewN))))
    by_cases ht1 : S ≤ T
    case neg =>
      go_enter Try.func33, Try.ntmps33
      go_wp2_with (first | (go_at_call 69; refine (rerror_any _ _).mono ?_; rintro e w' ⟨rfl, rfl⟩) | (go_at_call 70; refine (words_any (some ⟨b, off, none⟩) 20 c xs _ (by omega) (H20.out.at_.on (by ((try simp only [World.junk_junk, Array.append_assoc]); (repeat (first | with_reducible exact Junk.refl _ | with_reducible exact Junk.app _ _ _ _ _ | with_reducible exact Junk.app2 _ _ _ _ _ _ | with_reducible exact Junk.app3 _ _ _ _ _ _ _ | with_reducible exact Junk.app4 _ _ _ _ _ _ _ _ | with_reducible exact Junk.app5 _ _ _ _ _ _ _ _ _ | with_reducible apply Junk.alloc | with_reducible apply Junk.junk | with_reducible apply Junk.drew | with_reducible apply Junk.drewN))))) H20.out.byte).mono ?_; rintro e w' ⟨ow, cw, rfl, ⟨osj, dj, rfl⟩, hown⟩; obtain ⟨g, rfl, _, hgS, _⟩ := own_some hown (by omega); obtain ⟨g1, hg1, _, _, hw1, _⟩ := hown.cells 1 (.int .u16 ((T : Int))) (by rw [show (wordsL xs 20 10)[1]? = some (.int .u16 (T : Int)) from by rw [word_at xs 1 (by omega)]; exact congrArg _ (congrArg _ E2.out)]); cases hg1; have hv1 := fun os d => (World.cell?_junk _ os d g _ hgS).trans hw1; obtain ⟨g2, hg2, _, _, hw2, _⟩ := hown.cells 2 (.int .u16 (xs 4 * 256 + xs 5)) (by exact word_at xs 2 (by omega)); cases hg2; have hv2 := fun os d => (World.cell?_junk _ os d g _ hgS).trans hw2; obtain ⟨g3, hg3, _, _, hw3, _⟩ := hown.cells 3 (.int .u16 (ipFlags xs)) (by exact word_at xs 3 (by omega)); cases hg3; have hv3 := fun os d => (World.cell?_junk _ os d g _ hgS).trans hw3; obtain ⟨g6, hg6, _, _, hw6, _⟩ := hown.cells 6 (.int .u16 (xs 12 * 256 + xs 13)) (by exact word_at xs 6 (by omega)); cases hg6; have hv6 := fun os d => (World.cell?_junk _ os d g _ hgS).trans hw6; obtain ⟨g7, hg7, _, _, hw7, _⟩ := hown.cells 7 (.int .u16 (xs 14 * 256 + xs 15)) (by exact word_at xs 7 (by omega)); cases hg7; have hv7 := fun os d => (World.cell?_junk _ os d g _ hgS).trans hw7; obtain ⟨g8, hg8, _, _, hw8, _⟩ := hown.cells 8 (.int .u16 (xs 16 * 256 + xs 17)) (by exact word_at xs 8 (by omega)); cases hg8; have hv8 := fun os d => (World.cell?_junk _ os d g _ hgS).trans hw8; obtain ⟨g9, hg9, _, _, hw9, _⟩ := hown.cells 9 (.int .u16 (xs 18 * 256 + xs 19)) (by exact word_at xs 9 (by omega)); cases hg9; have hv9 := fun os d => (World.cell?_junk _ os d g _ hgS).trans hw9; have hgB : ∀ k, g < w.heap.size + 1 + 1 + (osj.size + k) := (fun k => by simp at hgS; omega); simp only [World.junk_junk, Array.append_assoc] at hw1 hv1 hw2 hv2 hw3 hv3 hw6 hv6 hw7 hv7 hw8 hv8 hw9 hv9 ⊢; clear hown) | (go_at_call 71; refine (rsum_any (some ⟨b, off, none⟩) S c xs _ (by omega) (HI.out.at_.on (by ((try simp only [World.junk_junk, Array.append_assoc]); (repeat (first | with_reducible exact Junk.refl _ | with_reducible exact Junk.app _ _ _ _ _ | with_reducible exact Junk.app2 _ _ _ _ _ _ | with_reducible exact Junk.app3 _ _ _ _ _ _ _ | with_reducible exact Junk.app4 _ _ _ _ _ _ _ _ | with_reducible exact Junk.app5 _ _ _ _ _ _ _ _ _ | with_reducible apply Junk.alloc | with_reducible apply Junk.junk | with_reducible apply Junk.drew | with_reducible apply Junk.drewN))))) HI.out.byte).mono ?_; rintro e w' ⟨rfl, ⟨osS, dS, rfl⟩⟩))
      go_returns
      exact aboutM_bad (about_len a1 (by unfold wholeErr; rw [if_neg h20, ← ES.out, ← ET.out, if_neg (fun h => h ⟨HV.out, hs1, hs2⟩), if_pos ht1])) (by decide) (by ((try simp only [World.junk_junk, Array.append_assoc]); (repeat (first | with_reducible exact Junk.refl _ | with_reducible exact Junk.app _ _ _ _ _ | with_reducible exact Junk.app2 _ _ _ _ _ _ | with_reducible exact Junk.app3 _ _ _ _ _ _ _ | with_reducible exact Junk.app4 _ _ _ _ _ _ _ _ | with_reducible exact Junk.app5 _ _ _ _ _ _ _ _ _ | with_reducible apply Junk.alloc | with_reducible apply Junk.junk | with_reducible apply Junk.drew | with_reducible apply Junk.drewN))))
    obtain ⟨m1, m2⟩ := Hsum hs2
    have HI := Lib.hid (bts_short H.out S hs2)
    have jc : (S : Int) ≤ (c : Int) := by omega
    by_cases hm : sumN xs S = 65535
    case neg =>
      have em : (sumN xs S != 65535) = true := by simp [hm]
      have HM := Lib.hid hm
      clear hm
      go_enter Try.func33, Try.ntmps33
      go_wp2_with (first | (go_at_call 69; refine (rerror_any _ _).mono ?_; rintro e w' ⟨rfl, rfl⟩) | (go_at_call 70; refine (words_any (some ⟨b, off, none⟩) 20 c xs _ (by omega) (H20.out.at_.on (by ((try simp only [World.junk_junk, Array.append_assoc]); (repeat (first | with_reducible exact Junk.refl _ | with_reducible exact Junk.app _ _ _ _ _ | with_reducible exact Junk.app2 _ _ _ _ _ _ | with_reducible exact Junk.app3 _ _ _ _ _ _ _ | with_reducible exact Junk.app4 _ _ _ _ _ _ _ _ | with_reducible exact Junk.app5 _ _ _ _ _ _ _ _ _ | with_reducible apply Junk.alloc | with_reducible apply Junk.junk | with_reducible apply Junk.drew | with_reducible apply Junk.drewN))))) H20.out.byte).mono ?_; rintro e w' ⟨ow, cw, rfl, ⟨osj, dj, rfl⟩, hown⟩; obtain ⟨g, rfl, _, hgS, _⟩ := own_some hown (by omega); obtain ⟨g1, hg1, _, _, hw1, _⟩ := hown.cells 1 (.int .u16 ((T : Int))) (by rw [show (wordsL xs 20 10)[1]? = some (.int .u16 (T : Int)) from by rw [word_at xs 1 (by omega)]; exact congrArg _ (congrArg _ E2.out)]); cases hg1; have hv1 := fun os d => (World.cell?_junk _ os d g _ hgS).trans hw1; obtain ⟨g2, hg2, _, _, hw2, _⟩ := hown.cells 2 (.int .u16 (xs 4 * 256 + xs 5)) (by exact word_at xs 2 (by omega)); cases hg2; have hv2 := fun os d => (World.cell?_junk _ os d g _ hgS).trans hw2; obtain ⟨g3, hg3, _, _, hw3, _⟩ := hown.cells 3 (.int .u16 (ipFlags xs)) (by exact word_at xs 3 (by omega)); cases hg3; have hv3 := fun os d => (World.cell?_junk _ os d g _ hgS).trans hw3; obtain ⟨g6, hg6, _, _, hw6, _⟩ := hown.cells 6 (.int .u16 (xs 12 * 256 + xs 13)) (by exact word_at xs 6 (by omega)); cases hg6; have hv6 := fun os d => (World.cell?_junk _ os d g _ hgS).trans hw6; obtain ⟨g7, hg7, _, _, hw7, _⟩ := hown.cells 7 (.int .u16 (xs 14 * 256 + xs 15)) (by exact word_at xs 7 (by omega)); cases hg7; have hv7 := fun os d => (World.cell?_junk _ os d g _ hgS).trans hw7; obtain ⟨g8, hg8, _, _, hw8, _⟩ := hown.cells 8 (.int .u16 (xs 16 * 256 + xs 17)) (by exact word_at xs 8 (by omega)); cases hg8; have hv8 := fun os d => (World.cell?_junk _ os d g _ hgS).trans hw8; obtain ⟨g9, hg9, _, _, hw9, _⟩ := hown.cells 9 (.int .u16 (xs 18 * 256 + xs 19)) (by exact word_at xs 9 (by omega)); cases hg9; have hv9 := fun os d => (World.cell?_junk _ os d g _ hgS).trans hw9; have hgB : ∀ k, g < w.heap.size + 1 + 1 + (osj.size + k) := (fun k => by simp at hgS; omega); simp only [World.junk_junk, Array.append_assoc] at hw1 hv1 hw2 hv2 hw3 hv3 hw6 hv6 hw7 hv7 hw8 hv8 hw9 hv9 ⊢; clear hown) | (go_at_call 71; refine (rsum_any (some ⟨b, off, none⟩) S c xs _ (by omega) (HI.out.at_.on (by ((try simp only [World.junk_junk, Array.append_assoc]); (repeat (first | with_reducible exact Junk.refl _ | with_reducible exact Junk.app _ _ _ _ _ | with_reducible exact Junk.app2 _ _ _ _ _ _ | with_reducible exact Junk.app3 _ _ _ _ _ _ _ | with_reducible exact Junk.app4 _ _ _ _ _ _ _ _ | with_reducible exact Junk.app5 _ _ _ _ _ _ _ _ _ | with_reducible apply Junk.alloc | with_reducible apply Junk.junk | with_reducible apply Junk.drew | with_reducible apply Junk.drewN))))) HI.out.byte).mono ?_; rintro e w' ⟨rfl, ⟨osS, dS, rfl⟩⟩))
      go_returns
      exact aboutM_bad (about_len a1 (by unfold wholeErr; rw [if_neg h20, ← ES.out, ← ET.out, if_neg (fun h => h ⟨HV.out, hs1, hs2⟩), if_neg (fun h => h ht1), if_pos HM.out])) (by decide) (by ((try simp only [World.junk_junk, Array.append_assoc]); (repeat (first | with_reducible exact Junk.refl _ | with_reducible exact Junk.app _ _ _ _ _ | with_reducible exact Junk.app2 _ _ _ _ _ _ | with_reducible exact Junk.app3 _ _ _ _ _ _ _ | with_reducible exact Junk.app4 _ _ _ _ _ _ _ _ | with_reducible exact Junk.app5 _ _ _ _ _ _ _ _ _ | with_reducible apply Junk.alloc | with_reducible apply Junk.junk | with_reducible apply Junk.drew | with_reducible apply Junk.drewN))))
    have em : (sumN xs S != 65535) = false := by simp [hm]
    have HM := Lib.hid hm
    clear hm
    by_cases hs8 : l < S + 8 ∧ l < T
    · obtain ⟨hs8, hs9⟩ := hs8
      have k8 : (l : Int) - (S : Int) < 8 := by omega
      go_enter Try.func33, Try.ntmps33
      go_wp2_with (first | (go_at_call 69; refine (rerror_any _ _).mono ?_; rintro e w' ⟨rfl, rfl⟩) | (go_at_call 70; refine (words_any (some ⟨b, off, none⟩) 20 c xs _ (by omega) (H20.out.at_.on (by ((try simp only [World.junk_junk, Array.append_assoc]); (repeat (first | with_reducible exact Junk.refl _ | with_reducible exact Junk.app _ _ _ _ _ | with_reducible exact Junk.app2 _ _ _ _ _ _ | with_reducible exact Junk.app3 _ _ _ _ _ _ _ | with_reducible exact Junk.app4 _ _ _ _ _ _ _ _ | with_reducible exact Junk.app5 _ _ _ _ _ _ _ _ _ | with_reducible apply Junk.alloc | with_reducible apply Junk.junk | with_reducible apply Junk.drew | with_reducible apply Junk.drewN))))) H20.out.byte).mono ?_; rintro e w' ⟨ow, cw, rfl, ⟨osj, dj, rfl⟩, hown⟩; obtain ⟨g, rfl, _, hgS, _⟩ := own_some hown (by omega); obtain ⟨g1, hg1, _, _, hw1, _⟩ := hown.cells 1 (.int .u16 ((T : Int))) (by rw [show (wordsL xs 20 10)[1]? = some (.int .u16 (T : Int)) from by rw [word_at xs 1 (by omega)]; exact congrArg _ (congrArg _ E2.out)]); cases hg1; have hv1 := fun os d => (World.cell?_junk _ os d g _ hgS).trans hw1; obtain ⟨g2, hg2, _, _, hw2, _⟩ := hown.cells 2 (.int .u16 (xs 4 * 256 + xs 5)) (by exact word_at xs 2 (by omega)); cases hg2; have hv2 := fun os d => (World.cell?_junk _ os d g _ hgS).trans hw2; obtain ⟨g3, hg3, _, _, hw3, _⟩ := hown.cells 3 (.int .u16 (ipFlags xs)) (by exact word_at xs 3 (by omega)); cases hg3; have hv3 := fun os d => (World.cell?_junk _ os d g _ hgS).trans hw3; obtain ⟨g6, hg6, _, _, hw6, _⟩ := hown.cells 6 (.int .u16 (xs 12 * 256 + xs 13)) (by exact word_at xs 6 (by omega)); cases hg6; have hv6 := fun os d => (World.cell?_junk _ os d g _ hgS).trans hw6; obtain ⟨g7, hg7, _, _, hw7, _⟩ := hown.cells 7 (.int .u16 (xs 14 * 256 + xs 15)) (by exact word_at xs 7 (by omega)); cases hg7; have hv7 := fun os d => (World.cell?_junk _ os d g _ hgS).trans hw7; obtain ⟨g8, hg8, _, _, hw8, _⟩ := hown.cells 8 (.int .u16 (xs 16 * 256 + xs 17)) (by exact word_at xs 8 (by omega)); cases hg8; have hv8 := fun os d => (World.cell?_junk _ os d g _ hgS).trans hw8; obtain ⟨g9, hg9, _, _, hw9, _⟩ := hown.cells 9 (.int .u16 (xs 18 * 256 + xs 19)) (by exact word_at xs 9 (by omega)); cases hg9; have hv9 := fun os d => (World.cell?_junk _ os d g _ hgS).trans hw9; have hgB : ∀ k, g < w.heap.size + 1 + 1 + (osj.size + k) := (fun k => by simp at hgS; omega); simp only [World.junk_junk, Array.append_assoc] at hw1 hv1 hw2 hv2 hw3 hv3 hw6 hv6 hw7 hv7 hw8 hv8 hw9 hv9 ⊢; clear hown) | (go_at_call 71; refine (rsum_any (some ⟨b, off, none⟩) S c xs _ (by omega) (HI.out.at_.on (by ((try simp only [World.junk_junk, Array.append_assoc]); (repeat (first | with_reducible exact Junk.refl _ | with_reducible exact Junk.app _ _ _ _ _ | with_reducible exact Junk.app2 _ _ _ _ _ _ | with_reducible exact Junk.app3 _ _ _ _ _ _ _ | with_reducible exact Junk.app4 _ _ _ _ _ _ _ _ | with_reducible exact Junk.app5 _ _ _ _ _ _ _ _ _ | with_reducible apply Junk.alloc | with_reducible apply Junk.junk | with_reducible apply Junk.drew | with_reducible apply Junk.drewN))))) HI.out.byte).mono ?_; rintro e w' ⟨rfl, ⟨osS, dS, rfl⟩⟩))
      go_returns
      exact aboutM_bad (about_len a1 (by unfold wholeErr; rw [if_neg h20, ← ES.out, ← ET.out, if_neg (fun h => h ⟨HV.out, hs1, hs2⟩), if_neg (fun h => h ht1), if_neg (fun h => h HM.out), if_pos ⟨hs8, hs9⟩])) (by decide) (by ((try simp only [World.junk_junk, Array.append_assoc]); (repeat (first | with_reducible exact Junk.refl _ | with_reducible exact Junk.app _ _ _ _ _ | with_reducible exact Junk.app2 _ _ _ _ _ _ | with_reducible exact Junk.app3 _ _ _ _ _ _ _ | with_reducible exact Junk.app4 _ _ _ _ _ _ _ _ | with_reducible exact Junk.app5 _ _ _ _ _ _ _ _ _ | with_reducible apply Junk.alloc | with_reducible apply Junk.junk | with_reducible apply Junk.drew | with_reducible apply Junk.drewN))))
    have hz : wholeErr xs l = 0 := by unfold wholeErr; rw [if_neg h20, ← ES.out, ← ET.out, if_neg (fun h => h ⟨HV.out, hs1, hs2⟩), if_neg (fun h => h ht1), if_neg (fun h => h HM.out), if_neg hs8]
    by_cases h8 : l < ipSize xs + 8
    · exact rabout_ok1 kind code rest _ l c xs w hl H.out a1 hz h8
    · exact rabout_ok2 kind code rest _ l c xs w hl H.out a1 hz h8
end Go.Proofs.Ytnefphinmjeacaa
