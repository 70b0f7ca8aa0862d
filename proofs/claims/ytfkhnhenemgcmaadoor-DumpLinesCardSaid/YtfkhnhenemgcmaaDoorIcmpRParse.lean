/- The contract of the reference of icmp.Parse. -/
import Derived.Test.YtfkhnhenemgcmaaDoorIcmpParse
import Derived.Test.YtfkhnhenemgcmaaDoorOwn2
set_option linter.unusedVariables false
set_option maxRecDepth 100000
set_option linter.unusedSimpArgs false
namespace Go.Proofs.YtfkhnhenemgcmaaDoor
open Go.RowKit
set_option maxHeartbeats 400000 in
theorem rparse_any (oa : Option Addr) (l c : Nat) (xs : Nat → Int) (w : World) (hl : l ≤ 100000000) (hB : Bts w oa l c xs) :
    Calls Tryd.prog 27 #[.slice oa l c] w (ParsedM w xs l) := by
  have HB := Lib.hid hB
  by_cases h8 : l < 8
  · clear hB
    go_enter Tryd.func27, Tryd.ntmps27
    go_wp2
    go_returns
    exact parsedM_bad (by unfold pErr; rw [if_pos h8]) (by decide) (by (repeat (first | with_reducible exact Junk.refl _ | with_reducible exact Junk.app _ _ _ _ _ | with_reducible apply Junk.alloc | with_reducible apply Junk.junk | with_reducible apply Junk.drew | with_reducible apply Junk.drewN)))
  · by_cases h9 : l > 65535
    · clear hB
      go_enter Tryd.func27, Tryd.ntmps27
      go_wp2
      go_returns
      exact parsedM_bad (by unfold pErr; rw [if_neg h8, if_pos h9]) (by decide) (by (repeat (first | with_reducible exact Junk.refl _ | with_reducible exact Junk.app _ _ _ _ _ | with_reducible apply Junk.alloc | with_reducible apply Junk.junk | with_reducible apply Junk.drew | with_reducible apply Junk.drewN)))
    · have hsb := sumN_bd xs l hB.byte
      by_cases hs : sumN xs l = 65535
      · have x0 := hB.byte 0 (by omega); have x1 := hB.byte 1 (by omega); have x4 := hB.byte 4 (by omega); have x5 := hB.byte 5 (by omega); have x6 := hB.byte 6 (by omega); have x7 := hB.byte 7 (by omega)
        obtain ⟨b, off, rfl, hblk, hc0⟩ := hB.at_ 0 (by omega)
        have hk : ∀ k, k < l → w.cell? ⟨b, off + k, none⟩ = some (.int .u8 (xs k)) := fun k hk => by
          obtain ⟨b', off', he, _, hc⟩ := hB.at_ k hk
          cases he
          exact hc
        have hc1 := hk 1 (by omega)
        simp only [Nat.add_zero] at hc0
        clear hk hB
        have j0 : 0 < l := by omega
        have j0' : (0 : Int) < (l : Int) := by omega
        have j1' : 1 < l := by omega
        have j1 : (1 : Int) < (l : Int) := by omega
        have j8 : (8 : Int) ≤ (l : Int) := by omega
        have j8' : 8 ≤ c := by have := HB.out.le; omega
        have q0 := wrapk_i64 (xs 0) (by omega) (by omega)
        have q1 := wrapk_i64 (xs 1) (by omega) (by omega)
        have r4 := wrapk_u32 (xs 4 * 256 + xs 5) (by omega) (by omega)
        have r5 := wrapk_u32 ((xs 4 * 256 + xs 5) * 65536) (by omega) (by omega)
        have r6 := wrapk_u32 (xs 6 * 256 + xs 7) (by omega) (by omega)
        have r7 := wrapk_u32 ((xs 4 * 256 + xs 5) * 65536 + (xs 6 * 256 + xs 7)) (by omega) (by omega)
        have c4 : ¬ (c = 4) := by omega
        have h4 : Bts w (some ⟨b, off + 4, none⟩) 4 (c - 4) (fun k => xs (4 + k)) := by have := bts_sub HB.out 4 8 (by omega) (by omega); rwa [if_neg (by omega)] at this
        have H4 := Lib.hid h4
        clear h4
        go_enter Tryd.func27, Tryd.ntmps27
        go_wp2_with (first | (go_at_call 49; refine (rsum_any _ _ _ _ _ hl (HB.out.at_.on (by (repeat (first | with_reducible exact Junk.refl _ | with_reducible exact Junk.app _ _ _ _ _ | with_reducible apply Junk.alloc | with_reducible apply Junk.junk | with_reducible apply Junk.drew | with_reducible apply Junk.drewN)))) HB.out.byte).mono ?_; rintro e w' ⟨rfl, ⟨osj, dj, rfl⟩⟩) | (go_at_call 48; refine (words_any (some ⟨b, off + 4, none⟩) 4 (c - 4) (fun k => xs (4 + k)) _ (by omega) (H4.out.at_.on (by (repeat (first | with_reducible exact Junk.refl _ | with_reducible exact Junk.app _ _ _ _ _ | with_reducible apply Junk.alloc | with_reducible apply Junk.junk | with_reducible apply Junk.drew | with_reducible apply Junk.drewN)))) H4.out.byte).mono ?_; rintro e w' ⟨ob, cap, rfl, ⟨osj2, dj2, rfl⟩, hown⟩; rw [World.junk_junk] at hown; have Hw := Lib.hid hown; clear hown))
        generalize osj ++ osj2 = os0 at *
        obtain ⟨g, rfl, hgB, hgS, hw0, _⟩ := Hw.out.cells 0 (.int .u16 (xs 4 * 256 + xs 5)) rfl
        obtain ⟨g', he, _, _, hw1, _⟩ := Hw.out.cells 1 (.int .u16 (xs 6 * 256 + xs 7)) rfl
        cases he
        have hw0' := cell_over (by simp at hgB; omega) hgS hw0
        have hw1' := cell_over (by simp at hgB; omega) hgS hw1
        clear hw0 hw1 hgS Hw
        refine wp_region_mixo (w) 65 (os0) (dj2) #[.int .i64 0, .int .i64 0, .int .u32 0, .slice none 0 0] [(0, true), (1, true), (2, true), (3, true), (4, true), (5, true), (6, true), (7, true), (8, true), (9, true), (10, true), (11, true), (12, true), (13, true), (14, true), (15, true), (16, true), (17, true), (19, true), (20, true), (18, false), (21, false), (22, true), (23, false), (24, true)] (by kernel_rfl) (by kernel_rfl) (by (repeat (first | with_reducible exact Junk.refl _ | with_reducible exact Junk.app _ _ _ _ _ | with_reducible apply Junk.alloc | with_reducible apply Junk.junk | with_reducible apply Junk.drew | with_reducible apply Junk.drewN))) ?_; (iterate 20 (refine wpMix_q rfl (fun K hK => ?_); go_simp; (refine hK _ ?_; clear hK K))); refine wpMix_e rfl (fun osm8_0 dm8_0 K hK => ?_); go_simp; refine hK _ _ (in_own (d0 := dj2) _ (by (repeat (first | with_reducible exact Junk.refl _ | with_reducible exact Junk.app _ _ _ _ _ | with_reducible apply Junk.alloc | with_reducible apply Junk.junk | with_reducible apply Junk.drew | with_reducible apply Junk.drewN)))) ?_; clear hK K; refine wpMix_e1 rfl rfl (fun osm8_1 dm8_1 K hK => ?_); (refine ap_own_wp (W0 := (w.alloc (.cells #[.int .i64 0, .int .i64 0, .int .u32 0, .slice none 0 0] 65)).junk (os0) dj2) _ _ 22 rfl 5 (.int .u8 0) 1 1 (by kernel_rfl) rfl (by decide) Tryd.underlying22 (by (repeat (first | with_reducible exact Junk.refl _ | with_reducible exact Junk.app _ _ _ _ _ | with_reducible apply Junk.alloc | with_reducible apply Junk.junk | with_reducible apply Junk.drew | with_reducible apply Junk.drewN))) _ _ 0 [] rfl (own_made' _ _ (by simp) (by simp) (Nat.zero_le _) rfl) _ (l - 8) (c - 8) rfl ((List.range (l - 8)).map fun i => .int .u8 (xs (8 + i))) (by simp) ((bts_sub HB.out 8 l (by omega) (Nat.le_refl _)).on (by (repeat (first | with_reducible exact Junk.refl _ | with_reducible exact Junk.app _ _ _ _ _ | with_reducible apply Junk.alloc | with_reducible apply Junk.junk | with_reducible apply Junk.drew | with_reducible apply Junk.drewN)))).at_.src (fun h => by (split at h <;> cases h)) (by simp [Value.oneCell']) (by simp only [maxLen]; omega) (by omega) ?_; intro ob' cap' os' d' hown' hnn; rw [List.nil_append, Nat.zero_add] at hown'); refine hK _ _ (in_own (d0 := dj2) _ (by (repeat (first | with_reducible exact Junk.refl _ | with_reducible exact Junk.app _ _ _ _ _ | with_reducible apply Junk.alloc | with_reducible apply Junk.junk | with_reducible apply Junk.drew | with_reducible apply Junk.drewN)))) ?_; clear hK K; (iterate 1 (refine wpMix_q rfl (fun K hK => ?_); go_simp; (refine hK _ ?_; clear hK K))); refine wpMix_e rfl (fun osm8_2 dm8_2 K hK => ?_); go_simp; refine hK _ _ (in_own (d0 := dj2) _ (by (repeat (first | with_reducible exact Junk.refl _ | with_reducible exact Junk.app _ _ _ _ _ | with_reducible apply Junk.alloc | with_reducible apply Junk.junk | with_reducible apply Junk.drew | with_reducible apply Junk.drewN)))) ?_; clear hK K; (iterate 1 (refine wpMix_q rfl (fun K hK => ?_); go_simp; (refine hK _ ?_; clear hK K))); refine wpMix_nil (fun osm dm => ?_)
        have hcb0 := own_bts hown' (fun i hi => HB.out.byte _ (by omega))
        rw [World.junk_junk] at hcb0
        have Hcb := Lib.hid hcb0
        have Hcf := Lib.hid (own_fresh hown')
        clear hown' hnn hcb0
        go_wp2
        all_goals (go_returns; exact parsedM_ok h8 h9 hs (by rw [pRest]; omega) (by (repeat (first | with_reducible exact Junk.refl _ | with_reducible exact Junk.app _ _ _ _ _ | with_reducible apply Junk.alloc | with_reducible apply Junk.junk | with_reducible apply Junk.drew | with_reducible apply Junk.drewN))) (bts_over Hcb.out (Hcf.out.lower (by simp)) ⟨_, by repeat rw [Array.append_assoc]⟩))
      · have hs2 : (sumN xs l != 65535) = true := by simp [hs]
        clear hB
        go_enter Tryd.func27, Tryd.ntmps27
        go_wp2_with (first | (go_at_call 49; refine (rsum_any _ _ _ _ _ hl (HB.out.at_.on (by (repeat (first | with_reducible exact Junk.refl _ | with_reducible exact Junk.app _ _ _ _ _ | with_reducible apply Junk.alloc | with_reducible apply Junk.junk | with_reducible apply Junk.drew | with_reducible apply Junk.drewN)))) HB.out.byte).mono ?_; rintro e w' ⟨rfl, ⟨osj, dj, rfl⟩⟩))
        go_returns
        exact parsedM_bad (by unfold pErr; rw [if_neg h8, if_neg h9, if_neg hs]) (by decide) (by (repeat (first | with_reducible exact Junk.refl _ | with_reducible exact Junk.app _ _ _ _ _ | with_reducible apply Junk.alloc | with_reducible apply Junk.junk | with_reducible apply Junk.drew | with_reducible apply Junk.drewN)))
end Go.Proofs.YtfkhnhenemgcmaaDoor
