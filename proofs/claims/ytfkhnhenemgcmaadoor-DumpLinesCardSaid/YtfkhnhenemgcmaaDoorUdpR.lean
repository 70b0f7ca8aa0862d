/- The reference's sum and Parse of a datagram. -/
import Derived.Test.YtfkhnhenemgcmaaDoorUdpA
import Derived.Test.YtfkhnhenemgcmaaDoorOwn2
import Derived.Test.YtfkhnhenemgcmaaDoorBytesEq
set_option linter.unusedVariables false
set_option maxRecDepth 100000
set_option linter.unusedSimpArgs false
namespace Go.Proofs.YtfkhnhenemgcmaaDoor
open Go.RowKit
set_option maxHeartbeats 400000 in
theorem rusum_any (src dst : Int) (oa : Option Addr) (l c : Nat) (xs : Nat → Int) (w : World) (h1 : 0 ≤ src ∧ src ≤ 4294967295) (h2 : 0 ≤ dst ∧ dst ≤ 4294967295) (hl : l ≤ 65535) (hI : IntsAt w oa l .u8 xs) (hx : ∀ i, i < l → 0 ≤ xs i ∧ xs i ≤ 255) :
    Calls Tryd.prog 55 #[.int .u32 src, .int .u32 dst, .slice oa l c] w fun e w' => e = .returned (.int .i64 (usumN src dst xs l)) ∧ Junk w w' := by
  have hp := pseudoN_bd (proto := 17) (size := (l : Int)) h1 h2 (by omega) (by omega)
  have hr := (rawN_bd xs l hx).1
  have hb := sumN_bd xs l hx
  have hb2 := foldI_bd _ hp
  have HI := Lib.hid hI
  have HX := Lib.hid hx
  have he := show joinI (foldI (pseudoN src dst 17 l)) (sumN xs l) = usumN src dst xs l by rw [joinI_fold hp hb, ← foldI_add hp hb.1]; unfold sumN; rw [foldI_small (foldI_bd _ hr).1 (by have := (foldI_bd _ hr).2; omega), foldI_add hp hr]; rfl
  have hf := foldI_bd (pseudoN src dst 17 l + rawN xs l) (by omega)
  obtain ⟨U, hU⟩ : ∃ U, usumN src dst xs l = U := ⟨_, rfl⟩
  have hUb : 0 ≤ U ∧ U ≤ 65535 := by rw [← hU]; exact hf
  rw [hU] at he ⊢
  have HJ := Lib.hid (fun w1 => show Calls Tryd.prog 72 #[.int .u16 (foldI (pseudoN src dst 17 l)), .int .u16 (sumN xs l)] w1 fun e w' => e = .returned (.int .u16 U) ∧ w1 = w' by rw [← he]; exact join_any _ _ _ hb2 hb)
  clear hI hx he hU
  go_enter Tryd.func55, Tryd.ntmps55
  go_wp2_with (first | (go_at_call 73; refine (rpseudo_any src dst 17 l _ h1 h2 (by omega) (by omega)).mono ?_; rintro e w' ⟨rfl, ⟨osj, dj, rfl⟩⟩) | (go_at_call 49; refine (rsum_any _ _ _ _ _ (by omega) (HI.out.on (by ((try simp only [World.junk_junk, Array.append_assoc]); (repeat (first | with_reducible exact Junk.refl _ | with_reducible exact Junk.app _ _ _ _ _ | with_reducible exact Junk.app2 _ _ _ _ _ _ | with_reducible exact Junk.app3 _ _ _ _ _ _ _ | with_reducible exact Junk.app4 _ _ _ _ _ _ _ _ | with_reducible exact Junk.app5 _ _ _ _ _ _ _ _ _ | with_reducible apply Junk.alloc | with_reducible apply Junk.junk | with_reducible apply Junk.drew | with_reducible apply Junk.drewN))))) HX.out).mono ?_; rintro e w' ⟨rfl, ⟨osj2, dj2, rfl⟩⟩) | (go_at_call 72; refine (HJ.out _).mono ?_; rintro e w' ⟨rfl, rfl⟩))
  go_ret
  exact ⟨rfl, by ((try simp only [World.junk_junk, Array.append_assoc]); (repeat (first | with_reducible exact Junk.refl _ | with_reducible exact Junk.app _ _ _ _ _ | with_reducible exact Junk.app2 _ _ _ _ _ _ | with_reducible exact Junk.app3 _ _ _ _ _ _ _ | with_reducible exact Junk.app4 _ _ _ _ _ _ _ _ | with_reducible exact Junk.app5 _ _ _ _ _ _ _ _ _ | with_reducible apply Junk.alloc | with_reducible apply Junk.junk | with_reducible apply Junk.drew | with_reducible apply Junk.drewN)))⟩
set_option maxHeartbeats 4000000 in
theorem ruparse_any (src dst : Int) (ob : Option Addr) (l c : Nat) (xs : Nat → Int) (w : World) (h1 : 0 ≤ src ∧ src ≤ 4294967295) (h2 : 0 ≤ dst ∧ dst ≤ 4294967295) (hl : l ≤ 100000000) (hB : Bts w ob l c xs) :
    Calls Tryd.prog 26 #[.int .u32 src, .int .u32 dst, .slice ob l c] w (UdpM w (udpErr src dst xs l) xs) := by
  have HB := Lib.hid hB
  by_cases h8 : l < 8
  · have h8' : (l : Int) < 8 := by omega
    have HE := Lib.hid (show udpErr src dst xs l = 2 by unfold udpErr; rw [if_pos h8])
    clear hB
    go_enter Tryd.func26, Tryd.ntmps26
    go_wp2
    go_returns
    exact udpM_bad HE.out (by decide) (by ((try simp only [World.junk_junk, Array.append_assoc]); (repeat (first | with_reducible exact Junk.refl _ | with_reducible exact Junk.app _ _ _ _ _ | with_reducible exact Junk.app2 _ _ _ _ _ _ | with_reducible exact Junk.app3 _ _ _ _ _ _ _ | with_reducible exact Junk.app4 _ _ _ _ _ _ _ _ | with_reducible exact Junk.app5 _ _ _ _ _ _ _ _ _ | with_reducible apply Junk.alloc | with_reducible apply Junk.junk | with_reducible apply Junk.drew | with_reducible apply Junk.drewN))))
  have h8' : ¬ (l : Int) < 8 := by omega
  obtain ⟨b, off, rfl, hblk, hc0⟩ := hB.at_ 0 (by omega)
  have hcl : l ≤ c := hB.le
  have hx4 := hB.byte 4 (by omega)
  have hx5 := hB.byte 5 (by omega)
  have hx6 := hB.byte 6 (by omega)
  have hx7 := hB.byte 7 (by omega)
  have y0 := hB.byte 0 (by omega)
  have y1 := hB.byte 1 (by omega)
  have y2 := hB.byte 2 (by omega)
  have y3 := hB.byte 3 (by omega)
  obtain ⟨S, hS⟩ : ∃ S, S = uSize xs := ⟨_, rfl⟩
  have ES := Lib.hid (show xs 4 * 256 + xs (4 + 1) = (S : Int) by show xs 4 * 256 + xs 5 = (S : Int); rw [hS]; unfold uSize; omega)
  obtain ⟨C, hC⟩ : ∃ C, C = uChk xs := ⟨_, rfl⟩
  have EC := Lib.hid (show xs 6 * 256 + xs (6 + 1) = C by rw [hC]; rfl)
  have hS9 : S ≤ 65535 := by rw [hS]; unfold uSize; omega
  have hCb : 0 ≤ C ∧ C ≤ 65535 := by rw [hC]; unfold uChk; omega
  have HSZ := Lib.hid hS
  have HCZ := Lib.hid hC
  have p8 : (8 : Int) ≤ (l : Int) := by omega
  have pc8 : (8 : Int) ≤ (c : Int) := by omega
  have r0 := wrapk_i64 (xs 0 * 256 + xs 1) (by omega) (by omega)
  have r1 := wrapk_i64 (xs 2 * 256 + xs 3) (by omega) (by omega)
  have H8 := Lib.hid (show Bts w (some ⟨b, off, none⟩) 8 c xs from ⟨fun i hi => HB.out.at_ i (by omega), fun i hi => HB.out.byte i (by omega), (fun h => by cases h), by omega, HB.out.cap⟩)
  clear hB hc0 hS hC hx4 hx5 hx6 hx7 y0 y1 y2 y3
  by_cases h5 : 8 ≤ S ∧ S ≤ l
  case neg =>
    have HE := Lib.hid (show udpErr src dst xs l = 4 by unfold udpErr; rw [if_neg h8, ← HSZ.out, if_pos (by omega)])
    by_cases h6 : S < 8
    · have h6' : (S : Int) < 8 := by omega
      clear h5 h6
      go_enter Tryd.func26, Tryd.ntmps26
      go_upto_region 4 with (first | (go_at_call 48; refine (words_any (some ⟨b, off, none⟩) 8 c xs _ (by omega) (H8.out.at_.on (by (repeat (first | with_reducible exact Junk.refl _ | with_reducible exact Junk.app _ _ _ _ _ | with_reducible apply Junk.alloc | with_reducible apply Junk.junk | with_reducible apply Junk.drew | with_reducible apply Junk.drewN)))) H8.out.byte).mono ?_; rintro e w' ⟨ow, cap, rfl, ⟨os0, d0, rfl⟩, hown⟩; have Hw := Lib.hid hown; clear hown))
      (obtain ⟨g, rfl, hgB, hgS, hw0, -⟩ := Hw.out.cells 0 (.int .u16 (xs 0 * 256 + xs 1)) rfl; obtain ⟨g', he, -, -, hw1, -⟩ := Hw.out.cells 1 (.int .u16 (xs 2 * 256 + xs 3)) rfl; cases he; obtain ⟨g', he, -, -, hw2, -⟩ := Hw.out.cells 2 (.int .u16 (S : Int)) (by rw [← ES.out]; rfl); cases he; obtain ⟨g', he, -, -, hw3, -⟩ := Hw.out.cells 3 (.int .u16 C) (by rw [← EC.out]; rfl); cases he; have hw0' := cell_over (by simp at hgB; omega) hgS hw0; have hw1' := cell_over (by simp at hgB; omega) hgS hw1; have hw2' := cell_over (by simp at hgB; omega) hgS hw2; have hw3' := cell_over (by simp at hgB; omega) hgS hw3; have hgT : ∀ k, g < w.heap.size + 1 + (os0.size + k) := (fun k => by simp at hgS; omega); clear Hw hgB)
      go_wp2
      go_returns
      exact udpM_bad HE.out (by decide) (by ((try simp only [World.junk_junk, Array.append_assoc]); (repeat (first | with_reducible exact Junk.refl _ | with_reducible exact Junk.app _ _ _ _ _ | with_reducible exact Junk.app2 _ _ _ _ _ _ | with_reducible exact Junk.app3 _ _ _ _ _ _ _ | with_reducible exact Junk.app4 _ _ _ _ _ _ _ _ | with_reducible exact Junk.app5 _ _ _ _ _ _ _ _ _ | with_reducible apply Junk.alloc | with_reducible apply Junk.junk | with_reducible apply Junk.drew | with_reducible apply Junk.drewN))))
    · have h6' : ¬ (S : Int) < 8 := by omega
      have h7' : (l : Int) < (S : Int) := by omega
      clear h5 h6
      go_enter Tryd.func26, Tryd.ntmps26
      go_upto_region 4 with (first | (go_at_call 48; refine (words_any (some ⟨b, off, none⟩) 8 c xs _ (by omega) (H8.out.at_.on (by (repeat (first | with_reducible exact Junk.refl _ | with_reducible exact Junk.app _ _ _ _ _ | with_reducible apply Junk.alloc | with_reducible apply Junk.junk | with_reducible apply Junk.drew | with_reducible apply Junk.drewN)))) H8.out.byte).mono ?_; rintro e w' ⟨ow, cap, rfl, ⟨os0, d0, rfl⟩, hown⟩; have Hw := Lib.hid hown; clear hown))
      (obtain ⟨g, rfl, hgB, hgS, hw0, -⟩ := Hw.out.cells 0 (.int .u16 (xs 0 * 256 + xs 1)) rfl; obtain ⟨g', he, -, -, hw1, -⟩ := Hw.out.cells 1 (.int .u16 (xs 2 * 256 + xs 3)) rfl; cases he; obtain ⟨g', he, -, -, hw2, -⟩ := Hw.out.cells 2 (.int .u16 (S : Int)) (by rw [← ES.out]; rfl); cases he; obtain ⟨g', he, -, -, hw3, -⟩ := Hw.out.cells 3 (.int .u16 C) (by rw [← EC.out]; rfl); cases he; have hw0' := cell_over (by simp at hgB; omega) hgS hw0; have hw1' := cell_over (by simp at hgB; omega) hgS hw1; have hw2' := cell_over (by simp at hgB; omega) hgS hw2; have hw3' := cell_over (by simp at hgB; omega) hgS hw3; have hgT : ∀ k, g < w.heap.size + 1 + (os0.size + k) := (fun k => by simp at hgS; omega); clear Hw hgB)
      go_wp2
      go_returns
      exact udpM_bad HE.out (by decide) (by ((try simp only [World.junk_junk, Array.append_assoc]); (repeat (first | with_reducible exact Junk.refl _ | with_reducible exact Junk.app _ _ _ _ _ | with_reducible exact Junk.app2 _ _ _ _ _ _ | with_reducible exact Junk.app3 _ _ _ _ _ _ _ | with_reducible exact Junk.app4 _ _ _ _ _ _ _ _ | with_reducible exact Junk.app5 _ _ _ _ _ _ _ _ _ | with_reducible apply Junk.alloc | with_reducible apply Junk.junk | with_reducible apply Junk.drew | with_reducible apply Junk.drewN))))
  obtain ⟨h5, h6⟩ := h5
  have h5' : ¬ (S : Int) < 8 := by omega
  have h6' : ¬ (l : Int) < (S : Int) := by omega
  have h56 : (S : Int) ≤ (l : Int) := by omega
  have h57 : (S : Int) ≤ (c : Int) := by omega
  have h58 : (8 : Int) ≤ (S : Int) := by omega
  have h59 : (0 : Int) ≤ (S : Int) := by omega
  have HS := Lib.hid (show Bts w (some ⟨b, off, none⟩) S c xs from ⟨fun i hi => HB.out.at_ i (by omega), fun i hi => HB.out.byte i (by omega), (fun h => by cases h), by omega, HB.out.cap⟩)
  have HSB2 := Lib.hid (bts_sub HB.out 8 S h5 h6)
  have hc8 : 8 ≤ c := by omega
  have hSc : S ≤ c := by omega
  by_cases hC0 : C = 0
  · have HE := Lib.hid (show udpErr src dst xs l = 0 by unfold udpErr; rw [if_neg h8, ← HSZ.out, if_neg (by omega), if_neg (by rw [← HCZ.out]; simp [hC0])])
    have hC1 : ¬ 0 < C := by omega
    have hC2 : (C == 0) = true := by simpa using hC0
    clear hC0
    go_enter Tryd.func26, Tryd.ntmps26
    go_upto_region 4 with (first | (go_at_call 48; refine (words_any (some ⟨b, off, none⟩) 8 c xs _ (by omega) (H8.out.at_.on (by (repeat (first | with_reducible exact Junk.refl _ | with_reducible exact Junk.app _ _ _ _ _ | with_reducible apply Junk.alloc | with_reducible apply Junk.junk | with_reducible apply Junk.drew | with_reducible apply Junk.drewN)))) H8.out.byte).mono ?_; rintro e w' ⟨ow, cap, rfl, ⟨os0, d0, rfl⟩, hown⟩; have Hw := Lib.hid hown; clear hown))
    (obtain ⟨g, rfl, hgB, hgS, hw0, -⟩ := Hw.out.cells 0 (.int .u16 (xs 0 * 256 + xs 1)) rfl; obtain ⟨g', he, -, -, hw1, -⟩ := Hw.out.cells 1 (.int .u16 (xs 2 * 256 + xs 3)) rfl; cases he; obtain ⟨g', he, -, -, hw2, -⟩ := Hw.out.cells 2 (.int .u16 (S : Int)) (by rw [← ES.out]; rfl); cases he; obtain ⟨g', he, -, -, hw3, -⟩ := Hw.out.cells 3 (.int .u16 C) (by rw [← EC.out]; rfl); cases he; have hw0' := cell_over (by simp at hgB; omega) hgS hw0; have hw1' := cell_over (by simp at hgB; omega) hgS hw1; have hw2' := cell_over (by simp at hgB; omega) hgS hw2; have hw3' := cell_over (by simp at hgB; omega) hgS hw3; have hgT : ∀ k, g < w.heap.size + 1 + (os0.size + k) := (fun k => by simp at hgS; omega); clear Hw hgB)
    go_wp2
    refine wp_region_mixo (w) 61 (os0) (d0) #[.int .i64 0, .int .i64 0, .bool false, .slice none 0 0] [(0, true), (1, true), (2, true), (3, true), (4, true), (5, true), (6, true), (7, true), (8, true), (9, true), (10, true), (11, true), (13, true), (14, true), (15, true), (12, false), (16, false), (17, true), (18, false), (19, true)] (by kernel_rfl) (by kernel_rfl) (by (repeat (first | with_reducible exact Junk.refl _ | with_reducible exact Junk.app _ _ _ _ _ | with_reducible apply Junk.alloc | with_reducible apply Junk.junk | with_reducible apply Junk.drew | with_reducible apply Junk.drewN))) ?_; (iterate 15 (refine wpMix_q rfl (fun K hK => ?_); (go_simp; try go_bits); (refine hK _ ?_; clear hK K))); refine wpMix_e rfl (fun osm9_0 dm9_0 K hK => ?_); (go_simp; try go_bits); refine hK _ _ (in_own (d0 := d0) _ (by (repeat (first | with_reducible exact Junk.refl _ | with_reducible exact Junk.app _ _ _ _ _ | with_reducible apply Junk.alloc | with_reducible apply Junk.junk | with_reducible apply Junk.drew | with_reducible apply Junk.drewN)))) ?_; clear hK K; refine wpMix_e1 rfl rfl (fun osm9_1 dm9_1 K hK => ?_); (refine ap_own_wp (W0 := (w.alloc (.cells #[.int .i64 0, .int .i64 0, .bool false, .slice none 0 0] 61)).junk (os0) d0) _ _ 22 rfl 5 (.int .u8 0) 1 1 (by kernel_rfl) rfl (by decide) Tryd.underlying22 (by (repeat (first | with_reducible exact Junk.refl _ | with_reducible exact Junk.app _ _ _ _ _ | with_reducible apply Junk.alloc | with_reducible apply Junk.junk | with_reducible apply Junk.drew | with_reducible apply Junk.drewN))) _ _ 0 [] rfl (own_made' _ _ (by simp) (by simp) (Nat.zero_le _) rfl) _ (S - 8) (c - 8) rfl ((List.range (S - 8)).map fun i => .int .u8 (xs (8 + i))) (by simp) (HSB2.out.on (by (repeat (first | with_reducible exact Junk.refl _ | with_reducible exact Junk.app _ _ _ _ _ | with_reducible apply Junk.alloc | with_reducible apply Junk.junk | with_reducible apply Junk.drew | with_reducible apply Junk.drewN)))).at_.src (fun h => by (split at h <;> cases h)) (by simp [Value.oneCell']) (by simp only [maxLen]; omega) (by omega) ?_; intro ob' cap' os' d' hown' hnn; rw [List.nil_append, Nat.zero_add] at hown'); refine hK _ _ (in_own (d0 := d0) _ (by (repeat (first | with_reducible exact Junk.refl _ | with_reducible exact Junk.app _ _ _ _ _ | with_reducible apply Junk.alloc | with_reducible apply Junk.junk | with_reducible apply Junk.drew | with_reducible apply Junk.drewN)))) ?_; clear hK K; (iterate 1 (refine wpMix_q rfl (fun K hK => ?_); (go_simp; try go_bits); (refine hK _ ?_; clear hK K))); refine wpMix_e rfl (fun osm9_2 dm9_2 K hK => ?_); (go_simp; try go_bits); refine hK _ _ (in_own (d0 := d0) _ (by (repeat (first | with_reducible exact Junk.refl _ | with_reducible exact Junk.app _ _ _ _ _ | with_reducible apply Junk.alloc | with_reducible apply Junk.junk | with_reducible apply Junk.drew | with_reducible apply Junk.drewN)))) ?_; clear hK K; (iterate 1 (refine wpMix_q rfl (fun K hK => ?_); (go_simp; try go_bits); (refine hK _ ?_; clear hK K))); refine wpMix_nil (fun osm dm => ?_)
    have hcb0 := own_bts hown' (fun i hi => HB.out.byte _ (by omega))
    rw [World.junk_junk] at hcb0
    have Hcb := Lib.hid hcb0
    have Hcf := Lib.hid (own_fresh hown')
    clear hown' hnn hcb0
    go_wp2
    all_goals (go_returns; exact ⟨by (first | ((repeat (first | with_reducible exact Junk.refl _ | with_reducible exact Junk.app _ _ _ _ _ | with_reducible apply Junk.alloc | with_reducible apply Junk.junk | with_reducible apply Junk.drew | with_reducible apply Junk.drewN)); done) | ((try simp only [World.junk_junk, Array.append_assoc]); (repeat (first | with_reducible exact Junk.refl _ | with_reducible exact Junk.app _ _ _ _ _ | with_reducible exact Junk.app2 _ _ _ _ _ _ | with_reducible exact Junk.app3 _ _ _ _ _ _ _ | with_reducible exact Junk.app4 _ _ _ _ _ _ _ _ | with_reducible exact Junk.app5 _ _ _ _ _ _ _ _ _ | with_reducible apply Junk.alloc | with_reducible apply Junk.junk | with_reducible apply Junk.drew | with_reducible apply Junk.drewN)))), .inr ⟨HE.out, ob', cap', by rw [← HSZ.out]; exact bts_over Hcb.out (Hcf.out.lower (by simp)) ⟨_, by repeat rw [Array.append_assoc]⟩, by rw [← HSZ.out, ← HCZ.out, hC2]⟩⟩)
  · have hC1 : 0 < C := by omega
    have hC2 : (C == 0) = false := by simpa using hC0
    by_cases hs : usumN src dst xs S = 65535
    · have HE := Lib.hid (show udpErr src dst xs l = 0 by unfold udpErr; rw [if_neg h8, ← HSZ.out, if_neg (by omega), if_neg (by rw [hs]; simp)])
      have hs2 : (usumN src dst xs S != 65535) = false := by simpa using hs
      clear hC0 hs
      go_enter Tryd.func26, Tryd.ntmps26
      go_upto_region 4 with (first | (go_at_call 48; refine (words_any (some ⟨b, off, none⟩) 8 c xs _ (by omega) (H8.out.at_.on (by (repeat (first | with_reducible exact Junk.refl _ | with_reducible exact Junk.app _ _ _ _ _ | with_reducible apply Junk.alloc | with_reducible apply Junk.junk | with_reducible apply Junk.drew | with_reducible apply Junk.drewN)))) H8.out.byte).mono ?_; rintro e w' ⟨ow, cap, rfl, ⟨os0, d0, rfl⟩, hown⟩; have Hw := Lib.hid hown; clear hown))
      (obtain ⟨g, rfl, hgB, hgS, hw0, -⟩ := Hw.out.cells 0 (.int .u16 (xs 0 * 256 + xs 1)) rfl; obtain ⟨g', he, -, -, hw1, -⟩ := Hw.out.cells 1 (.int .u16 (xs 2 * 256 + xs 3)) rfl; cases he; obtain ⟨g', he, -, -, hw2, -⟩ := Hw.out.cells 2 (.int .u16 (S : Int)) (by rw [← ES.out]; rfl); cases he; obtain ⟨g', he, -, -, hw3, -⟩ := Hw.out.cells 3 (.int .u16 C) (by rw [← EC.out]; rfl); cases he; have hw0' := cell_over (by simp at hgB; omega) hgS hw0; have hw1' := cell_over (by simp at hgB; omega) hgS hw1; have hw2' := cell_over (by simp at hgB; omega) hgS hw2; have hw3' := cell_over (by simp at hgB; omega) hgS hw3; have hgT : ∀ k, g < w.heap.size + 1 + (os0.size + k) := (fun k => by simp at hgS; omega); clear Hw hgB)
      go_wp2_with (first | (go_at_call 55; refine (rusum_any src dst _ S c xs _ h1 h2 (by omega) (HS.out.at_.on (by ((try simp only [World.junk_junk, Array.append_assoc]); (repeat (first | with_reducible exact Junk.refl _ | with_reducible exact Junk.app _ _ _ _ _ | with_reducible exact Junk.app2 _ _ _ _ _ _ | with_reducible exact Junk.app3 _ _ _ _ _ _ _ | with_reducible exact Junk.app4 _ _ _ _ _ _ _ _ | with_reducible exact Junk.app5 _ _ _ _ _ _ _ _ _ | with_reducible apply Junk.alloc | with_reducible apply Junk.junk | with_reducible apply Junk.drew | with_reducible apply Junk.drewN))))) HS.out.byte).mono ?_; rintro e w' ⟨rfl, ⟨oss, ds, rfl⟩⟩))
      (try simp only [World.junk_junk])
      have hx0 := fun cur' os' d' => by have := hw0' cur' (oss ++ os') d'; rw [← Array.append_assoc] at this; exact this
      have hx1 := fun cur' os' d' => by have := hw1' cur' (oss ++ os') d'; rw [← Array.append_assoc] at this; exact this
      have hx3 := fun cur' os' d' => by have := hw3' cur' (oss ++ os') d'; rw [← Array.append_assoc] at this; exact this
      have hgT2 : ∀ k, g < w.heap.size + 1 + ((os0 ++ oss).size + k) := fun k => by have := hgT (oss.size + k); simp; omega
      generalize os0 ++ oss = os1 at hx0 hx1 hx3 hgT2 ⊢
      clear hw0' hw1' hw2' hw3' hgT hw0 hw1 hw2 hw3 hgS
      refine wp_region_mixo (w) 61 (os1) (ds) #[.int .i64 0, .int .i64 0, .bool false, .slice none 0 0] [(0, true), (1, true), (2, true), (3, true), (4, true), (5, true), (6, true), (7, true), (8, true), (9, true), (10, true), (11, true), (13, true), (14, true), (15, true), (12, false), (16, false), (17, true), (18, false), (19, true)] (by kernel_rfl) (by kernel_rfl) (by (repeat (first | with_reducible exact Junk.refl _ | with_reducible exact Junk.app _ _ _ _ _ | with_reducible apply Junk.alloc | with_reducible apply Junk.junk | with_reducible apply Junk.drew | with_reducible apply Junk.drewN))) ?_; (iterate 15 (refine wpMix_q rfl (fun K hK => ?_); (go_simp; try go_bits); (refine hK _ ?_; clear hK K))); refine wpMix_e rfl (fun osm9_0 dm9_0 K hK => ?_); (go_simp; try go_bits); refine hK _ _ (in_own (d0 := ds) _ (by (repeat (first | with_reducible exact Junk.refl _ | with_reducible exact Junk.app _ _ _ _ _ | with_reducible apply Junk.alloc | with_reducible apply Junk.junk | with_reducible apply Junk.drew | with_reducible apply Junk.drewN)))) ?_; clear hK K; refine wpMix_e1 rfl rfl (fun osm9_1 dm9_1 K hK => ?_); (refine ap_own_wp (W0 := (w.alloc (.cells #[.int .i64 0, .int .i64 0, .bool false, .slice none 0 0] 61)).junk (os1) ds) _ _ 22 rfl 5 (.int .u8 0) 1 1 (by kernel_rfl) rfl (by decide) Tryd.underlying22 (by (repeat (first | with_reducible exact Junk.refl _ | with_reducible exact Junk.app _ _ _ _ _ | with_reducible apply Junk.alloc | with_reducible apply Junk.junk | with_reducible apply Junk.drew | with_reducible apply Junk.drewN))) _ _ 0 [] rfl (own_made' _ _ (by simp) (by simp) (Nat.zero_le _) rfl) _ (S - 8) (c - 8) rfl ((List.range (S - 8)).map fun i => .int .u8 (xs (8 + i))) (by simp) (HSB2.out.on (by (repeat (first | with_reducible exact Junk.refl _ | with_reducible exact Junk.app _ _ _ _ _ | with_reducible apply Junk.alloc | with_reducible apply Junk.junk | with_reducible apply Junk.drew | with_reducible apply Junk.drewN)))).at_.src (fun h => by (split at h <;> cases h)) (by simp [Value.oneCell']) (by simp only [maxLen]; omega) (by omega) ?_; intro ob' cap' os' d' hown' hnn; rw [List.nil_append, Nat.zero_add] at hown'); refine hK _ _ (in_own (d0 := ds) _ (by (repeat (first | with_reducible exact Junk.refl _ | with_reducible exact Junk.app _ _ _ _ _ | with_reducible apply Junk.alloc | with_reducible apply Junk.junk | with_reducible apply Junk.drew | with_reducible apply Junk.drewN)))) ?_; clear hK K; (iterate 1 (refine wpMix_q rfl (fun K hK => ?_); (go_simp; try go_bits); (refine hK _ ?_; clear hK K))); refine wpMix_e rfl (fun osm9_2 dm9_2 K hK => ?_); (go_simp; try go_bits); refine hK _ _ (in_own (d0 := ds) _ (by (repeat (first | with_reducible exact Junk.refl _ | with_reducible exact Junk.app _ _ _ _ _ | with_reducible apply Junk.alloc | with_reducible apply Junk.junk | with_reducible apply Junk.drew | with_reducible apply Junk.drewN)))) ?_; clear hK K; (iterate 1 (refine wpMix_q rfl (fun K hK => ?_); (go_simp; try go_bits); (refine hK _ ?_; clear hK K))); refine wpMix_nil (fun osm dm => ?_)
      have hcb0 := own_bts hown' (fun i hi => HB.out.byte _ (by omega))
      rw [World.junk_junk] at hcb0
      have Hcb := Lib.hid hcb0
      have Hcf := Lib.hid (own_fresh hown')
      clear hown' hnn hcb0
      go_wp2
      all_goals (go_returns; exact ⟨by (first | ((repeat (first | with_reducible exact Junk.refl _ | with_reducible exact Junk.app _ _ _ _ _ | with_reducible apply Junk.alloc | with_reducible apply Junk.junk | with_reducible apply Junk.drew | with_reducible apply Junk.drewN)); done) | ((try simp only [World.junk_junk, Array.append_assoc]); (repeat (first | with_reducible exact Junk.refl _ | with_reducible exact Junk.app _ _ _ _ _ | with_reducible exact Junk.app2 _ _ _ _ _ _ | with_reducible exact Junk.app3 _ _ _ _ _ _ _ | with_reducible exact Junk.app4 _ _ _ _ _ _ _ _ | with_reducible exact Junk.app5 _ _ _ _ _ _ _ _ _ | with_reducible apply Junk.alloc | with_reducible apply Junk.junk | with_reducible apply Junk.drew | with_reducible apply Junk.drewN)))), .inr ⟨HE.out, ob', cap', by rw [← HSZ.out]; exact bts_over Hcb.out (Hcf.out.lower (by simp)) ⟨_, by repeat rw [Array.append_assoc]⟩, by rw [← HSZ.out, ← HCZ.out, hC2]⟩⟩)
    · have HE := Lib.hid (show udpErr src dst xs l = 5 by unfold udpErr; rw [if_neg h8, ← HSZ.out, if_neg (by omega), if_pos ⟨by rw [← HCZ.out]; exact hC0, hs⟩])
      have hs2 : (usumN src dst xs S != 65535) = true := by simpa using hs
      clear hC0 hs
      go_enter Tryd.func26, Tryd.ntmps26
      go_upto_region 4 with (first | (go_at_call 48; refine (words_any (some ⟨b, off, none⟩) 8 c xs _ (by omega) (H8.out.at_.on (by (repeat (first | with_reducible exact Junk.refl _ | with_reducible exact Junk.app _ _ _ _ _ | with_reducible apply Junk.alloc | with_reducible apply Junk.junk | with_reducible apply Junk.drew | with_reducible apply Junk.drewN)))) H8.out.byte).mono ?_; rintro e w' ⟨ow, cap, rfl, ⟨os0, d0, rfl⟩, hown⟩; have Hw := Lib.hid hown; clear hown))
      (obtain ⟨g, rfl, hgB, hgS, hw0, -⟩ := Hw.out.cells 0 (.int .u16 (xs 0 * 256 + xs 1)) rfl; obtain ⟨g', he, -, -, hw1, -⟩ := Hw.out.cells 1 (.int .u16 (xs 2 * 256 + xs 3)) rfl; cases he; obtain ⟨g', he, -, -, hw2, -⟩ := Hw.out.cells 2 (.int .u16 (S : Int)) (by rw [← ES.out]; rfl); cases he; obtain ⟨g', he, -, -, hw3, -⟩ := Hw.out.cells 3 (.int .u16 C) (by rw [← EC.out]; rfl); cases he; have hw0' := cell_over (by simp at hgB; omega) hgS hw0; have hw1' := cell_over (by simp at hgB; omega) hgS hw1; have hw2' := cell_over (by simp at hgB; omega) hgS hw2; have hw3' := cell_over (by simp at hgB; omega) hgS hw3; have hgT : ∀ k, g < w.heap.size + 1 + (os0.size + k) := (fun k => by simp at hgS; omega); clear Hw hgB)
      go_wp2_with (first | (go_at_call 55; refine (rusum_any src dst _ S c xs _ h1 h2 (by omega) (HS.out.at_.on (by ((try simp only [World.junk_junk, Array.append_assoc]); (repeat (first | with_reducible exact Junk.refl _ | with_reducible exact Junk.app _ _ _ _ _ | with_reducible exact Junk.app2 _ _ _ _ _ _ | with_reducible exact Junk.app3 _ _ _ _ _ _ _ | with_reducible exact Junk.app4 _ _ _ _ _ _ _ _ | with_reducible exact Junk.app5 _ _ _ _ _ _ _ _ _ | with_reducible apply Junk.alloc | with_reducible apply Junk.junk | with_reducible apply Junk.drew | with_reducible apply Junk.drewN))))) HS.out.byte).mono ?_; rintro e w' ⟨rfl, ⟨oss, ds, rfl⟩⟩))
      go_returns
      exact udpM_bad HE.out (by decide) (by (first | ((repeat (first | with_reducible exact Junk.refl _ | with_reducible exact Junk.app _ _ _ _ _ | with_reducible apply Junk.alloc | with_reducible apply Junk.junk | with_reducible apply Junk.drew | with_reducible apply Junk.drewN)); done) | ((try simp only [World.junk_junk, Array.append_assoc]); (repeat (first | with_reducible exact Junk.refl _ | with_reducible exact Junk.app _ _ _ _ _ | with_reducible exact Junk.app2 _ _ _ _ _ _ | with_reducible exact Junk.app3 _ _ _ _ _ _ _ | with_reducible exact Junk.app4 _ _ _ _ _ _ _ _ | with_reducible exact Junk.app5 _ _ _ _ _ _ _ _ _ | with_reducible apply Junk.alloc | with_reducible apply Junk.junk | with_reducible apply Junk.drew | with_reducible apply Junk.drewN)))))
end Go.Proofs.YtfkhnhenemgcmaaDoor
