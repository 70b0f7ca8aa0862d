/- The contracts of icmp.Parse, and of its reference. -/
import Derived.Test.YtfkhnhenemgcmaaDoorIcmpA
set_option linter.unusedVariables false
set_option maxRecDepth 100000
set_option linter.unusedSimpArgs false
namespace Go.Proofs.YtfkhnhenemgcmaaDoor
open Go.RowKit
def pErr (xs : Nat → Int) (l : Nat) : Int := if l < 8 then 2 else if l > 65535 then 4 else if sumN xs l = 65535 then 0 else 5
def pRest (xs : Nat → Int) : Int := xs 4 * 16777216 + xs 5 * 65536 + xs 6 * 256 + xs 7
/-- A message, read; or none. -/
def ParsedM (w : World) (xs : Nat → Int) (l : Nat) (e : Ending) (w' : World) : Prop :=
  ∃ (t c r : Int) (ob : Option Addr) (lb cb : Nat), e = .returned (.tuple #[.agg #[.int .i64 t, .int .i64 c, .int .u32 r, .slice ob lb cb], .int .i64 (pErr xs l)]) ∧ Junk w w' ∧ Bts w' ob lb cb (fun i => xs (8 + i)) ∧
    ((pErr xs l = 0 ∧ t = xs 0 ∧ c = xs 1 ∧ r = pRest xs ∧ lb = l - 8) ∨ (pErr xs l ≠ 0 ∧ t = 0 ∧ c = 0 ∧ r = 0 ∧ lb = 0 ∧ cb = 0 ∧ ob = none))
theorem bts_nil (w : World) (xs : Nat → Int) : Bts w none 0 0 xs := ⟨fun i hi => by omega, fun i hi => by omega, fun _ => ⟨rfl, rfl⟩, Nat.le_refl _, Nat.zero_le _⟩
theorem parsedM_bad {w w' : World} {xs : Nat → Int} {l : Nat} {n : Int} (hn : pErr xs l = n) (h0 : n ≠ 0) (hj : Junk w w') :
    ParsedM w xs l (.returned (.tuple #[.agg #[.int .i64 0, .int .i64 0, .int .u32 0, .slice none 0 0], .int .i64 n])) w' :=
  ⟨0, 0, 0, none, 0, 0, by rw [hn], hj, bts_nil _ _, .inr ⟨by rw [hn]; exact h0, rfl, rfl, rfl, rfl, rfl, rfl⟩⟩
theorem parsedM_ok {w w' : World} {xs : Nat → Int} {l : Nat} {r : Int} {ob : Option Addr} {cb : Nat} (h8 : ¬ l < 8) (h9 : ¬ l > 65535) (hs : sumN xs l = 65535) (hr : r = pRest xs) (hj : Junk w w') (hb : Bts w' ob (l - 8) cb (fun i => xs (8 + i))) :
    ParsedM w xs l (.returned (.tuple #[.agg #[.int .i64 (xs 0), .int .i64 (xs 1), .int .u32 r, .slice ob (l - 8) cb], .int .i64 0])) w' := by
  have h0 : pErr xs l = 0 := by unfold pErr; rw [if_neg h8, if_neg h9, if_pos hs]
  exact ⟨xs 0, xs 1, pRest xs, ob, l - 8, cb, by rw [h0, hr], hj, hb, .inl ⟨h0, rfl, rfl, rfl, rfl⟩⟩
set_option maxHeartbeats 1000000 in
theorem parse_any (oa : Option Addr) (l c : Nat) (xs : Nat → Int) (w : World) (hl : l ≤ 100000000) (hB : Bts w oa l c xs) :
    Calls Tryd.prog 43 #[.slice oa l c] w (ParsedM w xs l) := by
  have HB := Lib.hid hB
  by_cases h8 : l < 8
  · clear hB
    go_enter Tryd.func43, Tryd.ntmps43
    go_wp2
    go_returns
    exact parsedM_bad (by unfold pErr; rw [if_pos h8]) (by decide) (by (repeat (first | with_reducible exact Junk.refl _ | with_reducible exact Junk.app _ _ _ _ _ | with_reducible apply Junk.alloc | with_reducible apply Junk.junk | with_reducible apply Junk.drew | with_reducible apply Junk.drewN)))
  · by_cases h9 : l > 65535
    · clear hB
      go_enter Tryd.func43, Tryd.ntmps43
      go_wp2
      go_returns
      exact parsedM_bad (by unfold pErr; rw [if_neg h8, if_pos h9]) (by decide) (by (repeat (first | with_reducible exact Junk.refl _ | with_reducible exact Junk.app _ _ _ _ _ | with_reducible apply Junk.alloc | with_reducible apply Junk.junk | with_reducible apply Junk.drew | with_reducible apply Junk.drewN)))
    · have hsb := sumN_bd xs l hB.byte
      by_cases hs : sumN xs l = 65535
      · have x0 := hB.byte 0 (by omega); have x1 := hB.byte 1 (by omega); have x4 := hB.byte 4 (by omega); have x5 := hB.byte 5 (by omega); have x6 := hB.byte 6 (by omega); have x7 := hB.byte 7 (by omega)
        obtain ⟨b, off, rfl, hblk, hc0⟩ := hB.at_ 0 (by omega)
        have hk : ∀ k, k < l → w.cell? ⟨b, off + k, none⟩ = some (.int .u8 (xs k)) := fun k hk => by
          obtain ⟨b', off', he, _, hc⟩ := hB.at_ k hk
          cases he
          exact hc
        have hc1 := hk 1 (by omega); have hc4 := hk 4 (by omega); have hc5 := hk 5 (by omega); have hc6 := hk 6 (by omega); have hc7 := hk 7 (by omega)
        simp only [Nat.add_zero] at hc0
        clear hk hB
        have j0 : 0 < l := by omega
        have j0' : (0 : Int) < (l : Int) := by omega
        have j1' : 1 < l := by omega
        have j1 : (1 : Int) < (l : Int) := by omega
        have j4 : (4 : Int) < (l : Int) := by omega
        have j5 : (5 : Int) < (l : Int) := by omega
        have j6 : (6 : Int) < (l : Int) := by omega
        have j7 : (7 : Int) < (l : Int) := by omega
        have j8 : (8 : Int) ≤ (l : Int) := by omega
        have q0 := wrapk_i64 (xs 0) (by omega) (by omega)
        have q1 := wrapk_i64 (xs 1) (by omega) (by omega)
        have q4 := wrapk_u32 (xs 4) (by omega) (by omega)
        have q5 := wrapk_u32 (xs 5) (by omega) (by omega)
        have q6 := wrapk_u32 (xs 6) (by omega) (by omega)
        have q7 := wrapk_u32 (xs 7) (by omega) (by omega)
        have r4 := wrapk_u32 (xs 4 * 16777216) (by omega) (by omega)
        have r5 := wrapk_u32 (xs 5 * 65536) (by omega) (by omega)
        have r6 := wrapk_u32 (xs 6 * 256) (by omega) (by omega)
        have o1 := or_u32 24 (xs 4 * 16777216) (xs 5 * 65536) (by omega) (by omega) (by omega) (by omega) (by omega) (by omega)
        have o2 := or_u32 16 (xs 4 * 16777216 + xs 5 * 65536) (xs 6 * 256) (by omega) (by omega) (by omega) (by omega) (by omega) (by omega)
        have o3 := or_u32 8 (xs 4 * 16777216 + xs 5 * 65536 + xs 6 * 256) (xs 7) (by omega) (by omega) (by omega) (by omega) (by omega) (by omega)
        go_enter Tryd.func43, Tryd.ntmps43
        go_wp2_with (first | (go_at_call 57; refine (sum_any _ _ _ _ _ hl (HB.out.at_.on (by (repeat (first | with_reducible exact Junk.refl _ | with_reducible exact Junk.app _ _ _ _ _ | with_reducible apply Junk.alloc | with_reducible apply Junk.junk | with_reducible apply Junk.drew | with_reducible apply Junk.drewN)))) HB.out.byte).mono ?_; rintro e w' ⟨rfl, rfl⟩))
        refine wp_region_junk (by kernel_rfl) (by kernel_rfl) ?_; (repeat (refine wpQuiet_step (fun K hK => ?_); go_simp; first | (refine hK _ ?_; clear hK K) | (apply Exists.intro; refine ⟨fun _ => ?_, hK _ ?_⟩; (first | fail); clear hK K))); refine wpQuiet_nil ?_; rintro _ ⟨⟨osq, dq⟩, rfl⟩
        go_wp2
        refine wp_region_mixj (w) [(0, true), (1, true), (2, true), (3, true), (4, true), (5, true), (6, true), (7, true), (8, true), (9, true), (10, true), (11, false), (12, true), (13, false), (14, true)] (by kernel_rfl) (by kernel_rfl) (by (repeat (first | with_reducible exact Junk.refl _ | with_reducible exact Junk.app _ _ _ _ _ | with_reducible apply Junk.alloc | with_reducible apply Junk.junk | with_reducible apply Junk.drew | with_reducible apply Junk.drewN))) ?_; (iterate 11 (refine wpMix_q rfl (fun K hK => ?_); go_simp; (refine hK _ ?_; clear hK K))); refine wpMix_e rfl (fun osm8_0 dm8_0 K hK => ?_); go_simp; (go_at_call 36; refine (clone_any _ _ _ _ _ (by omega) ((bts_sub HB.out 8 l (by omega) (Nat.le_refl _)).on (by (repeat (first | with_reducible exact Junk.refl _ | with_reducible exact Junk.app _ _ _ _ _ | with_reducible apply Junk.alloc | with_reducible apply Junk.junk | with_reducible apply Junk.drew | with_reducible apply Junk.drewN))))).mono ?_; rintro e w' ⟨oc, cc, rfl, ⟨osj, dj, rfl⟩, hcb, hcn, hcf⟩; rw [World.junk_junk] at hcb; have Hcb := Lib.hid hcb; have Hcf := Lib.hid hcf; clear hcb hcn hcf); refine hK _ _ (Junk.pair (by (repeat (first | with_reducible exact Junk.refl _ | with_reducible exact Junk.app _ _ _ _ _ | with_reducible apply Junk.alloc | with_reducible apply Junk.junk | with_reducible apply Junk.drew | with_reducible apply Junk.drewN | (with_reducible refine Junk.setCell ?_ (by simp) _))))) ?_; clear hK K; (iterate 1 (refine wpMix_q rfl (fun K hK => ?_); go_simp; (refine hK _ ?_; clear hK K))); refine wpMix_e rfl (fun osm8_1 dm8_1 K hK => ?_); go_simp; refine hK _ _ (Junk.pair (by (repeat (first | with_reducible exact Junk.refl _ | with_reducible exact Junk.app _ _ _ _ _ | with_reducible apply Junk.alloc | with_reducible apply Junk.junk | with_reducible apply Junk.drew | with_reducible apply Junk.drewN | (with_reducible refine Junk.setCell ?_ (by simp) _))))) ?_; clear hK K; (iterate 1 (refine wpMix_q rfl (fun K hK => ?_); go_simp; (refine hK _ ?_; clear hK K))); refine wpMix_nil (fun osm dm => ?_)
        go_wp2
        all_goals (go_returns; exact parsedM_ok h8 h9 hs (by rw [pRest]) (by (repeat (first | with_reducible exact Junk.refl _ | with_reducible exact Junk.app _ _ _ _ _ | with_reducible apply Junk.alloc | with_reducible apply Junk.junk | with_reducible apply Junk.drew | with_reducible apply Junk.drewN))) (bts_over Hcb.out (Hcf.out.lower (by simp)) ⟨_, by repeat rw [Array.append_assoc]⟩))
      · have hs2 : (sumN xs l != 65535) = true := by simp [hs]
        clear hB
        go_enter Tryd.func43, Tryd.ntmps43
        go_wp2_with (first | (go_at_call 57; refine (sum_any _ _ _ _ _ hl (HB.out.at_.on (by (repeat (first | with_reducible exact Junk.refl _ | with_reducible exact Junk.app _ _ _ _ _ | with_reducible apply Junk.alloc | with_reducible apply Junk.junk | with_reducible apply Junk.drew | with_reducible apply Junk.drewN)))) HB.out.byte).mono ?_; rintro e w' ⟨rfl, rfl⟩))
        go_returns
        exact parsedM_bad (by unfold pErr; rw [if_neg h8, if_neg h9, if_neg hs]) (by decide) (by (repeat (first | with_reducible exact Junk.refl _ | with_reducible exact Junk.app _ _ _ _ _ | with_reducible apply Junk.alloc | with_reducible apply Junk.junk | with_reducible apply Junk.drew | with_reducible apply Junk.drewN)))
end Go.Proofs.YtfkhnhenemgcmaaDoor
