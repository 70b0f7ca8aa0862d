/- The contract of icmp.whole. -/
import Derived.Test.YtnefphinmjeacaaIpPlain
import Derived.Test.YtnefphinmjeacaaZeros
set_option linter.unusedVariables false
set_option maxRecDepth 100000
set_option linter.unusedSimpArgs false
namespace Go.Proofs.Ytnefphinmjeacaa
open Go.RowKit
def wholeErr (xs : Nat → Int) (l : Nat) : Int :=
  if l < 20 then 2 else if ¬ (xs 0 / 16 = 4 ∧ 20 ≤ ipSize xs ∧ ipSize xs ≤ l) then 3 else if ¬ (ipSize xs ≤ ipTotal xs) then 4 else if ¬ (sumN xs (ipSize xs) = 65535) then 5 else if l < ipSize xs + 8 ∧ l < ipTotal xs then 2 else 0
def WholeM (w : World) (xs : Nat → Int) (l : Nat) (e : Ending) (w' : World) : Prop :=
  ∃ (ob : Option Addr) (lb cb : Nat), e = .returned (.tuple #[.slice ob lb cb, .int .i64 (wholeErr xs l)]) ∧ Junk w w' ∧
    ((wholeErr xs l = 0 ∧ l ≤ lb ∧ lb ≤ cb ∧ cb ≤ 9223372036854775807 ∧ Bts w' ob l cb xs ∧ Fresh w.heap.size ob) ∨ (wholeErr xs l ≠ 0 ∧ ob = none ∧ lb = 0 ∧ cb = 0))
theorem wholeM_bad {w w' : World} {xs : Nat → Int} {l : Nat} {n : Int} (h : wholeErr xs l = n) (hn : n ≠ 0) (hj : Junk w w') : WholeM w xs l (.returned (.tuple #[.slice none 0 0, .int .i64 n])) w' :=
  ⟨none, 0, 0, by rw [h], hj, .inr ⟨by rw [h]; exact hn, rfl, rfl, rfl⟩⟩
theorem wholeM_ok {w w' : World} {xs : Nat → Int} {l lb cb : Nat} {ob : Option Addr} (h : wholeErr xs l = 0) (hj : Junk w w') (hl : l ≤ lb) (hc : lb ≤ cb) (hm : cb ≤ 9223372036854775807) (hb : Bts w' ob l cb xs) (hf : Fresh w.heap.size ob) : WholeM w xs l (.returned (.tuple #[.slice ob lb cb, .int .i64 0])) w' :=
  ⟨ob, lb, cb, by rw [h], hj, .inl ⟨h, hl, hc, hm, hb, hf⟩⟩
theorem WholeM.ok {w w' : World} {xs : Nat → Int} {l : Nat} {e : Ending} (h : WholeM w xs l e w') (h0 : wholeErr xs l = 0) : ∃ (ob : Option Addr) (lb cb : Nat), e = .returned (.tuple #[.slice ob lb cb, .int .i64 0]) ∧ Junk w w' ∧ l ≤ lb ∧ lb ≤ cb ∧ cb ≤ 9223372036854775807 ∧ Bts w' ob l cb xs ∧ Fresh w.heap.size ob := by
  obtain ⟨ob, lb, cb, he, hj, h | h⟩ := h
  · rw [h0] at he; exact ⟨ob, lb, cb, he, hj, h.2.1, h.2.2.1, h.2.2.2.1, h.2.2.2.2.1, h.2.2.2.2.2⟩
  · exact absurd h0 h.1
theorem WholeM.bad {w w' : World} {xs : Nat → Int} {l : Nat} {e : Ending} (h : WholeM w xs l e w') (h0 : wholeErr xs l ≠ 0) : e = .returned (.tuple #[.slice none 0 0, .int .i64 (wholeErr xs l)]) ∧ Junk w w' := by
  obtain ⟨ob, lb, cb, he, hj, h | h⟩ := h
  · exact absurd h.1 h0
  · obtain ⟨_, rfl, rfl, rfl⟩ := h; exact ⟨he, hj⟩
theorem own_zeros_bts {B : Nat} {w : World} {oa : Option Addr} {cap l k : Nat} {xs : Nat → Int} {z : Value} (h : Own B w 5 1 oa cap (l + k) (bytesL l xs ++ List.replicate k z)) (hx : ∀ i, i < l → 0 ≤ xs i ∧ xs i ≤ 255) : Bts w oa l cap xs := by
  refine ⟨fun i hi => ?_, hx, ?_, by have := h.capLe.1; omega, h.capLe.2⟩
  · obtain ⟨g, h1, _, h2, h3, _⟩ := h.cells i (.int .u8 (xs i)) (by rw [List.getElem?_append_left (by simp [bytesL]; omega)]; simp [bytesL, hi])
    exact ⟨g, 0, h1, h2, by simpa using h3⟩
  · intro hn
    rcases h.form with ⟨_, h3, h4⟩ | ⟨g, cur, h3, _⟩
    · exact ⟨by omega, h4⟩
    · rw [hn] at h3; cases h3
set_option maxHeartbeats 400000 in
theorem clone_own (a : Addr) (l c : Nat) (xs : Nat → Int) (w : World) (hl : l ≤ 100000000) (hB : Bts w (some a) l c xs) :
    Calls Try.prog 41 #[.slice (some a) l c] w fun e w' => ∃ oc cc, e = .returned (.slice oc l cc) ∧ Junk w w' ∧ Own w.heap.size w' 5 1 oc cc l (bytesL l xs) := by
  have hB2 := Lib.hid hB
  clear hB
  have hne := fun (w : World) => Lib.run_eql_slice_nil (P := Try.prog) w 23 5 (some a) l c 0 0 Try.underlying23
  go_enter Try.func41, Try.ntmps41
  go_wp2_with (at_builtin; (refine ap_own (W0 := w) rfl _ _ 23 rfl 5 (.int .u8 0) 1 1 (by kernel_rfl) rfl (by decide) Try.underlying23 (by (repeat (first | with_reducible exact Junk.refl _ | with_reducible exact Junk.app _ _ _ _ _ | with_reducible exact Junk.app2 _ _ _ _ _ _ | with_reducible exact Junk.app3 _ _ _ _ _ _ _ | with_reducible exact Junk.app4 _ _ _ _ _ _ _ _ | with_reducible apply Junk.alloc | with_reducible apply Junk.junk | with_reducible apply Junk.drew | with_reducible apply Junk.drewN))) _ _ 0 [] rfl (World.ownsRow_made w _ 0 (Nat.le_refl _) (Nat.zero_le _) rfl) _ _ c rfl ((List.range l).map fun i => .int .u8 (xs i)) (by simp; try omega) (hB2.out.at_.on (by (repeat (first | with_reducible exact Junk.refl _ | with_reducible exact Junk.app _ _ _ _ _ | with_reducible exact Junk.app2 _ _ _ _ _ _ | with_reducible exact Junk.app3 _ _ _ _ _ _ _ | with_reducible exact Junk.app4 _ _ _ _ _ _ _ _ | with_reducible apply Junk.alloc | with_reducible apply Junk.junk | with_reducible apply Junk.drew | with_reducible apply Junk.drewN)))).src (fun h => by cases h) (by simp [Value.oneCell']) (by simp only [maxLen]; omega) (by omega) ?_; intro oa' co' os' d' hown' hnn))
  rw [List.nil_append, Nat.zero_add] at hown'
  go_ret
  exact ⟨_, _, rfl, by (repeat (first | with_reducible exact Junk.refl _ | with_reducible exact Junk.app _ _ _ _ _ | with_reducible exact Junk.app2 _ _ _ _ _ _ | with_reducible exact Junk.app3 _ _ _ _ _ _ _ | with_reducible exact Junk.app4 _ _ _ _ _ _ _ _ | with_reducible apply Junk.alloc | with_reducible apply Junk.junk | with_reducible apply Junk.drew | with_reducible apply Junk.drewN)), hown'⟩
set_option maxHeartbeats 1000000 in
theorem whole_any (oa : Option Addr) (l c : Nat) (xs : Nat → Int) (w : World) (hl : l ≤ 100000000) (hB : Bts w oa l c xs) :
    Calls Try.prog 40 #[.slice oa l c] w (WholeM w xs l) := by
  by_cases h20 : l < 20
  · clear hB
    go_enter Try.func40, Try.ntmps40
    go_wp2
    go_returns
    exact wholeM_bad (by unfold wholeErr; rw [if_pos h20]) (by decide) (by ((try simp only [World.junk_junk, Array.append_assoc]); (repeat (first | with_reducible exact Junk.refl _ | with_reducible exact Junk.app _ _ _ _ _ | with_reducible exact Junk.app2 _ _ _ _ _ _ | with_reducible exact Junk.app3 _ _ _ _ _ _ _ | with_reducible exact Junk.app4 _ _ _ _ _ _ _ _ | with_reducible exact Junk.app5 _ _ _ _ _ _ _ _ _ | with_reducible apply Junk.alloc | with_reducible apply Junk.junk | with_reducible apply Junk.drew | with_reducible apply Junk.drewN))))
  have hlc := hB.le
  have x0 := hB.byte 0 (by omega); have x2 := hB.byte 2 (by omega); have x3 := hB.byte 3 (by omega)
  have hsz : ((ipSize xs : Nat) : Int) = xs 0 % 16 * 4 := by unfold ipSize; omega
  have htt : ((ipTotal xs : Nat) : Int) = xs 2 * 256 + xs 3 := by unfold ipTotal; omega
  have Hsum := fun h => sumN_bd xs (ipSize xs) (fun i hi => hB.byte i (Nat.lt_of_lt_of_le hi h))
  have Hx := Lib.hid (fun i (hi : i < l) => hB.byte i hi)
  obtain ⟨b, off, rfl, hblk, hc0⟩ := hB.at_ 0 (by omega)
  have hc2 := (bts_cell hB 2 (by omega)).2
  have hc3 := (bts_cell hB 3 (by omega)).2
  have H := Lib.hid hB
  clear hB
  simp only [Nat.add_zero] at hc0
  obtain ⟨S, hS⟩ : ∃ S, S = ipSize xs := ⟨_, rfl⟩
  obtain ⟨T, hT⟩ : ∃ T, T = ipTotal xs := ⟨_, rfl⟩
  rw [← hS] at hsz
  rw [← hT] at htt
  have e1 : xs 0 % 16 * 4 = (S : Int) := hsz.symm
  have e2 : xs 2 * 256 + xs 3 = (T : Int) := htt.symm
  have ES := Lib.hid hS
  have ET := Lib.hid hT
  have b1 : S ≤ 60 := by omega
  have b2 : T ≤ 65535 := by omega
  rw [← hS] at Hsum
  clear hS hT hsz htt
  have a0 := and_u8_4 (xs 0) (by omega) (by omega)
  have o1 := or_i64 8 (xs 2 * 256) (xs 3) (by omega) (by omega) (by omega) (by omega) (by omega) (by omega)
  have j0 : (0 : Int) < (l : Int) := by omega
  have j0' : 0 < l := by omega
  have j2 : (2 : Int) < (l : Int) := by omega
  have j2' : 2 < l := by omega
  have j3 : (3 : Int) < (l : Int) := by omega
  have j3' : 3 < l := by omega
  have q0 := wrapk_i64 (xs 0 % 16) (by omega) (by omega)
  have q1 := wrapk_i64 (S : Int) (by omega) (by omega)
  by_cases hv : xs 0 / 16 = 4
  case neg =>
    have ev : (xs 0 / 16 != 4) = true := by simp [hv]
    have HV := Lib.hid hv
    clear hv
    (go_enter Try.func40, Try.ntmps40; go_wp2; refine wp_region_junk (by kernel_rfl) (by kernel_rfl) ?_; (repeat (refine wpQuiet_step (fun K hK => ?_); (go_simp; try go_bits); first | (refine hK _ ?_; clear hK K) | (apply Exists.intro; refine ⟨fun _ => ?_, hK _ ?_⟩; (first | fail); clear hK K))); refine wpQuiet_nil ?_; rintro _ ⟨⟨osq, dq⟩, rfl⟩; go_wp2; go_returns)
    exact wholeM_bad (by unfold wholeErr; rw [if_neg h20, if_pos (fun h => HV.out h.1)]) (by decide) (by ((try simp only [World.junk_junk, Array.append_assoc]); (repeat (first | with_reducible exact Junk.refl _ | with_reducible exact Junk.app _ _ _ _ _ | with_reducible exact Junk.app2 _ _ _ _ _ _ | with_reducible exact Junk.app3 _ _ _ _ _ _ _ | with_reducible exact Junk.app4 _ _ _ _ _ _ _ _ | with_reducible exact Junk.app5 _ _ _ _ _ _ _ _ _ | with_reducible apply Junk.alloc | with_reducible apply Junk.junk | with_reducible apply Junk.drew | with_reducible apply Junk.drewN))))
  have ev : (xs 0 / 16 != 4) = false := by simp [hv]
  have HV := Lib.hid hv
  clear hv
  by_cases hs1 : 20 ≤ S
  case neg =>
    (go_enter Try.func40, Try.ntmps40; go_wp2; refine wp_region_junk (by kernel_rfl) (by kernel_rfl) ?_; (repeat (refine wpQuiet_step (fun K hK => ?_); (go_simp; try go_bits); first | (refine hK _ ?_; clear hK K) | (apply Exists.intro; refine ⟨fun _ => ?_, hK _ ?_⟩; (first | fail); clear hK K))); refine wpQuiet_nil ?_; rintro _ ⟨⟨osq, dq⟩, rfl⟩; go_wp2; go_returns)
    exact wholeM_bad (by unfold wholeErr; rw [if_neg h20, if_pos (fun h => hs1 (ES.out ▸ h.2.1))]) (by decide) (by ((try simp only [World.junk_junk, Array.append_assoc]); (repeat (first | with_reducible exact Junk.refl _ | with_reducible exact Junk.app _ _ _ _ _ | with_reducible exact Junk.app2 _ _ _ _ _ _ | with_reducible exact Junk.app3 _ _ _ _ _ _ _ | with_reducible exact Junk.app4 _ _ _ _ _ _ _ _ | with_reducible exact Junk.app5 _ _ _ _ _ _ _ _ _ | with_reducible apply Junk.alloc | with_reducible apply Junk.junk | with_reducible apply Junk.drew | with_reducible apply Junk.drewN))))
  by_cases hs2 : S ≤ l
  case neg =>
    (go_enter Try.func40, Try.ntmps40; go_wp2; refine wp_region_junk (by kernel_rfl) (by kernel_rfl) ?_; (repeat (refine wpQuiet_step (fun K hK => ?_); (go_simp; try go_bits); first | (refine hK _ ?_; clear hK K) | (apply Exists.intro; refine ⟨fun _ => ?_, hK _ ?_⟩; (first | fail); clear hK K))); refine wpQuiet_nil ?_; rintro _ ⟨⟨osq, dq⟩, rfl⟩; go_wp2; go_returns)
    exact wholeM_bad (by unfold wholeErr; rw [if_neg h20, if_pos (fun h => hs2 (ES.out ▸ h.2.2))]) (by decide) (by ((try simp only [World.junk_junk, Array.append_assoc]); (repeat (first | with_reducible exact Junk.refl _ | with_reducible exact Junk.app _ _ _ _ _ | with_reducible exact Junk.app2 _ _ _ _ _ _ | with_reducible exact Junk.app3 _ _ _ _ _ _ _ | with_reducible exact Junk.app4 _ _ _ _ _ _ _ _ | with_reducible exact Junk.app5 _ _ _ _ _ _ _ _ _ | with_reducible apply Junk.alloc | with_reducible apply Junk.junk | with_reducible apply Junk.drew | with_reducible apply Junk.drewN))))
  by_cases ht1 : S ≤ T
  case neg =>
    (go_enter Try.func40, Try.ntmps40; go_wp2; refine wp_region_junk (by kernel_rfl) (by kernel_rfl) ?_; (repeat (refine wpQuiet_step (fun K hK => ?_); (go_simp; try go_bits); first | (refine hK _ ?_; clear hK K) | (apply Exists.intro; refine ⟨fun _ => ?_, hK _ ?_⟩; (first | fail); clear hK K))); refine wpQuiet_nil ?_; rintro _ ⟨⟨osq, dq⟩, rfl⟩; go_wp2; go_returns)
    exact wholeM_bad (by unfold wholeErr; rw [if_neg h20, ← ES.out, ← ET.out, if_neg (fun h => h ⟨HV.out, hs1, hs2⟩), if_pos ht1]) (by decide) (by ((try simp only [World.junk_junk, Array.append_assoc]); (repeat (first | with_reducible exact Junk.refl _ | with_reducible exact Junk.app _ _ _ _ _ | with_reducible exact Junk.app2 _ _ _ _ _ _ | with_reducible exact Junk.app3 _ _ _ _ _ _ _ | with_reducible exact Junk.app4 _ _ _ _ _ _ _ _ | with_reducible exact Junk.app5 _ _ _ _ _ _ _ _ _ | with_reducible apply Junk.alloc | with_reducible apply Junk.junk | with_reducible apply Junk.drew | with_reducible apply Junk.drewN))))
  obtain ⟨m1, m2⟩ := Hsum hs2
  have HI := Lib.hid (bts_short H.out S hs2)
  by_cases hm : sumN xs S = 65535
  case neg =>
    have em : (sumN xs S != 65535) = true := by simp [hm]
    have HM := Lib.hid hm
    clear hm
    (go_enter Try.func40, Try.ntmps40; go_wp2; refine wp_region_junk (by kernel_rfl) (by kernel_rfl) ?_; (repeat (refine wpQuiet_step (fun K hK => ?_); (go_simp; try go_bits); first | (refine hK _ ?_; clear hK K) | (apply Exists.intro; refine ⟨fun _ => ?_, hK _ ?_⟩; (first | fail); clear hK K))); refine wpQuiet_nil ?_; rintro _ ⟨⟨osq, dq⟩, rfl⟩; go_wp2_with (first | (go_at_call 75; refine (sum_any _ _ _ _ _ (by omega) (HI.out.at_.on (by (repeat (first | with_reducible exact Junk.refl _ | with_reducible exact Junk.app _ _ _ _ _ | with_reducible exact Junk.app2 _ _ _ _ _ _ | with_reducible exact Junk.app3 _ _ _ _ _ _ _ | with_reducible exact Junk.app4 _ _ _ _ _ _ _ _ | with_reducible apply Junk.alloc | with_reducible apply Junk.junk | with_reducible apply Junk.drew | with_reducible apply Junk.drewN)))) HI.out.byte).mono ?_; rintro e w' ⟨rfl, rfl⟩)))
    go_returns
    exact wholeM_bad (by unfold wholeErr; rw [if_neg h20, ← ES.out, ← ET.out, if_neg (fun h => h ⟨HV.out, hs1, hs2⟩), if_neg (fun h => h ht1), if_pos HM.out]) (by decide) (by ((try simp only [World.junk_junk, Array.append_assoc]); (repeat (first | with_reducible exact Junk.refl _ | with_reducible exact Junk.app _ _ _ _ _ | with_reducible exact Junk.app2 _ _ _ _ _ _ | with_reducible exact Junk.app3 _ _ _ _ _ _ _ | with_reducible exact Junk.app4 _ _ _ _ _ _ _ _ | with_reducible exact Junk.app5 _ _ _ _ _ _ _ _ _ | with_reducible apply Junk.alloc | with_reducible apply Junk.junk | with_reducible apply Junk.drew | with_reducible apply Junk.drewN))))
  have em : (sumN xs S != 65535) = false := by simp [hm]
  have HM := Lib.hid hm
  clear hm
  by_cases hs8 : l < S + 8 ∧ l < T
  · obtain ⟨hs8, hs9⟩ := hs8
    (go_enter Try.func40, Try.ntmps40; go_wp2; refine wp_region_junk (by kernel_rfl) (by kernel_rfl) ?_; (repeat (refine wpQuiet_step (fun K hK => ?_); (go_simp; try go_bits); first | (refine hK _ ?_; clear hK K) | (apply Exists.intro; refine ⟨fun _ => ?_, hK _ ?_⟩; (first | fail); clear hK K))); refine wpQuiet_nil ?_; rintro _ ⟨⟨osq, dq⟩, rfl⟩; go_wp2_with (first | (go_at_call 75; refine (sum_any _ _ _ _ _ (by omega) (HI.out.at_.on (by (repeat (first | with_reducible exact Junk.refl _ | with_reducible exact Junk.app _ _ _ _ _ | with_reducible exact Junk.app2 _ _ _ _ _ _ | with_reducible exact Junk.app3 _ _ _ _ _ _ _ | with_reducible exact Junk.app4 _ _ _ _ _ _ _ _ | with_reducible apply Junk.alloc | with_reducible apply Junk.junk | with_reducible apply Junk.drew | with_reducible apply Junk.drewN)))) HI.out.byte).mono ?_; rintro e w' ⟨rfl, rfl⟩)))
    go_returns
    exact wholeM_bad (by unfold wholeErr; rw [if_neg h20, ← ES.out, ← ET.out, if_neg (fun h => h ⟨HV.out, hs1, hs2⟩), if_neg (fun h => h ht1), if_neg (fun h => h HM.out), if_pos ⟨hs8, hs9⟩]) (by decide) (by ((try simp only [World.junk_junk, Array.append_assoc]); (repeat (first | with_reducible exact Junk.refl _ | with_reducible exact Junk.app _ _ _ _ _ | with_reducible exact Junk.app2 _ _ _ _ _ _ | with_reducible exact Junk.app3 _ _ _ _ _ _ _ | with_reducible exact Junk.app4 _ _ _ _ _ _ _ _ | with_reducible exact Junk.app5 _ _ _ _ _ _ _ _ _ | with_reducible apply Junk.alloc | with_reducible apply Junk.junk | with_reducible apply Junk.drew | with_reducible apply Junk.drewN))))
  have HZ := Lib.hid (show wholeErr xs l = 0 by unfold wholeErr; rw [if_neg h20, ← ES.out, ← ET.out, if_neg (fun h => h ⟨HV.out, hs1, hs2⟩), if_neg (fun h => h ht1), if_neg (fun h => h HM.out), if_neg hs8])
  have H9 := Lib.hid hs8
  clear hs8
  obtain ⟨K, hK⟩ : ∃ K, K = T - l := ⟨_, rfl⟩
  have hk : max 0 ((T : Int) - (l : Int)) = (K : Int) := by omega
  have hk' : K ≤ 100000 := by omega
  have HK := Lib.hid hK
  clear hK
  by_cases h8 : l < S + 8
  · have h9 : ¬ l < T := fun h => H9.out ⟨h8, h⟩
    (go_enter Try.func40, Try.ntmps40; go_wp2; refine wp_region_junk (by kernel_rfl) (by kernel_rfl) ?_; (repeat (refine wpQuiet_step (fun K hK => ?_); (go_simp; try go_bits); first | (refine hK _ ?_; clear hK K) | (apply Exists.intro; refine ⟨fun _ => ?_, hK _ ?_⟩; (first | fail); clear hK K))); refine wpQuiet_nil ?_; rintro _ ⟨⟨osq, dq⟩, rfl⟩; go_wp2_with (first | (go_at_call 75; refine (sum_any _ _ _ _ _ (by omega) (HI.out.at_.on (by (repeat (first | with_reducible exact Junk.refl _ | with_reducible exact Junk.app _ _ _ _ _ | with_reducible exact Junk.app2 _ _ _ _ _ _ | with_reducible exact Junk.app3 _ _ _ _ _ _ _ | with_reducible exact Junk.app4 _ _ _ _ _ _ _ _ | with_reducible apply Junk.alloc | with_reducible apply Junk.junk | with_reducible apply Junk.drew | with_reducible apply Junk.drewN)))) HI.out.byte).mono ?_; rintro e w' ⟨rfl, rfl⟩) | (go_at_call 41; refine (clone_own _ l c xs _ (by omega) (H.out.on (by ((try simp only [World.junk_junk, Array.append_assoc]); (repeat (first | with_reducible exact Junk.refl _ | with_reducible exact Junk.app _ _ _ _ _ | with_reducible exact Junk.app2 _ _ _ _ _ _ | with_reducible exact Junk.app3 _ _ _ _ _ _ _ | with_reducible exact Junk.app4 _ _ _ _ _ _ _ _ | with_reducible exact Junk.app5 _ _ _ _ _ _ _ _ _ | with_reducible apply Junk.alloc | with_reducible apply Junk.junk | with_reducible apply Junk.drew | with_reducible apply Junk.drewN)))))).mono ?_; rintro e w' ⟨oc3, cc3, rfl, ⟨osc, dc, rfl⟩, hcl⟩; obtain ⟨gc, rfl, _, hgS, _⟩ := own_some hcl (by omega); have hcl2 := hcl.lower (B' := w.heap.size) (by simp); simp only [World.junk_junk] at hcl2; have Hcl := Lib.hid hcl2; clear hcl hcl2) | (at_builtin; (refine ap_zeros (W0 := w) rfl _ _ 23 3 rfl 5 (.int .u8 0) (by kernel_rfl) rfl rfl Try.underlying23 .i64 .i64 Try.underlying3 (by ((try simp only [World.junk_junk, Array.append_assoc]); (repeat (first | with_reducible exact Junk.refl _ | with_reducible exact Junk.app _ _ _ _ _ | with_reducible exact Junk.app2 _ _ _ _ _ _ | with_reducible exact Junk.app3 _ _ _ _ _ _ _ | with_reducible exact Junk.app4 _ _ _ _ _ _ _ _ | with_reducible exact Junk.app5 _ _ _ _ _ _ _ _ _ | with_reducible apply Junk.alloc | with_reducible apply Junk.junk | with_reducible apply Junk.drew | with_reducible apply Junk.drewN)))) gc l cc3 K _ rfl Hcl.out rfl (by omega) (by omega) ?_; intro g' cap' os' d' hown))))
    go_returns
    exact wholeM_ok HZ.out (by ((try simp only [World.junk_junk, Array.append_assoc]); (repeat (first | with_reducible exact Junk.refl _ | with_reducible exact Junk.app _ _ _ _ _ | with_reducible exact Junk.app2 _ _ _ _ _ _ | with_reducible exact Junk.app3 _ _ _ _ _ _ _ | with_reducible exact Junk.app4 _ _ _ _ _ _ _ _ | with_reducible exact Junk.app5 _ _ _ _ _ _ _ _ _ | with_reducible apply Junk.alloc | with_reducible apply Junk.junk | with_reducible apply Junk.drew | with_reducible apply Junk.drewN)))) (by omega) hown.capLe.1 hown.capLe.2 (own_zeros_bts hown Hx.out) (own_fresh hown)
  · (go_enter Try.func40, Try.ntmps40; go_wp2; refine wp_region_junk (by kernel_rfl) (by kernel_rfl) ?_; (repeat (refine wpQuiet_step (fun K hK => ?_); (go_simp; try go_bits); first | (refine hK _ ?_; clear hK K) | (apply Exists.intro; refine ⟨fun _ => ?_, hK _ ?_⟩; (first | fail); clear hK K))); refine wpQuiet_nil ?_; rintro _ ⟨⟨osq, dq⟩, rfl⟩; go_wp2_with (first | (go_at_call 75; refine (sum_any _ _ _ _ _ (by omega) (HI.out.at_.on (by (repeat (first | with_reducible exact Junk.refl _ | with_reducible exact Junk.app _ _ _ _ _ | with_reducible exact Junk.app2 _ _ _ _ _ _ | with_reducible exact Junk.app3 _ _ _ _ _ _ _ | with_reducible exact Junk.app4 _ _ _ _ _ _ _ _ | with_reducible apply Junk.alloc | with_reducible apply Junk.junk | with_reducible apply Junk.drew | with_reducible apply Junk.drewN)))) HI.out.byte).mono ?_; rintro e w' ⟨rfl, rfl⟩) | (go_at_call 41; refine (clone_own _ l c xs _ (by omega) (H.out.on (by ((try simp only [World.junk_junk, Array.append_assoc]); (repeat (first | with_reducible exact Junk.refl _ | with_reducible exact Junk.app _ _ _ _ _ | with_reducible exact Junk.app2 _ _ _ _ _ _ | with_reducible exact Junk.app3 _ _ _ _ _ _ _ | with_reducible exact Junk.app4 _ _ _ _ _ _ _ _ | with_reducible exact Junk.app5 _ _ _ _ _ _ _ _ _ | with_reducible apply Junk.alloc | with_reducible apply Junk.junk | with_reducible apply Junk.drew | with_reducible apply Junk.drewN)))))).mono ?_; rintro e w' ⟨oc3, cc3, rfl, ⟨osc, dc, rfl⟩, hcl⟩; obtain ⟨gc, rfl, _, hgS, _⟩ := own_some hcl (by omega); have hcl2 := hcl.lower (B' := w.heap.size) (by simp); simp only [World.junk_junk] at hcl2; have Hcl := Lib.hid hcl2; clear hcl hcl2) | (at_builtin; (refine ap_zeros (W0 := w) rfl _ _ 23 3 rfl 5 (.int .u8 0) (by kernel_rfl) rfl rfl Try.underlying23 .i64 .i64 Try.underlying3 (by ((try simp only [World.junk_junk, Array.append_assoc]); (repeat (first | with_reducible exact Junk.refl _ | with_reducible exact Junk.app _ _ _ _ _ | with_reducible exact Junk.app2 _ _ _ _ _ _ | with_reducible exact Junk.app3 _ _ _ _ _ _ _ | with_reducible exact Junk.app4 _ _ _ _ _ _ _ _ | with_reducible exact Junk.app5 _ _ _ _ _ _ _ _ _ | with_reducible apply Junk.alloc | with_reducible apply Junk.junk | with_reducible apply Junk.drew | with_reducible apply Junk.drewN)))) gc l cc3 K _ rfl Hcl.out rfl (by omega) (by omega) ?_; intro g' cap' os' d' hown))))
    go_returns
    exact wholeM_ok HZ.out (by ((try simp only [World.junk_junk, Array.append_assoc]); (repeat (first | with_reducible exact Junk.refl _ | with_reducible exact Junk.app _ _ _ _ _ | with_reducible exact Junk.app2 _ _ _ _ _ _ | with_reducible exact Junk.app3 _ _ _ _ _ _ _ | with_reducible exact Junk.app4 _ _ _ _ _ _ _ _ | with_reducible exact Junk.app5 _ _ _ _ _ _ _ _ _ | with_reducible apply Junk.alloc | with_reducible apply Junk.junk | with_reducible apply Junk.drew | with_reducible apply Junk.drewN)))) (by omega) hown.capLe.1 hown.capLe.2 (own_zeros_bts hown Hx.out) (own_fresh hown)
end Go.Proofs.Ytnefphinmjeacaa
