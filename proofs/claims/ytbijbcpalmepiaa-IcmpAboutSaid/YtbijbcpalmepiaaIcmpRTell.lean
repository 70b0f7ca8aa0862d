/- The contract of the reference's Tell. -/
import Derived.Test.YtbijbcpalmepiaaIcmpTell
set_option linter.unusedVariables false
set_option maxRecDepth 100000
set_option linter.unusedSimpArgs false
namespace Go.Proofs.Ytbijbcpalmepiaa
open Go.RowKit
theorem byteful_two {n : Int} (h : byteful n = false) : n < 0 ∨ 255 < n := by
  simp only [byteful, decide_eq_false_iff_not] at h
  omega
set_option maxHeartbeats 2000000 in
theorem rtell_any (kind code rest : Int) (oa : Option Addr) (l c : Nat) (xs : Nat → Int) (w : World) (hl : l ≤ 100000000) (hB : Bts w oa l c xs) :
    Calls Try.prog 26 #[.int .i64 kind, .int .i64 code, .int .u32 rest, .slice oa l c] w (TellM w kind code rest xs l) := by
  have HB := Lib.hid hB
  clear hB
  cases a1 : errorB kind with
  | false =>
    go_enter Try.func26, Try.ntmps26
    go_wp2_with (first | (go_at_call 58; refine (rerror_any _ _).mono ?_; rintro e w' ⟨rfl, rfl⟩))
    go_returns
    exact tellM_bad (by unfold tellErr; rw [if_pos (by simp [a1])]) (by decide) (by ((try simp only [World.junk_junk, Array.append_assoc]); (repeat (first | with_reducible exact Junk.refl _ | with_reducible exact Junk.app _ _ _ _ _ | with_reducible exact Junk.app2 _ _ _ _ _ _ | with_reducible exact Junk.app3 _ _ _ _ _ _ _ | with_reducible exact Junk.app4 _ _ _ _ _ _ _ _ | with_reducible exact Junk.app5 _ _ _ _ _ _ _ _ _ | with_reducible apply Junk.alloc | with_reducible apply Junk.junk | with_reducible apply Junk.drew | with_reducible apply Junk.drewN))))
  | true =>
  cases a2 : byteful code with
  | false =>
    rcases byteful_two a2 with h | h
    all_goals
      go_enter Try.func26, Try.ntmps26
      go_wp2_with (first | (go_at_call 58; refine (rerror_any _ _).mono ?_; rintro e w' ⟨rfl, rfl⟩))
      go_returns
      exact tellM_bad (by unfold tellErr; rw [if_pos (by simp [a2])]) (by decide) (by ((try simp only [World.junk_junk, Array.append_assoc]); (repeat (first | with_reducible exact Junk.refl _ | with_reducible exact Junk.app _ _ _ _ _ | with_reducible exact Junk.app2 _ _ _ _ _ _ | with_reducible exact Junk.app3 _ _ _ _ _ _ _ | with_reducible exact Junk.app4 _ _ _ _ _ _ _ _ | with_reducible exact Junk.app5 _ _ _ _ _ _ _ _ _ | with_reducible apply Junk.alloc | with_reducible apply Junk.junk | with_reducible apply Junk.drew | with_reducible apply Junk.drewN))))
  | true =>
  have a3 : 0 ≤ code ∧ code ≤ 255 := by simpa [byteful] using a2
  obtain ⟨a4, a5⟩ := a3
  by_cases h0 : parseErr xs l = 0
  case neg =>
    have he : (parseErr xs l != 0) = true := by simp [h0]
    have H0 := Lib.hid h0
    clear h0
    go_enter Try.func26, Try.ntmps26
    go_wp2_with (first | (go_at_call 58; refine (rerror_any _ _).mono ?_; rintro e w' ⟨rfl, rfl⟩) | (go_at_call 63; refine (ipRParse_any oa l c xs _ hl (HB.out.on (by ((try simp only [World.junk_junk, Array.append_assoc]); (repeat (first | with_reducible exact Junk.refl _ | with_reducible exact Junk.app _ _ _ _ _ | with_reducible exact Junk.app2 _ _ _ _ _ _ | with_reducible exact Junk.app3 _ _ _ _ _ _ _ | with_reducible exact Junk.app4 _ _ _ _ _ _ _ _ | with_reducible exact Junk.app5 _ _ _ _ _ _ _ _ _ | with_reducible apply Junk.alloc | with_reducible apply Junk.junk | with_reducible apply Junk.drew | with_reducible apply Junk.drewN)))))).mono ?_; intro e w' hp; obtain ⟨rfl, ⟨osj2, dj2, rfl⟩⟩ := hp.bad H0.out; clear hp))
    go_returns
    exact tellM_bad (by unfold tellErr; rw [if_neg (by simp [a1, a2]), if_pos H0.out]) H0.out (by ((try simp only [World.junk_junk, Array.append_assoc]); (repeat (first | with_reducible exact Junk.refl _ | with_reducible exact Junk.app _ _ _ _ _ | with_reducible exact Junk.app2 _ _ _ _ _ _ | with_reducible exact Junk.app3 _ _ _ _ _ _ _ | with_reducible exact Junk.app4 _ _ _ _ _ _ _ _ | with_reducible exact Junk.app5 _ _ _ _ _ _ _ _ _ | with_reducible apply Junk.alloc | with_reducible apply Junk.junk | with_reducible apply Junk.drew | with_reducible apply Junk.drewN))))
  obtain ⟨l1, l2, l3, l4⟩ := parse_len h0
  have hhd := parseIp_head HB.out h0
  have o0 := hhd.off.1
  have hlc := HB.out.le
  obtain ⟨b, off, rfl, _, _⟩ := HB.out.at_ 0 (by omega)
  obtain ⟨Z, hZ⟩ : ∃ Z, Z = tellLen xs := ⟨_, rfl⟩
  have hZ2 : Z = 20 + (parseIp xs).ol + min 8 (parseIp xs).bl := hZ
  have z1 : Z ≤ l := by omega
  have z2 : (Z : Int) ≤ (c : Int) := by omega
  have HZ := Lib.hid hZ
  have he : (parseErr xs l != 0) = false := by simp [h0]
  have H0 := Lib.hid h0
  clear h0 hZ l1 l2 l3 l4 hhd
  by_cases m0 : 0 < (parseIp xs).off
  case pos =>
    have HM := Lib.hid (show mute (parseIp xs) = true by simp [mute]; omega)
    clear hZ2
    go_enter Try.func26, Try.ntmps26
    go_wp2_with (first | (go_at_call 58; refine (rerror_any _ _).mono ?_; rintro e w' ⟨rfl, rfl⟩) | (go_at_call 63; (try simp only [World.junk_junk]); refine (ipRParse_any _ l c xs _ hl (HB.out.on (by ((try simp only [World.junk_junk, Array.append_assoc]); (repeat (first | with_reducible exact Junk.refl _ | with_reducible exact Junk.app _ _ _ _ _ | with_reducible exact Junk.app2 _ _ _ _ _ _ | with_reducible exact Junk.app3 _ _ _ _ _ _ _ | with_reducible exact Junk.app4 _ _ _ _ _ _ _ _ | with_reducible exact Junk.app5 _ _ _ _ _ _ _ _ _ | with_reducible apply Junk.alloc | with_reducible apply Junk.junk | with_reducible apply Junk.drew | with_reducible apply Junk.drewN)))))).mono ?_; intro e w' hp; obtain ⟨oo2, ob2, oc2, bc2, rfl, ⟨osj2, dj2, rfl⟩, hq⟩ := hp.ok H0.out; clear hp; clear hq))
    go_returns
    exact tellM_bad (by unfold tellErr; rw [if_neg (by simp [a1, a2]), if_neg (by simp [H0.out]), if_pos HM.out]) (by decide) (by ((try simp only [World.junk_junk, Array.append_assoc]); (repeat (first | with_reducible exact Junk.refl _ | with_reducible exact Junk.app _ _ _ _ _ | with_reducible exact Junk.app2 _ _ _ _ _ _ | with_reducible exact Junk.app3 _ _ _ _ _ _ _ | with_reducible exact Junk.app4 _ _ _ _ _ _ _ _ | with_reducible exact Junk.app5 _ _ _ _ _ _ _ _ _ | with_reducible apply Junk.alloc | with_reducible apply Junk.junk | with_reducible apply Junk.drew | with_reducible apply Junk.drewN))))
  have m1 : (parseIp xs).off = 0 := by omega
  have M1 := Lib.hid m1
  clear m1
  cases m2 : ((parseIp xs).proto == 1) with
  | false =>
    have HM := Lib.hid (show mute (parseIp xs) = false by simp [mute, M1.out, m2])
    by_cases h8 : (parseIp xs).bl ≤ 8
    · have hz : (20 : Int) + ((parseIp xs).ol : Int) + ((parseIp xs).bl : Int) = (Z : Int) := by omega
      clear hZ2
      go_enter Try.func26, Try.ntmps26
      go_wp2_with (first | (go_at_call 58; refine (rerror_any _ _).mono ?_; rintro e w' ⟨rfl, rfl⟩) | (go_at_call 63; (try simp only [World.junk_junk]); refine (ipRParse_any _ l c xs _ hl (HB.out.on (by ((try simp only [World.junk_junk, Array.append_assoc]); (repeat (first | with_reducible exact Junk.refl _ | with_reducible exact Junk.app _ _ _ _ _ | with_reducible exact Junk.app2 _ _ _ _ _ _ | with_reducible exact Junk.app3 _ _ _ _ _ _ _ | with_reducible exact Junk.app4 _ _ _ _ _ _ _ _ | with_reducible exact Junk.app5 _ _ _ _ _ _ _ _ _ | with_reducible apply Junk.alloc | with_reducible apply Junk.junk | with_reducible apply Junk.drew | with_reducible apply Junk.drewN)))))).mono ?_; intro e w' hp; obtain ⟨oo2, ob2, oc2, bc2, rfl, ⟨osj2, dj2, rfl⟩, hq⟩ := hp.ok H0.out; clear hp; clear hq) | (at_builtin; (refine ap_own rfl _ _ 23 rfl 5 (.int .u8 0) 1 1 (by kernel_rfl) rfl (by decide) Try.underlying23 ((Junk.refl _).alloc _) _ 0 0 [] rfl (own_made _ _ 1 0 _ _ (by simp) (Nat.le_refl _) (Nat.zero_le _) rfl) (some ⟨b, off, none⟩) Z c rfl ((List.range Z).map fun i => .int .u8 (xs i)) (by simp) ((bts_short HB.out Z (by omega)).on (by ((try simp only [World.junk_junk, Array.append_assoc]); (repeat (first | with_reducible exact Junk.refl _ | with_reducible exact Junk.app _ _ _ _ _ | with_reducible exact Junk.app2 _ _ _ _ _ _ | with_reducible exact Junk.app3 _ _ _ _ _ _ _ | with_reducible exact Junk.app4 _ _ _ _ _ _ _ _ | with_reducible exact Junk.app5 _ _ _ _ _ _ _ _ _ | with_reducible apply Junk.alloc | with_reducible apply Junk.junk | with_reducible apply Junk.drew | with_reducible apply Junk.drewN))))).at_.src (fun h => by cases h) (by simp [Value.oneCell']) (by simp only [maxLen]; omega) (by omega) ?_; intro oo1 co1 os1 d1 hown _; rw [List.nil_append, Nat.zero_add] at hown; have hb := own_bts hown (fun i hi => HB.out.byte _ (by omega)); have Hcf := Lib.hid (own_fresh hown); (try simp only [World.junk_junk] at hb); have Hcb := Lib.hid hb; clear hown hb)))
      go_returns
      exact tellM_ok (by unfold tellErr; rw [if_neg (by simp [a1, a2]), if_neg (by simp [H0.out]), if_neg (by simp [HM.out])]) HZ.out (by ((try simp only [World.junk_junk, Array.append_assoc]); (repeat (first | with_reducible exact Junk.refl _ | with_reducible exact Junk.app _ _ _ _ _ | with_reducible exact Junk.app2 _ _ _ _ _ _ | with_reducible exact Junk.app3 _ _ _ _ _ _ _ | with_reducible exact Junk.app4 _ _ _ _ _ _ _ _ | with_reducible exact Junk.app5 _ _ _ _ _ _ _ _ _ | with_reducible apply Junk.alloc | with_reducible apply Junk.junk | with_reducible apply Junk.drew | with_reducible apply Junk.drewN)))) (bts_over2 (by simp) Hcb.out (Hcf.out.lower (by simp)) ⟨#[], by simp⟩)
    · have hz : (20 : Int) + ((parseIp xs).ol : Int) + 8 = (Z : Int) := by omega
      clear hZ2
      go_enter Try.func26, Try.ntmps26
      go_wp2_with (first | (go_at_call 58; refine (rerror_any _ _).mono ?_; rintro e w' ⟨rfl, rfl⟩) | (go_at_call 63; (try simp only [World.junk_junk]); refine (ipRParse_any _ l c xs _ hl (HB.out.on (by ((try simp only [World.junk_junk, Array.append_assoc]); (repeat (first | with_reducible exact Junk.refl _ | with_reducible exact Junk.app _ _ _ _ _ | with_reducible exact Junk.app2 _ _ _ _ _ _ | with_reducible exact Junk.app3 _ _ _ _ _ _ _ | with_reducible exact Junk.app4 _ _ _ _ _ _ _ _ | with_reducible exact Junk.app5 _ _ _ _ _ _ _ _ _ | with_reducible apply Junk.alloc | with_reducible apply Junk.junk | with_reducible apply Junk.drew | with_reducible apply Junk.drewN)))))).mono ?_; intro e w' hp; obtain ⟨oo2, ob2, oc2, bc2, rfl, ⟨osj2, dj2, rfl⟩, hq⟩ := hp.ok H0.out; clear hp; clear hq) | (at_builtin; (refine ap_own rfl _ _ 23 rfl 5 (.int .u8 0) 1 1 (by kernel_rfl) rfl (by decide) Try.underlying23 ((Junk.refl _).alloc _) _ 0 0 [] rfl (own_made _ _ 1 0 _ _ (by simp) (Nat.le_refl _) (Nat.zero_le _) rfl) (some ⟨b, off, none⟩) Z c rfl ((List.range Z).map fun i => .int .u8 (xs i)) (by simp) ((bts_short HB.out Z (by omega)).on (by ((try simp only [World.junk_junk, Array.append_assoc]); (repeat (first | with_reducible exact Junk.refl _ | with_reducible exact Junk.app _ _ _ _ _ | with_reducible exact Junk.app2 _ _ _ _ _ _ | with_reducible exact Junk.app3 _ _ _ _ _ _ _ | with_reducible exact Junk.app4 _ _ _ _ _ _ _ _ | with_reducible exact Junk.app5 _ _ _ _ _ _ _ _ _ | with_reducible apply Junk.alloc | with_reducible apply Junk.junk | with_reducible apply Junk.drew | with_reducible apply Junk.drewN))))).at_.src (fun h => by cases h) (by simp [Value.oneCell']) (by simp only [maxLen]; omega) (by omega) ?_; intro oo1 co1 os1 d1 hown _; rw [List.nil_append, Nat.zero_add] at hown; have hb := own_bts hown (fun i hi => HB.out.byte _ (by omega)); have Hcf := Lib.hid (own_fresh hown); (try simp only [World.junk_junk] at hb); have Hcb := Lib.hid hb; clear hown hb)))
      go_returns
      exact tellM_ok (by unfold tellErr; rw [if_neg (by simp [a1, a2]), if_neg (by simp [H0.out]), if_neg (by simp [HM.out])]) HZ.out (by ((try simp only [World.junk_junk, Array.append_assoc]); (repeat (first | with_reducible exact Junk.refl _ | with_reducible exact Junk.app _ _ _ _ _ | with_reducible exact Junk.app2 _ _ _ _ _ _ | with_reducible exact Junk.app3 _ _ _ _ _ _ _ | with_reducible exact Junk.app4 _ _ _ _ _ _ _ _ | with_reducible exact Junk.app5 _ _ _ _ _ _ _ _ _ | with_reducible apply Junk.alloc | with_reducible apply Junk.junk | with_reducible apply Junk.drew | with_reducible apply Junk.drewN)))) (bts_over2 (by simp) Hcb.out (Hcf.out.lower (by simp)) ⟨#[], by simp⟩)
  | true =>
    by_cases m3 : 0 < (parseIp xs).bl
    case neg =>
      have HM := Lib.hid (show mute (parseIp xs) = false by simp [mute, M1.out, m3])
      by_cases h8 : (parseIp xs).bl ≤ 8
      · have hz : (20 : Int) + ((parseIp xs).ol : Int) + ((parseIp xs).bl : Int) = (Z : Int) := by omega
        clear hZ2
        go_enter Try.func26, Try.ntmps26
        go_wp2_with (first | (go_at_call 58; refine (rerror_any _ _).mono ?_; rintro e w' ⟨rfl, rfl⟩) | (go_at_call 63; (try simp only [World.junk_junk]); refine (ipRParse_any _ l c xs _ hl (HB.out.on (by ((try simp only [World.junk_junk, Array.append_assoc]); (repeat (first | with_reducible exact Junk.refl _ | with_reducible exact Junk.app _ _ _ _ _ | with_reducible exact Junk.app2 _ _ _ _ _ _ | with_reducible exact Junk.app3 _ _ _ _ _ _ _ | with_reducible exact Junk.app4 _ _ _ _ _ _ _ _ | with_reducible exact Junk.app5 _ _ _ _ _ _ _ _ _ | with_reducible apply Junk.alloc | with_reducible apply Junk.junk | with_reducible apply Junk.drew | with_reducible apply Junk.drewN)))))).mono ?_; intro e w' hp; obtain ⟨oo2, ob2, oc2, bc2, rfl, ⟨osj2, dj2, rfl⟩, hq⟩ := hp.ok H0.out; clear hp; clear hq) | (at_builtin; (refine ap_own rfl _ _ 23 rfl 5 (.int .u8 0) 1 1 (by kernel_rfl) rfl (by decide) Try.underlying23 ((Junk.refl _).alloc _) _ 0 0 [] rfl (own_made _ _ 1 0 _ _ (by simp) (Nat.le_refl _) (Nat.zero_le _) rfl) (some ⟨b, off, none⟩) Z c rfl ((List.range Z).map fun i => .int .u8 (xs i)) (by simp) ((bts_short HB.out Z (by omega)).on (by ((try simp only [World.junk_junk, Array.append_assoc]); (repeat (first | with_reducible exact Junk.refl _ | with_reducible exact Junk.app _ _ _ _ _ | with_reducible exact Junk.app2 _ _ _ _ _ _ | with_reducible exact Junk.app3 _ _ _ _ _ _ _ | with_reducible exact Junk.app4 _ _ _ _ _ _ _ _ | with_reducible exact Junk.app5 _ _ _ _ _ _ _ _ _ | with_reducible apply Junk.alloc | with_reducible apply Junk.junk | with_reducible apply Junk.drew | with_reducible apply Junk.drewN))))).at_.src (fun h => by cases h) (by simp [Value.oneCell']) (by simp only [maxLen]; omega) (by omega) ?_; intro oo1 co1 os1 d1 hown _; rw [List.nil_append, Nat.zero_add] at hown; have hb := own_bts hown (fun i hi => HB.out.byte _ (by omega)); have Hcf := Lib.hid (own_fresh hown); (try simp only [World.junk_junk] at hb); have Hcb := Lib.hid hb; clear hown hb)))
        go_returns
        exact tellM_ok (by unfold tellErr; rw [if_neg (by simp [a1, a2]), if_neg (by simp [H0.out]), if_neg (by simp [HM.out])]) HZ.out (by ((try simp only [World.junk_junk, Array.append_assoc]); (repeat (first | with_reducible exact Junk.refl _ | with_reducible exact Junk.app _ _ _ _ _ | with_reducible exact Junk.app2 _ _ _ _ _ _ | with_reducible exact Junk.app3 _ _ _ _ _ _ _ | with_reducible exact Junk.app4 _ _ _ _ _ _ _ _ | with_reducible exact Junk.app5 _ _ _ _ _ _ _ _ _ | with_reducible apply Junk.alloc | with_reducible apply Junk.junk | with_reducible apply Junk.drew | with_reducible apply Junk.drewN)))) (bts_over2 (by simp) Hcb.out (Hcf.out.lower (by simp)) ⟨#[], by simp⟩)
      · exfalso; omega
    have m3' : (0 : Int) < ((parseIp xs).bl : Int) := by omega
    cases m4 : errorB ((parseIp xs).body 0) with
    | true =>
      have HM := Lib.hid (show mute (parseIp xs) = true by simp [mute, m2, m3, m4])
      clear hZ2
      go_enter Try.func26, Try.ntmps26
      go_wp2_with (first | (go_at_call 58; refine (rerror_any _ _).mono ?_; rintro e w' ⟨rfl, rfl⟩) | (go_at_call 63; (try simp only [World.junk_junk]); refine (ipRParse_any _ l c xs _ hl (HB.out.on (by ((try simp only [World.junk_junk, Array.append_assoc]); (repeat (first | with_reducible exact Junk.refl _ | with_reducible exact Junk.app _ _ _ _ _ | with_reducible exact Junk.app2 _ _ _ _ _ _ | with_reducible exact Junk.app3 _ _ _ _ _ _ _ | with_reducible exact Junk.app4 _ _ _ _ _ _ _ _ | with_reducible exact Junk.app5 _ _ _ _ _ _ _ _ _ | with_reducible apply Junk.alloc | with_reducible apply Junk.junk | with_reducible apply Junk.drew | with_reducible apply Junk.drewN)))))).mono ?_; intro e w' hp; obtain ⟨oo2, ob2, oc2, bc2, rfl, ⟨osj2, dj2, rfl⟩, hq⟩ := hp.ok H0.out; clear hp; obtain ⟨hbb, hbb2⟩ := hq.body.byte 0 (by omega); have hww := wrapk_i64 ((parseIp xs).body 0) hbb (by omega); obtain ⟨gb, go, rfl, hgl, hcb⟩ := hq.body.at_ 0 (by omega); simp only [World.junk_junk, Nat.add_zero] at hgl hcb; simp only [World.size_junk, World.size_alloc, Array.size_append] at hgl; clear hq))
      go_returns
      exact tellM_bad (by unfold tellErr; rw [if_neg (by simp [a1, a2]), if_neg (by simp [H0.out]), if_pos HM.out]) (by decide) (by ((try simp only [World.junk_junk, Array.append_assoc]); (repeat (first | with_reducible exact Junk.refl _ | with_reducible exact Junk.app _ _ _ _ _ | with_reducible exact Junk.app2 _ _ _ _ _ _ | with_reducible exact Junk.app3 _ _ _ _ _ _ _ | with_reducible exact Junk.app4 _ _ _ _ _ _ _ _ | with_reducible exact Junk.app5 _ _ _ _ _ _ _ _ _ | with_reducible apply Junk.alloc | with_reducible apply Junk.junk | with_reducible apply Junk.drew | with_reducible apply Junk.drewN))))
    | false =>
      have HM := Lib.hid (show mute (parseIp xs) = false by simp [mute, M1.out, m4])
      by_cases h8 : (parseIp xs).bl ≤ 8
      · have hz : (20 : Int) + ((parseIp xs).ol : Int) + ((parseIp xs).bl : Int) = (Z : Int) := by omega
        clear hZ2
        go_enter Try.func26, Try.ntmps26
        go_wp2_with (first | (go_at_call 58; refine (rerror_any _ _).mono ?_; rintro e w' ⟨rfl, rfl⟩) | (go_at_call 63; (try simp only [World.junk_junk]); refine (ipRParse_any _ l c xs _ hl (HB.out.on (by ((try simp only [World.junk_junk, Array.append_assoc]); (repeat (first | with_reducible exact Junk.refl _ | with_reducible exact Junk.app _ _ _ _ _ | with_reducible exact Junk.app2 _ _ _ _ _ _ | with_reducible exact Junk.app3 _ _ _ _ _ _ _ | with_reducible exact Junk.app4 _ _ _ _ _ _ _ _ | with_reducible exact Junk.app5 _ _ _ _ _ _ _ _ _ | with_reducible apply Junk.alloc | with_reducible apply Junk.junk | with_reducible apply Junk.drew | with_reducible apply Junk.drewN)))))).mono ?_; intro e w' hp; obtain ⟨oo2, ob2, oc2, bc2, rfl, ⟨osj2, dj2, rfl⟩, hq⟩ := hp.ok H0.out; clear hp; obtain ⟨hbb, hbb2⟩ := hq.body.byte 0 (by omega); have hww := wrapk_i64 ((parseIp xs).body 0) hbb (by omega); obtain ⟨gb, go, rfl, hgl, hcb⟩ := hq.body.at_ 0 (by omega); simp only [World.junk_junk, Nat.add_zero] at hgl hcb; simp only [World.size_junk, World.size_alloc, Array.size_append] at hgl; clear hq) | (at_builtin; (refine ap_own rfl _ _ 23 rfl 5 (.int .u8 0) 1 1 (by kernel_rfl) rfl (by decide) Try.underlying23 ((Junk.refl _).alloc _) _ 0 0 [] rfl (own_made _ _ 1 0 _ _ (by simp) (Nat.le_refl _) (Nat.zero_le _) rfl) (some ⟨b, off, none⟩) Z c rfl ((List.range Z).map fun i => .int .u8 (xs i)) (by simp) ((bts_short HB.out Z (by omega)).on (by ((try simp only [World.junk_junk, Array.append_assoc]); (repeat (first | with_reducible exact Junk.refl _ | with_reducible exact Junk.app _ _ _ _ _ | with_reducible exact Junk.app2 _ _ _ _ _ _ | with_reducible exact Junk.app3 _ _ _ _ _ _ _ | with_reducible exact Junk.app4 _ _ _ _ _ _ _ _ | with_reducible exact Junk.app5 _ _ _ _ _ _ _ _ _ | with_reducible apply Junk.alloc | with_reducible apply Junk.junk | with_reducible apply Junk.drew | with_reducible apply Junk.drewN))))).at_.src (fun h => by cases h) (by simp [Value.oneCell']) (by simp only [maxLen]; omega) (by omega) ?_; intro oo1 co1 os1 d1 hown _; rw [List.nil_append, Nat.zero_add] at hown; have hb := own_bts hown (fun i hi => HB.out.byte _ (by omega)); have Hcf := Lib.hid (own_fresh hown); (try simp only [World.junk_junk] at hb); have Hcb := Lib.hid hb; clear hown hb)))
        go_returns
        exact tellM_ok (by unfold tellErr; rw [if_neg (by simp [a1, a2]), if_neg (by simp [H0.out]), if_neg (by simp [HM.out])]) HZ.out (by ((try simp only [World.junk_junk, Array.append_assoc]); (repeat (first | with_reducible exact Junk.refl _ | with_reducible exact Junk.app _ _ _ _ _ | with_reducible exact Junk.app2 _ _ _ _ _ _ | with_reducible exact Junk.app3 _ _ _ _ _ _ _ | with_reducible exact Junk.app4 _ _ _ _ _ _ _ _ | with_reducible exact Junk.app5 _ _ _ _ _ _ _ _ _ | with_reducible apply Junk.alloc | with_reducible apply Junk.junk | with_reducible apply Junk.drew | with_reducible apply Junk.drewN)))) (bts_over2 (by simp) Hcb.out (Hcf.out.lower (by simp)) ⟨#[], by simp⟩)
      · have hz : (20 : Int) + ((parseIp xs).ol : Int) + 8 = (Z : Int) := by omega
        clear hZ2
        go_enter Try.func26, Try.ntmps26
        go_wp2_with (first | (go_at_call 58; refine (rerror_any _ _).mono ?_; rintro e w' ⟨rfl, rfl⟩) | (go_at_call 63; (try simp only [World.junk_junk]); refine (ipRParse_any _ l c xs _ hl (HB.out.on (by ((try simp only [World.junk_junk, Array.append_assoc]); (repeat (first | with_reducible exact Junk.refl _ | with_reducible exact Junk.app _ _ _ _ _ | with_reducible exact Junk.app2 _ _ _ _ _ _ | with_reducible exact Junk.app3 _ _ _ _ _ _ _ | with_reducible exact Junk.app4 _ _ _ _ _ _ _ _ | with_reducible exact Junk.app5 _ _ _ _ _ _ _ _ _ | with_reducible apply Junk.alloc | with_reducible apply Junk.junk | with_reducible apply Junk.drew | with_reducible apply Junk.drewN)))))).mono ?_; intro e w' hp; obtain ⟨oo2, ob2, oc2, bc2, rfl, ⟨osj2, dj2, rfl⟩, hq⟩ := hp.ok H0.out; clear hp; obtain ⟨hbb, hbb2⟩ := hq.body.byte 0 (by omega); have hww := wrapk_i64 ((parseIp xs).body 0) hbb (by omega); obtain ⟨gb, go, rfl, hgl, hcb⟩ := hq.body.at_ 0 (by omega); simp only [World.junk_junk, Nat.add_zero] at hgl hcb; simp only [World.size_junk, World.size_alloc, Array.size_append] at hgl; clear hq) | (at_builtin; (refine ap_own rfl _ _ 23 rfl 5 (.int .u8 0) 1 1 (by kernel_rfl) rfl (by decide) Try.underlying23 ((Junk.refl _).alloc _) _ 0 0 [] rfl (own_made _ _ 1 0 _ _ (by simp) (Nat.le_refl _) (Nat.zero_le _) rfl) (some ⟨b, off, none⟩) Z c rfl ((List.range Z).map fun i => .int .u8 (xs i)) (by simp) ((bts_short HB.out Z (by omega)).on (by ((try simp only [World.junk_junk, Array.append_assoc]); (repeat (first | with_reducible exact Junk.refl _ | with_reducible exact Junk.app _ _ _ _ _ | with_reducible exact Junk.app2 _ _ _ _ _ _ | with_reducible exact Junk.app3 _ _ _ _ _ _ _ | with_reducible exact Junk.app4 _ _ _ _ _ _ _ _ | with_reducible exact Junk.app5 _ _ _ _ _ _ _ _ _ | with_reducible apply Junk.alloc | with_reducible apply Junk.junk | with_reducible apply Junk.drew | with_reducible apply Junk.drewN))))).at_.src (fun h => by cases h) (by simp [Value.oneCell']) (by simp only [maxLen]; omega) (by omega) ?_; intro oo1 co1 os1 d1 hown _; rw [List.nil_append, Nat.zero_add] at hown; have hb := own_bts hown (fun i hi => HB.out.byte _ (by omega)); have Hcf := Lib.hid (own_fresh hown); (try simp only [World.junk_junk] at hb); have Hcb := Lib.hid hb; clear hown hb)))
        go_returns
        exact tellM_ok (by unfold tellErr; rw [if_neg (by simp [a1, a2]), if_neg (by simp [H0.out]), if_neg (by simp [HM.out])]) HZ.out (by ((try simp only [World.junk_junk, Array.append_assoc]); (repeat (first | with_reducible exact Junk.refl _ | with_reducible exact Junk.app _ _ _ _ _ | with_reducible exact Junk.app2 _ _ _ _ _ _ | with_reducible exact Junk.app3 _ _ _ _ _ _ _ | with_reducible exact Junk.app4 _ _ _ _ _ _ _ _ | with_reducible exact Junk.app5 _ _ _ _ _ _ _ _ _ | with_reducible apply Junk.alloc | with_reducible apply Junk.junk | with_reducible apply Junk.drew | with_reducible apply Junk.drewN)))) (bts_over2 (by simp) Hcb.out (Hcf.out.lower (by simp)) ⟨#[], by simp⟩)
end Go.Proofs.Ytbijbcpalmepiaa
