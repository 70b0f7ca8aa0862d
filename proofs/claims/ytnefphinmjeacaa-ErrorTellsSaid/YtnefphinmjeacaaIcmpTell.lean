/- The contract of icmp.Tell. -/
import Derived.Test.YtnefphinmjeacaaIpBackP
set_option linter.unusedVariables false
set_option maxRecDepth 100000
set_option linter.unusedSimpArgs false
namespace Go.Proofs.Ytnefphinmjeacaa
open Go.RowKit
/-- Is a packet an error, or a later piece? -/
def mute (p : Ip) : Bool := (p.off != 0) || ((p.proto == 1) && (decide (0 < p.bl) && errorB (p.body 0)))
def tellErr (kind code : Int) (xs : Nat → Int) (l : Nat) : Int :=
  if (errorB kind && byteful code) = false then 1 else if parseErr xs l ≠ 0 then parseErr xs l else if mute (parseIp xs) = true then 14 else 0
def tellLen (xs : Nat → Int) : Nat := 20 + (parseIp xs).ol + min 8 (parseIp xs).bl
def TellM (w : World) (kind code rest : Int) (xs : Nat → Int) (l : Nat) (e : Ending) (w' : World) : Prop :=
  ∃ (t c r : Int) (ob : Option Addr) (lb cb : Nat), e = .returned (.tuple #[.agg #[.int .i64 t, .int .i64 c, .int .u32 r, .slice ob lb cb], .int .i64 (tellErr kind code xs l)]) ∧ Junk w w' ∧ Bts w' ob lb cb xs ∧
    ((tellErr kind code xs l = 0 ∧ t = kind ∧ c = code ∧ r = rest ∧ lb = tellLen xs) ∨ (tellErr kind code xs l ≠ 0 ∧ t = 0 ∧ c = 0 ∧ r = 0 ∧ lb = 0 ∧ cb = 0 ∧ ob = none))
theorem tellM_bad {w w' : World} {kind code rest : Int} {xs : Nat → Int} {l : Nat} {n : Int} (h : tellErr kind code xs l = n) (hn : n ≠ 0) (hj : Junk w w') : TellM w kind code rest xs l (.returned (.tuple #[.agg #[.int .i64 0, .int .i64 0, .int .u32 0, .slice none 0 0], .int .i64 n])) w' :=
  ⟨0, 0, 0, none, 0, 0, by rw [h], hj, bts_none _ _, .inr ⟨by rw [h]; exact hn, rfl, rfl, rfl, rfl, rfl, rfl⟩⟩
theorem tellM_ok {w w' : World} {kind code rest : Int} {xs : Nat → Int} {l lb cb : Nat} {ob : Option Addr} (h : tellErr kind code xs l = 0) (hl : lb = tellLen xs) (hj : Junk w w') (hb : Bts w' ob lb cb xs) : TellM w kind code rest xs l (.returned (.tuple #[.agg #[.int .i64 kind, .int .i64 code, .int .u32 rest, .slice ob lb cb], .int .i64 0])) w' :=
  ⟨kind, code, rest, ob, lb, cb, by rw [h], hj, hb, .inl ⟨h, rfl, rfl, rfl, hl⟩⟩
set_option maxHeartbeats 2000000 in
theorem tell_any (kind code rest : Int) (oa : Option Addr) (l c : Nat) (xs : Nat → Int) (w : World) (hl : l ≤ 100000000) (hB : Bts w oa l c xs) :
    Calls Try.prog 29 #[.int .i64 kind, .int .i64 code, .int .u32 rest, .slice oa l c] w (TellM w kind code rest xs l) := by
  have HB := Lib.hid hB
  clear hB
  cases a1 : errorB kind with
  | false =>
    go_enter Try.func29, Try.ntmps29
    go_wp2_with (first | (go_at_call 62; refine (errors_any _ _).mono ?_; rintro e w' ⟨rfl, ⟨osj, dj, rfl⟩⟩) | (go_at_call 63; refine (byteful_any _ _).mono ?_; rintro e w' ⟨rfl, rfl⟩))
    go_returns
    exact tellM_bad (by unfold tellErr; rw [if_pos (by simp [*])]) (by decide) (by ((try simp only [World.junk_junk, Array.append_assoc]); (repeat (first | with_reducible exact Junk.refl _ | with_reducible exact Junk.app _ _ _ _ _ | with_reducible exact Junk.app2 _ _ _ _ _ _ | with_reducible exact Junk.app3 _ _ _ _ _ _ _ | with_reducible exact Junk.app4 _ _ _ _ _ _ _ _ | with_reducible exact Junk.app5 _ _ _ _ _ _ _ _ _ | with_reducible apply Junk.alloc | with_reducible apply Junk.junk | with_reducible apply Junk.drew | with_reducible apply Junk.drewN))))
  | true =>
    cases a2 : byteful code with
    | false =>
      go_enter Try.func29, Try.ntmps29
      go_wp2_with (first | (go_at_call 62; refine (errors_any _ _).mono ?_; rintro e w' ⟨rfl, ⟨osj, dj, rfl⟩⟩) | (go_at_call 63; refine (byteful_any _ _).mono ?_; rintro e w' ⟨rfl, rfl⟩))
      go_returns
      exact tellM_bad (by unfold tellErr; rw [if_pos (by simp [*])]) (by decide) (by ((try simp only [World.junk_junk, Array.append_assoc]); (repeat (first | with_reducible exact Junk.refl _ | with_reducible exact Junk.app _ _ _ _ _ | with_reducible exact Junk.app2 _ _ _ _ _ _ | with_reducible exact Junk.app3 _ _ _ _ _ _ _ | with_reducible exact Junk.app4 _ _ _ _ _ _ _ _ | with_reducible exact Junk.app5 _ _ _ _ _ _ _ _ _ | with_reducible apply Junk.alloc | with_reducible apply Junk.junk | with_reducible apply Junk.drew | with_reducible apply Junk.drewN))))
    | true =>
      by_cases h0 : parseErr xs l = 0
      case neg =>
        have he : (parseErr xs l != 0) = true := by simp [h0]
        have H0 := Lib.hid h0
        clear h0
        go_enter Try.func29, Try.ntmps29
        go_wp2_with (first | (go_at_call 62; refine (errors_any _ _).mono ?_; rintro e w' ⟨rfl, ⟨osj, dj, rfl⟩⟩) | (go_at_call 63; refine (byteful_any _ _).mono ?_; rintro e w' ⟨rfl, rfl⟩) | (go_at_call 64; refine (ipParse_any oa l c xs _ hl (HB.out.on (by ((try simp only [World.junk_junk, Array.append_assoc]); (repeat (first | with_reducible exact Junk.refl _ | with_reducible exact Junk.app _ _ _ _ _ | with_reducible exact Junk.app2 _ _ _ _ _ _ | with_reducible exact Junk.app3 _ _ _ _ _ _ _ | with_reducible exact Junk.app4 _ _ _ _ _ _ _ _ | with_reducible exact Junk.app5 _ _ _ _ _ _ _ _ _ | with_reducible apply Junk.alloc | with_reducible apply Junk.junk | with_reducible apply Junk.drew | with_reducible apply Junk.drewN)))))).mono ?_; intro e w' hp; obtain ⟨rfl, ⟨osj2, dj2, rfl⟩⟩ := hp.bad H0.out; clear hp))
        go_returns
        exact tellM_bad (by unfold tellErr; rw [if_neg (by simp [*]), if_pos H0.out]) H0.out (by ((try simp only [World.junk_junk, Array.append_assoc]); (repeat (first | with_reducible exact Junk.refl _ | with_reducible exact Junk.app _ _ _ _ _ | with_reducible exact Junk.app2 _ _ _ _ _ _ | with_reducible exact Junk.app3 _ _ _ _ _ _ _ | with_reducible exact Junk.app4 _ _ _ _ _ _ _ _ | with_reducible exact Junk.app5 _ _ _ _ _ _ _ _ _ | with_reducible apply Junk.alloc | with_reducible apply Junk.junk | with_reducible apply Junk.drew | with_reducible apply Junk.drewN))))
      obtain ⟨l1, l2, l3, l4⟩ := parse_len h0
      have hlc := HB.out.le
      obtain ⟨b, off, rfl, _, _⟩ := HB.out.at_ 0 (by omega)
      obtain ⟨Z, hZ⟩ : ∃ Z, Z = tellLen xs := ⟨_, rfl⟩
      have hZ2 : Z = 20 + (parseIp xs).ol + min 8 (parseIp xs).bl := hZ
      have hz : (20 : Int) + ((parseIp xs).ol : Int) + min 8 ((parseIp xs).bl : Int) = (Z : Int) := by omega
      have z1 : Z ≤ l := by omega
      have z2 : (Z : Int) ≤ (c : Int) := by omega
      have HZ := Lib.hid hZ
      have he : (parseErr xs l != 0) = false := by simp [h0]
      have H0 := Lib.hid h0
      clear h0 hZ hZ2 l1 l2 l3 l4
      cases m1 : ((parseIp xs).off != 0) with
      | true =>
        have HM := Lib.hid (show mute (parseIp xs) = true by simp [mute, m1])
        go_enter Try.func29, Try.ntmps29
        go_wp2_with (first | (go_at_call 62; refine (errors_any _ _).mono ?_; rintro e w' ⟨rfl, ⟨osj, dj, rfl⟩⟩) | (go_at_call 63; refine (byteful_any _ _).mono ?_; rintro e w' ⟨rfl, rfl⟩) | (go_at_call 64; (try simp only [World.junk_junk]); refine calls_gen (fun osA dA => ?_); refine (ipParse_any _ l c xs _ hl (HB.out.on (by ((try simp only [World.junk_junk, Array.append_assoc]); (repeat (first | with_reducible exact Junk.refl _ | with_reducible exact Junk.app _ _ _ _ _ | with_reducible exact Junk.app2 _ _ _ _ _ _ | with_reducible exact Junk.app3 _ _ _ _ _ _ _ | with_reducible exact Junk.app4 _ _ _ _ _ _ _ _ | with_reducible exact Junk.app5 _ _ _ _ _ _ _ _ _ | with_reducible apply Junk.alloc | with_reducible apply Junk.junk | with_reducible apply Junk.drew | with_reducible apply Junk.drewN)))))).mono ?_; intro e w' hp; obtain ⟨oo2, ob2, oc2, bc2, rfl, ⟨osj2, dj2, rfl⟩, hq⟩ := hp.ok H0.out; clear hp; clear hq))
        go_returns
        exact tellM_bad (by unfold tellErr; rw [if_neg (by simp [a1, a2]), if_neg (by simp [H0.out]), if_pos HM.out]) (by decide) (by ((try simp only [World.junk_junk, Array.append_assoc]); (repeat (first | with_reducible exact Junk.refl _ | with_reducible exact Junk.app _ _ _ _ _ | with_reducible exact Junk.app2 _ _ _ _ _ _ | with_reducible exact Junk.app3 _ _ _ _ _ _ _ | with_reducible exact Junk.app4 _ _ _ _ _ _ _ _ | with_reducible exact Junk.app5 _ _ _ _ _ _ _ _ _ | with_reducible apply Junk.alloc | with_reducible apply Junk.junk | with_reducible apply Junk.drew | with_reducible apply Junk.drewN))))
      | false =>
        cases m2 : ((parseIp xs).proto == 1) with
        | false =>
          have HM := Lib.hid (show mute (parseIp xs) = false by simp [mute, m1, m2])
          go_enter Try.func29, Try.ntmps29
          go_wp2_with (first | (go_at_call 62; refine (errors_any _ _).mono ?_; rintro e w' ⟨rfl, ⟨osj, dj, rfl⟩⟩) | (go_at_call 63; refine (byteful_any _ _).mono ?_; rintro e w' ⟨rfl, rfl⟩) | (go_at_call 64; (try simp only [World.junk_junk]); refine calls_gen (fun osA dA => ?_); refine (ipParse_any _ l c xs _ hl (HB.out.on (by ((try simp only [World.junk_junk, Array.append_assoc]); (repeat (first | with_reducible exact Junk.refl _ | with_reducible exact Junk.app _ _ _ _ _ | with_reducible exact Junk.app2 _ _ _ _ _ _ | with_reducible exact Junk.app3 _ _ _ _ _ _ _ | with_reducible exact Junk.app4 _ _ _ _ _ _ _ _ | with_reducible exact Junk.app5 _ _ _ _ _ _ _ _ _ | with_reducible apply Junk.alloc | with_reducible apply Junk.junk | with_reducible apply Junk.drew | with_reducible apply Junk.drewN)))))).mono ?_; intro e w' hp; obtain ⟨oo2, ob2, oc2, bc2, rfl, ⟨osj2, dj2, rfl⟩, hq⟩ := hp.ok H0.out; clear hp; clear hq) | (go_at_call 41; refine (clone_any _ Z c xs _ (by omega) ((bts_short HB.out Z (by omega)).on (by ((try simp only [World.junk_junk, Array.append_assoc]); (repeat (first | with_reducible exact Junk.refl _ | with_reducible exact Junk.app _ _ _ _ _ | with_reducible exact Junk.app2 _ _ _ _ _ _ | with_reducible exact Junk.app3 _ _ _ _ _ _ _ | with_reducible exact Junk.app4 _ _ _ _ _ _ _ _ | with_reducible exact Junk.app5 _ _ _ _ _ _ _ _ _ | with_reducible apply Junk.alloc | with_reducible apply Junk.junk | with_reducible apply Junk.drew | with_reducible apply Junk.drewN)))))).mono ?_; rintro e w' ⟨oc3, cc3, rfl, ⟨osc, dc, rfl⟩, hcb3, hcn, hcf⟩; (try simp only [World.junk_junk] at hcb3); have Hcb := Lib.hid hcb3; have Hcf := Lib.hid hcf; clear hcb3 hcn hcf))
          go_returns
          exact tellM_ok (by unfold tellErr; rw [if_neg (by simp [a1, a2]), if_neg (by simp [H0.out]), if_neg (by simp [HM.out])]) HZ.out (by ((try simp only [World.junk_junk, Array.append_assoc]); (repeat (first | with_reducible exact Junk.refl _ | with_reducible exact Junk.app _ _ _ _ _ | with_reducible exact Junk.app2 _ _ _ _ _ _ | with_reducible exact Junk.app3 _ _ _ _ _ _ _ | with_reducible exact Junk.app4 _ _ _ _ _ _ _ _ | with_reducible exact Junk.app5 _ _ _ _ _ _ _ _ _ | with_reducible apply Junk.alloc | with_reducible apply Junk.junk | with_reducible apply Junk.drew | with_reducible apply Junk.drewN)))) (bts_over2 (by simp) Hcb.out (Hcf.out.lower (by simp)) ⟨#[], by simp⟩)
        | true =>
          by_cases m3 : 0 < (parseIp xs).bl
          case neg =>
            have HM := Lib.hid (show mute (parseIp xs) = false by simp [mute, m1, m3])
            go_enter Try.func29, Try.ntmps29
            go_wp2_with (first | (go_at_call 62; refine (errors_any _ _).mono ?_; rintro e w' ⟨rfl, ⟨osj, dj, rfl⟩⟩) | (go_at_call 63; refine (byteful_any _ _).mono ?_; rintro e w' ⟨rfl, rfl⟩) | (go_at_call 64; (try simp only [World.junk_junk]); refine calls_gen (fun osA dA => ?_); refine (ipParse_any _ l c xs _ hl (HB.out.on (by ((try simp only [World.junk_junk, Array.append_assoc]); (repeat (first | with_reducible exact Junk.refl _ | with_reducible exact Junk.app _ _ _ _ _ | with_reducible exact Junk.app2 _ _ _ _ _ _ | with_reducible exact Junk.app3 _ _ _ _ _ _ _ | with_reducible exact Junk.app4 _ _ _ _ _ _ _ _ | with_reducible exact Junk.app5 _ _ _ _ _ _ _ _ _ | with_reducible apply Junk.alloc | with_reducible apply Junk.junk | with_reducible apply Junk.drew | with_reducible apply Junk.drewN)))))).mono ?_; intro e w' hp; obtain ⟨oo2, ob2, oc2, bc2, rfl, ⟨osj2, dj2, rfl⟩, hq⟩ := hp.ok H0.out; clear hp; clear hq) | (go_at_call 41; refine (clone_any _ Z c xs _ (by omega) ((bts_short HB.out Z (by omega)).on (by ((try simp only [World.junk_junk, Array.append_assoc]); (repeat (first | with_reducible exact Junk.refl _ | with_reducible exact Junk.app _ _ _ _ _ | with_reducible exact Junk.app2 _ _ _ _ _ _ | with_reducible exact Junk.app3 _ _ _ _ _ _ _ | with_reducible exact Junk.app4 _ _ _ _ _ _ _ _ | with_reducible exact Junk.app5 _ _ _ _ _ _ _ _ _ | with_reducible apply Junk.alloc | with_reducible apply Junk.junk | with_reducible apply Junk.drew | with_reducible apply Junk.drewN)))))).mono ?_; rintro e w' ⟨oc3, cc3, rfl, ⟨osc, dc, rfl⟩, hcb3, hcn, hcf⟩; (try simp only [World.junk_junk] at hcb3); have Hcb := Lib.hid hcb3; have Hcf := Lib.hid hcf; clear hcb3 hcn hcf))
            go_returns
            exact tellM_ok (by unfold tellErr; rw [if_neg (by simp [a1, a2]), if_neg (by simp [H0.out]), if_neg (by simp [HM.out])]) HZ.out (by ((try simp only [World.junk_junk, Array.append_assoc]); (repeat (first | with_reducible exact Junk.refl _ | with_reducible exact Junk.app _ _ _ _ _ | with_reducible exact Junk.app2 _ _ _ _ _ _ | with_reducible exact Junk.app3 _ _ _ _ _ _ _ | with_reducible exact Junk.app4 _ _ _ _ _ _ _ _ | with_reducible exact Junk.app5 _ _ _ _ _ _ _ _ _ | with_reducible apply Junk.alloc | with_reducible apply Junk.junk | with_reducible apply Junk.drew | with_reducible apply Junk.drewN)))) (bts_over2 (by simp) Hcb.out (Hcf.out.lower (by simp)) ⟨#[], by simp⟩)
          have m3' : (0 : Int) < ((parseIp xs).bl : Int) := by omega
          cases m4 : errorB ((parseIp xs).body 0) with
          | true =>
            have HM := Lib.hid (show mute (parseIp xs) = true by simp [mute, m2, m3, m4])
            go_enter Try.func29, Try.ntmps29
            go_wp2_with (first | (go_at_call 62; refine (errors_any _ _).mono ?_; rintro e w' ⟨rfl, ⟨osj, dj, rfl⟩⟩) | (go_at_call 63; refine (byteful_any _ _).mono ?_; rintro e w' ⟨rfl, rfl⟩) | (go_at_call 64; (try simp only [World.junk_junk]); refine calls_gen (fun osA dA => ?_); refine (ipParse_any _ l c xs _ hl (HB.out.on (by ((try simp only [World.junk_junk, Array.append_assoc]); (repeat (first | with_reducible exact Junk.refl _ | with_reducible exact Junk.app _ _ _ _ _ | with_reducible exact Junk.app2 _ _ _ _ _ _ | with_reducible exact Junk.app3 _ _ _ _ _ _ _ | with_reducible exact Junk.app4 _ _ _ _ _ _ _ _ | with_reducible exact Junk.app5 _ _ _ _ _ _ _ _ _ | with_reducible apply Junk.alloc | with_reducible apply Junk.junk | with_reducible apply Junk.drew | with_reducible apply Junk.drewN)))))).mono ?_; intro e w' hp; obtain ⟨oo2, ob2, oc2, bc2, rfl, ⟨osj2, dj2, rfl⟩, hq⟩ := hp.ok H0.out; clear hp; obtain ⟨hbb, hbb2⟩ := hq.body.byte 0 (by omega); have hww := wrapk_i64 ((parseIp xs).body 0) hbb (by omega); obtain ⟨gb, go, rfl, hgl, hcb⟩ := hq.body.at_ 0 (by omega); simp only [World.junk_junk, Nat.add_zero] at hgl hcb; simp only [World.size_junk, World.size_alloc, Array.size_append] at hgl; clear hq))
            go_returns
            exact tellM_bad (by unfold tellErr; rw [if_neg (by simp [a1, a2]), if_neg (by simp [H0.out]), if_pos HM.out]) (by decide) (by ((try simp only [World.junk_junk, Array.append_assoc]); (repeat (first | with_reducible exact Junk.refl _ | with_reducible exact Junk.app _ _ _ _ _ | with_reducible exact Junk.app2 _ _ _ _ _ _ | with_reducible exact Junk.app3 _ _ _ _ _ _ _ | with_reducible exact Junk.app4 _ _ _ _ _ _ _ _ | with_reducible exact Junk.app5 _ _ _ _ _ _ _ _ _ | with_reducible apply Junk.alloc | with_reducible apply Junk.junk | with_reducible apply Junk.drew | with_reducible apply Junk.drewN))))
          | false =>
            have HM := Lib.hid (show mute (parseIp xs) = false by simp [mute, m1, m4])
            go_enter Try.func29, Try.ntmps29
            go_wp2_with (first | (go_at_call 62; refine (errors_any _ _).mono ?_; rintro e w' ⟨rfl, ⟨osj, dj, rfl⟩⟩) | (go_at_call 63; refine (byteful_any _ _).mono ?_; rintro e w' ⟨rfl, rfl⟩) | (go_at_call 64; (try simp only [World.junk_junk]); refine calls_gen (fun osA dA => ?_); refine (ipParse_any _ l c xs _ hl (HB.out.on (by ((try simp only [World.junk_junk, Array.append_assoc]); (repeat (first | with_reducible exact Junk.refl _ | with_reducible exact Junk.app _ _ _ _ _ | with_reducible exact Junk.app2 _ _ _ _ _ _ | with_reducible exact Junk.app3 _ _ _ _ _ _ _ | with_reducible exact Junk.app4 _ _ _ _ _ _ _ _ | with_reducible exact Junk.app5 _ _ _ _ _ _ _ _ _ | with_reducible apply Junk.alloc | with_reducible apply Junk.junk | with_reducible apply Junk.drew | with_reducible apply Junk.drewN)))))).mono ?_; intro e w' hp; obtain ⟨oo2, ob2, oc2, bc2, rfl, ⟨osj2, dj2, rfl⟩, hq⟩ := hp.ok H0.out; clear hp; obtain ⟨hbb, hbb2⟩ := hq.body.byte 0 (by omega); have hww := wrapk_i64 ((parseIp xs).body 0) hbb (by omega); obtain ⟨gb, go, rfl, hgl, hcb⟩ := hq.body.at_ 0 (by omega); simp only [World.junk_junk, Nat.add_zero] at hgl hcb; simp only [World.size_junk, World.size_alloc, Array.size_append] at hgl; clear hq) | (go_at_call 41; refine (clone_any _ Z c xs _ (by omega) ((bts_short HB.out Z (by omega)).on (by ((try simp only [World.junk_junk, Array.append_assoc]); (repeat (first | with_reducible exact Junk.refl _ | with_reducible exact Junk.app _ _ _ _ _ | with_reducible exact Junk.app2 _ _ _ _ _ _ | with_reducible exact Junk.app3 _ _ _ _ _ _ _ | with_reducible exact Junk.app4 _ _ _ _ _ _ _ _ | with_reducible exact Junk.app5 _ _ _ _ _ _ _ _ _ | with_reducible apply Junk.alloc | with_reducible apply Junk.junk | with_reducible apply Junk.drew | with_reducible apply Junk.drewN)))))).mono ?_; rintro e w' ⟨oc3, cc3, rfl, ⟨osc, dc, rfl⟩, hcb3, hcn, hcf⟩; (try simp only [World.junk_junk] at hcb3); have Hcb := Lib.hid hcb3; have Hcf := Lib.hid hcf; clear hcb3 hcn hcf))
            go_returns
            exact tellM_ok (by unfold tellErr; rw [if_neg (by simp [a1, a2]), if_neg (by simp [H0.out]), if_neg (by simp [HM.out])]) HZ.out (by ((try simp only [World.junk_junk, Array.append_assoc]); (repeat (first | with_reducible exact Junk.refl _ | with_reducible exact Junk.app _ _ _ _ _ | with_reducible exact Junk.app2 _ _ _ _ _ _ | with_reducible exact Junk.app3 _ _ _ _ _ _ _ | with_reducible exact Junk.app4 _ _ _ _ _ _ _ _ | with_reducible exact Junk.app5 _ _ _ _ _ _ _ _ _ | with_reducible apply Junk.alloc | with_reducible apply Junk.junk | with_reducible apply Junk.drew | with_reducible apply Junk.drewN)))) (bts_over2 (by simp) Hcb.out (Hcf.out.lower (by simp)) ⟨#[], by simp⟩)
end Go.Proofs.Ytnefphinmjeacaa
