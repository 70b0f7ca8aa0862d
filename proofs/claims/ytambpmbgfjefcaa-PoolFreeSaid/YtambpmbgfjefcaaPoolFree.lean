/- The law PoolFree: what is chosen is in the span, and free; it is the wished one, if that is free; of its parity, if there is a free one of it; where one is free one is chosen. -/
import Derived.Test.YtambpmbgfjefcaaPoolF
set_option linter.unusedVariables false
set_option maxRecDepth 100000
set_option linter.unusedSimpArgs false
namespace Go.Proofs.Ytambpmbgfjefcaa
open Go.RowKit
set_option maxHeartbeats 4000000 in
theorem poolFree_walk (a b : Nat) (oa : Option Addr) (l c : Nat) (xs : Nat → Int) (wish : Int) (D : Nat) (w : World) (hr : rightB a b = true) (hl : l ≤ 100) (hD : D < 4294967296) (hS : IntsAt w oa l .i64 xs) (hnil : oa = none → l = 0 ∧ c = 0) (hwi : -9223372036854775808 ≤ wish ∧ wish ≤ 9223372036854775807) (hsp : (b : Int) - a ≤ 300) :
    Calls Try.prog 4 #[.int .i64 (a : Int), .int .i64 (b : Int), .slice oa l c, .int .i64 wish, .int .u32 (D : Int)] w fun e w' => e = .returned (.bool true) ∧ Junk w w' := by
  have HS := Lib.hid hS
  have HN := Lib.hid hnil
  clear hS hnil
  have hr2 : 1 ≤ (a : Int) ∧ (a : Int) ≤ b ∧ (b : Int) ≤ 65535 := by simpa [rightB] using hr
  obtain ⟨r1, r2, r3⟩ := hr2
  have hsh : short16 a b l = true := by simp [short16, hl, hsp]
  obtain ⟨F, hF⟩ : ∃ F, F = poolFree a b xs l := ⟨_, rfl⟩
  have hok := choose_ok (D := D) (l := l) (xs := xs) (wish := wish) hr
  rw [← hF] at hok
  by_cases hF0 : 0 < F
  case neg =>
    have hV : poolChoose a b xs l wish D = ((0 : Int), false) := choose_no (by rw [hok]; simpa using hF0)
    have hF : poolFree a b xs l = 0 := by omega
    have HC := Lib.hid hV
    have HF := Lib.hid hF
    have HR := Lib.hid hr
    have HSH := Lib.hid hsh
    clear hV hok hF0 hF hr hsh
    go_enter Try.func4, Try.ntmps4
    go_wp2_with (first | (go_at_call 10; refine (awake16_any _).mono ?_; rintro e w' ⟨rfl, ⟨osj, dj, rfl⟩⟩) | (go_at_call 11; refine (short16_any (a : Int) (b : Int) oa l c _ (by omega) (by omega)).mono ?_; rintro e w' ⟨rfl, rfl⟩; rw [HSH.out]) | (go_at_call 14; refine (right_any (a : Int) (b : Int) _).mono ?_; rintro e w' ⟨rfl, rfl⟩; rw [HR.out]) | (go_at_call 12; refine (choose_any (a : Int) (b : Int) oa l c xs wish D _ (by omega) hD (HS.out.on (by ((try simp only [World.junk_junk, Array.append_assoc]); (repeat (first | with_reducible exact Junk.refl _ | with_reducible exact Junk.app _ _ _ _ _ | with_reducible exact Junk.app2 _ _ _ _ _ _ | with_reducible exact Junk.app3 _ _ _ _ _ _ _ | with_reducible exact Junk.app4 _ _ _ _ _ _ _ _ | with_reducible exact Junk.app5 _ _ _ _ _ _ _ _ _ | with_reducible apply Junk.alloc | with_reducible apply Junk.junk | with_reducible apply Junk.drew | with_reducible apply Junk.drewN)))))).mono ?_; rintro e w' ⟨rfl, ⟨osj2, dj2, rfl⟩⟩; rw [HC.out]) | (go_at_call 16; refine (poolFree_any (a : Int) (b : Int) oa l c xs _ (by omega) (HS.out.on (by ((try simp only [World.junk_junk, Array.append_assoc]); (repeat (first | with_reducible exact Junk.refl _ | with_reducible exact Junk.app _ _ _ _ _ | with_reducible exact Junk.app2 _ _ _ _ _ _ | with_reducible exact Junk.app3 _ _ _ _ _ _ _ | with_reducible exact Junk.app4 _ _ _ _ _ _ _ _ | with_reducible exact Junk.app5 _ _ _ _ _ _ _ _ _ | with_reducible apply Junk.alloc | with_reducible apply Junk.junk | with_reducible apply Junk.drew | with_reducible apply Junk.drewN)))))).mono ?_; rintro e w' ⟨rfl, ⟨osj3, dj3, rfl⟩⟩; rw [HF.out]))
    go_ret
    exact ⟨ret_bool rfl, by ((try simp only [World.junk_junk, Array.append_assoc]); (repeat (first | with_reducible exact Junk.refl _ | with_reducible exact Junk.app _ _ _ _ _ | with_reducible exact Junk.app2 _ _ _ _ _ _ | with_reducible exact Junk.app3 _ _ _ _ _ _ _ | with_reducible exact Junk.app4 _ _ _ _ _ _ _ _ | with_reducible exact Junk.app5 _ _ _ _ _ _ _ _ _ | with_reducible apply Junk.alloc | with_reducible apply Junk.junk | with_reducible apply Junk.drew | with_reducible apply Junk.drewN)))⟩
  have hok' : (poolChoose a b xs l wish D).2 = true := by rw [hok]; simpa using hF0
  obtain ⟨P, hp1, hp2, hp3, hp4⟩ := choose_free hr hok'
  have hC : poolChoose a b xs l wish D = ((P : Int), true) := Prod.ext hp1 hok'
  have HPAR := Lib.hid (fun q h1 h2 h3 => choose_par (q := q) hr hC h1 h2 h3)
  have HC := Lib.hid hC
  have HT := Lib.hid (taken_none hp2 hp3 hp4)
  have HF2 := Lib.hid (poolFree_more (ys := addP xs l P) hr hp2 hp3 hp4 (fun i hi => by simp [addP]; omega) (by simp [addP]))
  have HF := Lib.hid hF
  have HR := Lib.hid hr
  have HSH := Lib.hid hsh
  have hFi : (0 : Int) < (F : Int) := by omega
  have g1 : ¬ (P : Int) < (a : Int) := by omega
  have g2 : ¬ (b : Int) < (P : Int) := by omega
  have HFF := Lib.hid (show poolFree a b (addP xs l P) (l + 1) = F - 1 from nat_sub2 (HF2.out.trans hF.symm))
  obtain ⟨F1, hF1⟩ : ∃ F1, F1 = F - 1 := ⟨_, rfl⟩
  have hF1b : F1 ≤ 65536 := nat_sub1 hF1 (by rw [hF]; exact Nat.le_trans (poolFree_le a b l xs) (by omega))
  have hF1w : wrap64 (F1 : Int) = (F1 : Int) := wrap64_nat F1 hF1b
  have hF1i : (F : Int) - 1 = (F1 : Int) := cast_sub1 hF1 hF0
  rw [← hF1] at HFF
  clear hC hok hok' hF hr hsh hp1 hp4 HF2 hF1
  go_enter Try.func4, Try.ntmps4
  go_wp2_with (first | (go_at_call 10; refine (awake16_any _).mono ?_; rintro e w' ⟨rfl, ⟨osj, dj, rfl⟩⟩) | (go_at_call 11; refine (short16_any (a : Int) (b : Int) oa l c _ (by omega) (by omega)).mono ?_; rintro e w' ⟨rfl, rfl⟩; rw [HSH.out]) | (go_at_call 14; refine (right_any (a : Int) (b : Int) _).mono ?_; rintro e w' ⟨rfl, rfl⟩; rw [HR.out]) | (go_at_call 12; refine (choose_any (a : Int) (b : Int) oa l c xs wish D _ (by omega) hD (HS.out.on (by ((try simp only [World.junk_junk, Array.append_assoc]); (repeat (first | with_reducible exact Junk.refl _ | with_reducible exact Junk.app _ _ _ _ _ | with_reducible exact Junk.app2 _ _ _ _ _ _ | with_reducible exact Junk.app3 _ _ _ _ _ _ _ | with_reducible exact Junk.app4 _ _ _ _ _ _ _ _ | with_reducible exact Junk.app5 _ _ _ _ _ _ _ _ _ | with_reducible apply Junk.alloc | with_reducible apply Junk.junk | with_reducible apply Junk.drew | with_reducible apply Junk.drewN)))))).mono ?_; rintro e w' ⟨rfl, ⟨osj2, dj2, rfl⟩⟩; rw [HC.out]) | (go_at_call 16; refine (poolFree_any (a : Int) (b : Int) oa l c xs _ (by omega) (HS.out.on (by ((try simp only [World.junk_junk, Array.append_assoc]); (repeat (first | with_reducible exact Junk.refl _ | with_reducible exact Junk.app _ _ _ _ _ | with_reducible exact Junk.app2 _ _ _ _ _ _ | with_reducible exact Junk.app3 _ _ _ _ _ _ _ | with_reducible exact Junk.app4 _ _ _ _ _ _ _ _ | with_reducible exact Junk.app5 _ _ _ _ _ _ _ _ _ | with_reducible apply Junk.alloc | with_reducible apply Junk.junk | with_reducible apply Junk.drew | with_reducible apply Junk.drewN)))))).mono ?_; rintro e w' ⟨rfl, ⟨osj3, dj3, rfl⟩⟩; rw [← HF.out]))
  go_loopw [13] (fun i wr => ∃ m : Nat, i = .int .i64 (m : Int) ∧ Junk w wr ∧ m ≤ l) (fun i _ => l + 1 - (intOf i).toNat)
  case atStart => exact ⟨0, rfl, by ((try simp only [World.junk_junk, Array.append_assoc]); (repeat (first | with_reducible exact Junk.refl _ | with_reducible exact Junk.app _ _ _ _ _ | with_reducible exact Junk.app2 _ _ _ _ _ _ | with_reducible exact Junk.app3 _ _ _ _ _ _ _ | with_reducible exact Junk.app4 _ _ _ _ _ _ _ _ | with_reducible exact Junk.app5 _ _ _ _ _ _ _ _ _ | with_reducible apply Junk.alloc | with_reducible apply Junk.junk | with_reducible apply Junk.drew | with_reducible apply Junk.drewN))), by omega⟩
  case round =>
    obtain ⟨m, rfl, ⟨os, d, rfl⟩, hm⟩ := hrel
    by_cases hml : m < l
    · have hml2 : (m : Int) < (l : Int) := by omega
      have hne : (xs m == (P : Int)) = false := by have := HT.out m hml; simpa using this
      obtain ⟨g, off, rfl, hg, hcm⟩ := HS.out m hml
      go_wp2
      exact ⟨⟨m + 1, by go_num, by ((try simp only [World.junk_junk, Array.append_assoc]); (repeat (first | with_reducible exact Junk.refl _ | with_reducible exact Junk.app _ _ _ _ _ | with_reducible exact Junk.app2 _ _ _ _ _ _ | with_reducible exact Junk.app3 _ _ _ _ _ _ _ | with_reducible exact Junk.app4 _ _ _ _ _ _ _ _ | with_reducible exact Junk.app5 _ _ _ _ _ _ _ _ _ | with_reducible apply Junk.alloc | with_reducible apply Junk.junk | with_reducible apply Junk.drew | with_reducible apply Junk.drewN))), by omega⟩, by simp [intOf]; omega⟩
    · have hml2 : ¬ (m : Int) < (l : Int) := by omega
      clear hm hml
      have hsm := wrap_par ((P : Int) - wish)
      obtain ⟨sm, hsm2⟩ : ∃ sm, sm = (((P : Int) - wish) % 2 == 0) := ⟨_, rfl⟩
      rw [← hsm2] at hsm
      have HSM := Lib.hid hsm2
      clear hsm2
      go_wp2_with (first
        | (at_builtin; (refine ap_own (W0 := w.junk os d) rfl _ _ 22 rfl 3 (.int .i64 0) 1 8 (by kernel_rfl) rfl (by decide) Try.underlying22 (by ((try simp only [World.junk_junk, Array.append_assoc]); (repeat (first | with_reducible exact Junk.refl _ | with_reducible exact Junk.app _ _ _ _ _ | with_reducible exact Junk.app2 _ _ _ _ _ _ | with_reducible exact Junk.app3 _ _ _ _ _ _ _ | with_reducible exact Junk.app4 _ _ _ _ _ _ _ _ | with_reducible exact Junk.app5 _ _ _ _ _ _ _ _ _ | with_reducible apply Junk.alloc | with_reducible apply Junk.junk | with_reducible apply Junk.drew | with_reducible apply Junk.drewN)))) _ 0 0 [] rfl (own_mk _ _ 1 0 _ _ (by simp) (by simp) (by decide) (by simp)) oa l c rfl (intsL l xs) (by simp [intsL]) (IntsAt.src (HS.out.on (by ((try simp only [World.junk_junk, Array.append_assoc]); (repeat (first | with_reducible exact Junk.refl _ | with_reducible exact Junk.app _ _ _ _ _ | with_reducible exact Junk.app2 _ _ _ _ _ _ | with_reducible exact Junk.app3 _ _ _ _ _ _ _ | with_reducible exact Junk.app4 _ _ _ _ _ _ _ _ | with_reducible exact Junk.app5 _ _ _ _ _ _ _ _ _ | with_reducible apply Junk.alloc | with_reducible apply Junk.junk | with_reducible apply Junk.drew | with_reducible apply Junk.drewN)))))) HN.out (by simp [intsL, Value.oneCell']) (by simp only [maxLen]; omega) (by omega) ?_; intro oa1 cap1 os1 d1 hown _; rw [List.nil_append, Nat.zero_add] at hown; have Hown := Lib.hid hown; clear hown))
        | (at_builtin; (refine ap_own (W0 := w.junk os d) rfl _ _ 22 rfl 3 (.int .i64 0) 1 8 (by kernel_rfl) rfl (by decide) Try.underlying22 (by ((try simp only [World.junk_junk, Array.append_assoc]); (repeat (first | with_reducible exact Junk.refl _ | with_reducible exact Junk.app _ _ _ _ _ | with_reducible exact Junk.app2 _ _ _ _ _ _ | with_reducible exact Junk.app3 _ _ _ _ _ _ _ | with_reducible exact Junk.app4 _ _ _ _ _ _ _ _ | with_reducible exact Junk.app5 _ _ _ _ _ _ _ _ _ | with_reducible apply Junk.alloc | with_reducible apply Junk.junk | with_reducible apply Junk.drew | with_reducible apply Junk.drewN)))) oa1 cap1 l (intsL l xs) rfl (Hown.out.on (by ((try simp only [World.junk_junk, Array.append_assoc]); (repeat (first | with_reducible exact Junk.refl _ | with_reducible exact Junk.app _ _ _ _ _ | with_reducible exact Junk.app2 _ _ _ _ _ _ | with_reducible exact Junk.app3 _ _ _ _ _ _ _ | with_reducible exact Junk.app4 _ _ _ _ _ _ _ _ | with_reducible exact Junk.app5 _ _ _ _ _ _ _ _ _ | with_reducible apply Junk.alloc | with_reducible apply Junk.junk | with_reducible apply Junk.drew | with_reducible apply Junk.drewN))))) _ 1 1 rfl [_] rfl (built_cells (by simp)) (fun h => by cases h) (by simp [Value.oneCell']) (by simp only [maxLen]; omega) (by omega) ?_; intro oa2 cap2 os2 d2 hown2 _; rw [intsL_add] at hown2; have Hown2 := Lib.hid hown2; clear hown2))
        | (go_at_call 16; first | ((with_reducible refine (poolFree_any (a : Int) (b : Int) oa l c xs _ (by omega) (HS.out.on (by ((try simp only [World.junk_junk, Array.append_assoc]); (repeat (first | with_reducible exact Junk.refl _ | with_reducible exact Junk.app _ _ _ _ _ | with_reducible exact Junk.app2 _ _ _ _ _ _ | with_reducible exact Junk.app3 _ _ _ _ _ _ _ | with_reducible exact Junk.app4 _ _ _ _ _ _ _ _ | with_reducible exact Junk.app5 _ _ _ _ _ _ _ _ _ | with_reducible apply Junk.alloc | with_reducible apply Junk.junk | with_reducible apply Junk.drew | with_reducible apply Junk.drewN)))))).mono ?_); rintro e w' ⟨rfl, ⟨osj3, dj3, rfl⟩⟩; rw [← HF.out]) | ((with_reducible refine (poolFree_any (a : Int) (b : Int) oa2 (l + 1) cap2 (addP xs l P) _ (by omega) (own_intsAt (Hown2.out.on (by ((try simp only [World.junk_junk, Array.append_assoc]); (repeat (first | with_reducible exact Junk.refl _ | with_reducible exact Junk.app _ _ _ _ _ | with_reducible exact Junk.app2 _ _ _ _ _ _ | with_reducible exact Junk.app3 _ _ _ _ _ _ _ | with_reducible exact Junk.app4 _ _ _ _ _ _ _ _ | with_reducible exact Junk.app5 _ _ _ _ _ _ _ _ _ | with_reducible apply Junk.alloc | with_reducible apply Junk.junk | with_reducible apply Junk.drew | with_reducible apply Junk.drewN))))))).mono ?_); rintro e w' ⟨rfl, ⟨osj4, dj4, rfl⟩⟩; rw [HFF.out])))
      clear hsm
      go_loopw [15] (fun i wr => ∃ q : Nat, i = .int .i64 (q : Int) ∧ Junk w wr ∧ a ≤ q ∧ q ≤ b + 1) (fun i _ => b + 2 - (intOf i).toNat)
      case atStart => exact ⟨a, rfl, by ((try simp only [World.junk_junk, Array.append_assoc]); (repeat (first | with_reducible exact Junk.refl _ | with_reducible exact Junk.app _ _ _ _ _ | with_reducible exact Junk.app2 _ _ _ _ _ _ | with_reducible exact Junk.app3 _ _ _ _ _ _ _ | with_reducible exact Junk.app4 _ _ _ _ _ _ _ _ | with_reducible exact Junk.app5 _ _ _ _ _ _ _ _ _ | with_reducible apply Junk.alloc | with_reducible apply Junk.junk | with_reducible apply Junk.drew | with_reducible apply Junk.drewN))), by omega, by omega⟩
      case round =>
        obtain ⟨q, rfl, ⟨os, d, rfl⟩, hq1, hq2⟩ := hrel
        by_cases hle : q ≤ b
        · have hle2 : (q : Int) ≤ (b : Int) := by omega
          go_wp2
          go_loopw [16, 17] (fun f i wr => ∃ j : Nat, f = .bool (freeK true xs q j) ∧ i = .int .i64 (j : Int) ∧ wr = w.junk os d ∧ j ≤ l) (fun _ i _ => l + 1 - (intOf i).toNat)
          case atStart => exact ⟨0, by simp [freeK], rfl, by first | rfl | trivial, by omega⟩
          case round =>
            obtain ⟨j, rfl, rfl, rfl, hj⟩ := hrel
            by_cases hjm : j < l
            · have hj2 : (j : Int) < (l : Int) := by omega
              obtain ⟨bb, off, rfl, hblk, hc⟩ := HS.out j hjm
              have hk := freeK_succ true xs q j
              cases hf : freeK true xs q j with
              | false =>
                rw [hf] at hk
                go_wp2
                exact ⟨⟨j + 1, by rw [hk]; rfl, by go_num, by first | rfl | trivial, by omega⟩, by simp [intOf]; omega⟩
              | true =>
                rw [hf] at hk
                go_wp2
                exact ⟨⟨j + 1, by rw [hk]; simp, by go_num, by first | rfl | trivial, by omega⟩, by simp [intOf]; omega⟩
            · have hj2 : ¬ (j : Int) < (l : Int) := by omega
              obtain rfl : l = j := by omega
              cases hf : freeK true xs q l with
              | false =>
                go_wp2
                exact ⟨⟨q + 1, by go_num, by ((try simp only [World.junk_junk, Array.append_assoc]); (repeat (first | with_reducible exact Junk.refl _ | with_reducible exact Junk.app _ _ _ _ _ | with_reducible exact Junk.app2 _ _ _ _ _ _ | with_reducible exact Junk.app3 _ _ _ _ _ _ _ | with_reducible exact Junk.app4 _ _ _ _ _ _ _ _ | with_reducible exact Junk.app5 _ _ _ _ _ _ _ _ _ | with_reducible apply Junk.alloc | with_reducible apply Junk.junk | with_reducible apply Junk.drew | with_reducible apply Junk.drewN))), by omega, by omega⟩, by simp [intOf]; omega⟩
              | true =>
                have htk : takenB a b xs l q = false := by rw [freeK_taken (a := a) (b := b) hq1 hle] at hf; simpa using hf
                obtain ⟨p1, p2⟩ := HPAR.out q hq1 hle htk
                have hsq := wrap_par ((q : Int) - wish)
                by_cases hqw : (q : Int) = wish
                · have e1 : ((q : Int) == wish) = true := by simpa using hqw
                  have e2 : ((P : Int) != wish) = false := by simpa using p1 hqw
                  have e3 : sm = true := by rw [HSM.out]; have := p1 hqw; simp; omega
                  have e4 : (((q : Int) - wish) % 2 == 0) = true := by simp; omega
                  rw [e4] at hsq
                  clear p1 p2 hqw
                  subst e3
                  go_wp2
                  exact ⟨⟨q + 1, by go_num, by ((try simp only [World.junk_junk, Array.append_assoc]); (repeat (first | with_reducible exact Junk.refl _ | with_reducible exact Junk.app _ _ _ _ _ | with_reducible exact Junk.app2 _ _ _ _ _ _ | with_reducible exact Junk.app3 _ _ _ _ _ _ _ | with_reducible exact Junk.app4 _ _ _ _ _ _ _ _ | with_reducible exact Junk.app5 _ _ _ _ _ _ _ _ _ | with_reducible apply Junk.alloc | with_reducible apply Junk.junk | with_reducible apply Junk.drew | with_reducible apply Junk.drewN))), by omega, by omega⟩, by simp [intOf]; omega⟩
                · have e1 : ((q : Int) == wish) = false := by simpa using hqw
                  by_cases hp : (q : Int) % 2 = wish % 2
                  · have e3 : sm = true := by rw [HSM.out]; have := p2 hp; simp; omega
                    have e4 : (((q : Int) - wish) % 2 == 0) = true := by simp; omega
                    rw [e4] at hsq
                    clear p1 p2 hqw hp
                    subst e3
                    go_wp2
                    exact ⟨⟨q + 1, by go_num, by ((try simp only [World.junk_junk, Array.append_assoc]); (repeat (first | with_reducible exact Junk.refl _ | with_reducible exact Junk.app _ _ _ _ _ | with_reducible exact Junk.app2 _ _ _ _ _ _ | with_reducible exact Junk.app3 _ _ _ _ _ _ _ | with_reducible exact Junk.app4 _ _ _ _ _ _ _ _ | with_reducible exact Junk.app5 _ _ _ _ _ _ _ _ _ | with_reducible apply Junk.alloc | with_reducible apply Junk.junk | with_reducible apply Junk.drew | with_reducible apply Junk.drewN))), by omega, by omega⟩, by simp [intOf]; omega⟩
                  · have e4 : (((q : Int) - wish) % 2 == 0) = false := by simp; omega
                    rw [e4] at hsq
                    clear p1 p2 hqw hp
                    go_wp2
                    exact ⟨⟨q + 1, by go_num, by ((try simp only [World.junk_junk, Array.append_assoc]); (repeat (first | with_reducible exact Junk.refl _ | with_reducible exact Junk.app _ _ _ _ _ | with_reducible exact Junk.app2 _ _ _ _ _ _ | with_reducible exact Junk.app3 _ _ _ _ _ _ _ | with_reducible exact Junk.app4 _ _ _ _ _ _ _ _ | with_reducible exact Junk.app5 _ _ _ _ _ _ _ _ _ | with_reducible apply Junk.alloc | with_reducible apply Junk.junk | with_reducible apply Junk.drew | with_reducible apply Junk.drewN))), by omega, by omega⟩, by simp [intOf]; omega⟩
        · have hle2 : ¬ (q : Int) ≤ (b : Int) := by omega
          go_wp2
          go_ret
          exact ⟨ret_bool rfl, by ((try simp only [World.junk_junk, Array.append_assoc]); (repeat (first | with_reducible exact Junk.refl _ | with_reducible exact Junk.app _ _ _ _ _ | with_reducible exact Junk.app2 _ _ _ _ _ _ | with_reducible exact Junk.app3 _ _ _ _ _ _ _ | with_reducible exact Junk.app4 _ _ _ _ _ _ _ _ | with_reducible exact Junk.app5 _ _ _ _ _ _ _ _ _ | with_reducible apply Junk.alloc | with_reducible apply Junk.junk | with_reducible apply Junk.drew | with_reducible apply Junk.drewN)))⟩
theorem poolFree_core (W : World) (base : Nat) (v0 v1 v2 v3 v4 : Value) (a0 : Arg Try.prog W base 3 v0) (a1 : Arg Try.prog W base 3 v1) (a2 : Arg Try.prog W base 22 v2) (a3 : Arg Try.prog W base 3 v3) (a4 : Arg Try.prog W base 23 v4) :
    Calls Try.prog 4 #[v0, v1, v2, v3, v4] W fun e W' => e = .returned (.bool true) ∧ Junk W W' := by
  obtain ⟨lo, rfl, w_lo⟩ := a0.int Try.underlying3
  obtain ⟨hi, rfl, w_hi⟩ := a1.int Try.underlying3
  have f_taken := a2.slice Try.underlying22
  obtain ⟨taken_a, taken_l, taken_c, taken, e_taken, lc_taken, cm_taken, S_taken, w_taken⟩ := f_taken.ints Try.underlying22 Try.underlying3 (by kernel_rfl); cases e_taken
  obtain ⟨wish, rfl, w_wish⟩ := a3.int Try.underlying3
  obtain ⟨draw, rfl, w_draw⟩ := a4.int Try.underlying23
  have b_lo := bounds_i64 w_lo
  have b_hi := bounds_i64 w_hi
  have b_wish := bounds_i64 w_wish
  have b_draw := bounds_u32 w_draw
  obtain ⟨D, rfl⟩ : ∃ D : Nat, draw = (D : Int) := ⟨draw.toNat, by omega⟩
  cases hsh : short16 lo hi taken_l with
  | false =>
    go_enter Try.func4, Try.ntmps4
    go_wp2_with (first | (go_at_call 10; refine (awake16_any _).mono ?_; rintro e w' ⟨rfl, ⟨osj, dj, rfl⟩⟩) | (go_at_call 11; refine (short16_any lo hi taken_a taken_l taken_c _ b_lo b_hi).mono ?_; rintro e w' ⟨rfl, rfl⟩; rw [hsh]) | (go_at_call 14; refine (right_any lo hi _).mono ?_; rintro e w' ⟨rfl, rfl⟩))
    go_ret
    exact ⟨ret_bool rfl, by ((try simp only [World.junk_junk, Array.append_assoc]); (repeat (first | with_reducible exact Junk.refl _ | with_reducible exact Junk.app _ _ _ _ _ | with_reducible exact Junk.app2 _ _ _ _ _ _ | with_reducible exact Junk.app3 _ _ _ _ _ _ _ | with_reducible exact Junk.app4 _ _ _ _ _ _ _ _ | with_reducible exact Junk.app5 _ _ _ _ _ _ _ _ _ | with_reducible apply Junk.alloc | with_reducible apply Junk.junk | with_reducible apply Junk.drew | with_reducible apply Junk.drewN)))⟩
  | true =>
    cases hr : rightB lo hi with
    | false =>
      go_enter Try.func4, Try.ntmps4
      go_wp2_with (first | (go_at_call 10; refine (awake16_any _).mono ?_; rintro e w' ⟨rfl, ⟨osj, dj, rfl⟩⟩) | (go_at_call 11; refine (short16_any lo hi taken_a taken_l taken_c _ b_lo b_hi).mono ?_; rintro e w' ⟨rfl, rfl⟩; rw [hsh]) | (go_at_call 14; refine (right_any lo hi _).mono ?_; rintro e w' ⟨rfl, rfl⟩; rw [hr]))
      go_ret
      exact ⟨ret_bool rfl, by ((try simp only [World.junk_junk, Array.append_assoc]); (repeat (first | with_reducible exact Junk.refl _ | with_reducible exact Junk.app _ _ _ _ _ | with_reducible exact Junk.app2 _ _ _ _ _ _ | with_reducible exact Junk.app3 _ _ _ _ _ _ _ | with_reducible exact Junk.app4 _ _ _ _ _ _ _ _ | with_reducible exact Junk.app5 _ _ _ _ _ _ _ _ _ | with_reducible apply Junk.alloc | with_reducible apply Junk.junk | with_reducible apply Junk.drew | with_reducible apply Junk.drewN)))⟩
    | true =>
      have hr2 : 1 ≤ lo ∧ lo ≤ hi ∧ hi ≤ 65535 := by simpa [rightB] using hr
      obtain ⟨a, rfl⟩ : ∃ a : Nat, lo = (a : Int) := ⟨lo.toNat, by omega⟩
      obtain ⟨b, rfl⟩ : ∃ b : Nat, hi = (b : Int) := ⟨hi.toNat, by omega⟩
      have hs2 : taken_l ≤ 100 ∧ (b : Int) - a ≤ 300 := by simpa [short16, hr] using hsh
      exact poolFree_walk a b taken_a taken_l taken_c taken wish D W hr hs2.1 (by omega) S_taken (Cells.nil_slice Try.underlying22 f_taken) b_wish hs2.2
set_option maxRecDepth 100000 in
theorem poolFree_lifted (os : Os) (started : os.Started) (H : Type) (enc : TypeId × Value → H) :
    ReturnsInHanded {} Try.checked os 4 .any (Rows.poolFreeSpec.pre6 enc Try.prog Try.f4 Rows.poolFreeRow.domain false) (Rows.poolFreeSpec.post enc Try.prog Try.f4 false true false false) := by
  refine returnsInHanded_of_change (C := Try.checked) (by kernel_rfl) started (by kernel_rfl) Try.func4
    (ChangeSpec.witness6 (enc := enc) (C := Try.checked) false ⟨#[], #[.int .i64 0, .int .i64 0, .slice none 0 0, .int .i64 0, .int .u32 0], []⟩ 8 (by kernel_rfl) (by kernel_rfl) (by kernel_rfl) (by kernel_rfl)) ?_
  intro W base args ds gs before hval hW _ _
  obtain ⟨p, q, hA, _, _, _, _⟩ := id hW
  have hargs : Args Try.prog W base Try.f4.params.toList args.toList := args_of (fun j t v h1 h2 => hval j t v (by simpa using h1) (by simpa using h2)) hA
  rw [Try.params4] at hargs
  obtain ⟨v0, l0, e0, a0, r0⟩ := args_cons hargs
  obtain ⟨v1, l1, e1, a1, r1⟩ := args_cons r0
  obtain ⟨v2, l2, e2, a2, r2⟩ := args_cons r1
  obtain ⟨v3, l3, e3, a3, r3⟩ := args_cons r2
  obtain ⟨v4, l4, e4, a4, r4⟩ := args_cons r3
  have hn := args_nil r4
  have he : args = #[v0, v1, v2, v3, v4] := by
    apply Array.ext'
    simp only [e0, e1, e2, e3, e4, hn]
  subst he
  exact (poolFree_core W base v0 v1 v2 v3 v4 a0 a1 a2 a3 a4).mono fun e W' ⟨he, hj⟩ => ⟨_, he, post_true (tb := 4) (by kernel_rfl) (by kernel_rfl) rfl (by kernel_rfl) rfl hW (fun hg hl => by
    subst hg
    match ds, hl with
    | [_, _, _, _, _], _ => exact ⟨rfl, rfl, rfl⟩) hj⟩
theorem poolFree_holds : Rows.PoolFreeSaid :=
  OpenClaim.holds_of_wide 4 Try.f4 rfl rfl rfl rfl rfl rfl rfl ⟨rfl, rfl, rfl, rfl, rfl⟩ rfl rfl rfl rfl rfl (by kernel_rfl) Try.func4 (by kernel_rfl)
    (of_decide_eq_true (by kernel_rfl)) (by unfold Func.isWrapper; rw [if_neg (of_decide_eq_false (by kernel_rfl))]; exact ⟨rfl, rfl⟩)
    (fun os started H enc _ => poolFree_lifted os started H enc)

end Go.Proofs.Ytambpmbgfjefcaa
