/- The reference of layer 17: Right, Who, Whose, Tick. -/
import Derived.Test.YtambpmbgfjefcaaNatL
set_option linter.unusedVariables false
set_option maxRecDepth 100000
set_option linter.unusedSimpArgs false
namespace Go.Proofs.Ytambpmbgfjefcaa
open Go.RowKit
theorem beq_sw (x y : Int) : (x == y) = (y == x) := by rw [Bool.eq_iff_iff]; simp; exact eq_comm
theorem lnOk_intro {lo hi : Int} {L : List Ln} {i : Nat} {x : Ln} (h1 : namedB x = true) (h2 : lo ≤ x.port ∧ x.port ≤ hi) (h3 : ∀ j, j < i → ∀ y, L[j]? = some y → outerB x y = false ∧ innerB x y = false) : lnOk lo hi L i x = true := by
  have e : ∀ pr : Ln → Bool, (∀ j, j < i → ∀ y, L[j]? = some y → pr y = false) → ((L.take i).findIdx? pr).isNone = true := fun pr h => by
    rw [Option.isNone_iff_eq_none, List.findIdx?_eq_none_iff]
    intro y hy
    obtain ⟨j, hj⟩ := List.getElem?_of_mem hy
    rw [List.getElem?_take] at hj
    split at hj
    · exact h j (by assumption) y hj
    · cases hj
  unfold lnOk
  rw [h1, e _ (fun j hj y hy => (h3 j hj y hy).1), e _ (fun j hj y hy => (h3 j hj y hy).2)]
  simp [withinB, h2.1, h2.2]
theorem lnOk_hit {lo hi : Int} {L : List Ln} {i j : Nat} {x y : Ln} (hj : j < i) (hy : L[j]? = some y) (h : outerB x y = true ∨ innerB x y = true) : lnOk lo hi L i x = false := by
  have e : ∀ pr : Ln → Bool, pr y = true → ((L.take i).findIdx? pr).isNone = false := fun pr hp => by
    cases hf : (L.take i).findIdx? pr with
    | some k => rfl
    | none =>
      have := List.findIdx?_eq_none_iff.1 hf y (List.mem_of_getElem? (i := j) (by rw [List.getElem?_take, if_pos hj]; exact hy))
      rw [hp] at this
      cases this
  unfold lnOk
  rcases h with h | h
  · rw [e _ h]; simp
  · rw [e _ h]; simp
set_option maxHeartbeats 8000000 in
theorem rrightL_any (lo hi : Int) (oa : Option Addr) (l c : Nat) (L : List Ln) (w : World) (hl : l ≤ 1000000) (hL : L.length = l) (hS : LsAt w oa L) :
    Calls Try.prog 22 #[.slice oa l c, .int .i64 lo, .int .i64 hi] w fun e w' => e = .returned (.bool (natRight lo hi L)) ∧ Junk w w' := by
  have HS := Lib.hid hS
  have HL := Lib.hid hL
  clear hS hL
  obtain ⟨T, hT⟩ : ∃ T, T = natRight lo hi L := ⟨_, rfl⟩
  have HT := Lib.hid hT
  rw [← hT]
  clear hT
  cases hr : rightB lo hi with
  | false =>
    have HE := Lib.hid (show T = false by rw [HT.out]; unfold natRight; rw [hr]; rfl)
    go_enter Try.func22, Try.ntmps22
    go_wp2_with (first | (go_at_call 15; refine (rright_any lo hi _).mono ?_; rintro e w' ⟨rfl, rfl⟩; rw [hr]))
    go_ret
    exact ⟨by rw [HE.out]; rfl, by ((try simp only [World.junk_junk, Array.append_assoc]); (repeat (first | with_reducible exact Junk.refl _ | with_reducible exact Junk.app _ _ _ _ _ | with_reducible exact Junk.app2 _ _ _ _ _ _ | with_reducible exact Junk.app3 _ _ _ _ _ _ _ | with_reducible exact Junk.app4 _ _ _ _ _ _ _ _ | with_reducible exact Junk.app5 _ _ _ _ _ _ _ _ _ | with_reducible apply Junk.alloc | with_reducible apply Junk.junk | with_reducible apply Junk.drew | with_reducible apply Junk.drewN)))⟩
  | true =>
    have HR := Lib.hid hr
    clear hr
    go_enter Try.func22, Try.ntmps22
    go_wp2_with (first | (go_at_call 15; refine (rright_any lo hi _).mono ?_; rintro e w' ⟨rfl, rfl⟩; rw [HR.out]))
    go_loopw [7] (fun i wr => ∃ k : Nat, i = .int .i64 (k : Int) ∧ Junk w wr ∧ k ≤ l ∧ Hid (∀ j, j < k → ∀ y, L[j]? = some y → lnOk lo hi L j y = true)) (fun i _ => l + 1 - (intOf i).toNat)
    case atStart => exact ⟨0, rfl, by ((try simp only [World.junk_junk, Array.append_assoc]); (repeat (first | with_reducible exact Junk.refl _ | with_reducible exact Junk.app _ _ _ _ _ | with_reducible exact Junk.app2 _ _ _ _ _ _ | with_reducible exact Junk.app3 _ _ _ _ _ _ _ | with_reducible exact Junk.app4 _ _ _ _ _ _ _ _ | with_reducible exact Junk.app5 _ _ _ _ _ _ _ _ _ | with_reducible apply Junk.alloc | with_reducible apply Junk.junk | with_reducible apply Junk.drew | with_reducible apply Junk.drewN))), by omega, Lib.hid (fun j hj => by omega)⟩
    case round =>
      obtain ⟨k, rfl, ⟨os, d, rfl⟩, hk, hN⟩ := hrel
      by_cases hkl : k < l
      case neg =>
        have hk2 : ¬ (k : Int) < (l : Int) := by omega
        obtain rfl : k = l := by omega
        have HE := Lib.hid (show T = true by rw [HT.out]; unfold natRight; rw [HR.out]; simp only [Bool.true_and, decide_eq_true_eq]; rw [HL.out]; exact hN.out)
        go_wp2
        go_ret
        exact ⟨by rw [HE.out]; rfl, by ((try simp only [World.junk_junk, Array.append_assoc]); (repeat (first | with_reducible exact Junk.refl _ | with_reducible exact Junk.app _ _ _ _ _ | with_reducible exact Junk.app2 _ _ _ _ _ _ | with_reducible exact Junk.app3 _ _ _ _ _ _ _ | with_reducible exact Junk.app4 _ _ _ _ _ _ _ _ | with_reducible exact Junk.app5 _ _ _ _ _ _ _ _ _ | with_reducible apply Junk.alloc | with_reducible apply Junk.junk | with_reducible apply Junk.drew | with_reducible apply Junk.drewN)))⟩
      have hk2 : (k : Int) < (l : Int) := by omega
      obtain ⟨x, hx⟩ : ∃ x, L[k]? = some x := ⟨_, List.getElem?_eq_getElem (by rw [HL.out]; exact hkl)⟩
      obtain ⟨b, off, rfl, hb, c0, c1, c2, c3, c4⟩ := HS.out k x hx
      have HX := Lib.hid hx
      obtain ⟨C1, hC1⟩ : ∃ C1, C1 = namedB x := ⟨_, rfl⟩
      have gd := fun w1 => rgood_any x w1
      rw [← hC1] at gd
      have GD := Lib.hid gd
      have HC1 := Lib.hid hC1
      clear hx hC1 gd
      cases C1 with
      | false =>
        have HE := Lib.hid (show T = false by rw [HT.out]; exact natRight_bad HX.out (by unfold lnOk; rw [← HC1.out]; rfl))
        obtain ⟨xp, xi, xn, xo, xt⟩ := x
        go_wp2_with (first | (go_at_call 41; refine (GD.out _).mono ?_; rintro e w' ⟨rfl, ⟨osj, dj, rfl⟩⟩))
        go_ret
        exact ⟨by rw [HE.out]; rfl, by ((try simp only [World.junk_junk, Array.append_assoc]); (repeat (first | with_reducible exact Junk.refl _ | with_reducible exact Junk.app _ _ _ _ _ | with_reducible exact Junk.app2 _ _ _ _ _ _ | with_reducible exact Junk.app3 _ _ _ _ _ _ _ | with_reducible exact Junk.app4 _ _ _ _ _ _ _ _ | with_reducible exact Junk.app5 _ _ _ _ _ _ _ _ _ | with_reducible apply Junk.alloc | with_reducible apply Junk.junk | with_reducible apply Junk.drew | with_reducible apply Junk.drewN)))⟩
      | true =>
      by_cases hp1 : lo ≤ x.port
      case neg =>
        have HE := Lib.hid (show T = false by rw [HT.out]; exact natRight_bad HX.out (by unfold lnOk withinB; rw [decide_eq_false (by omega)]; simp))
        obtain ⟨xp, xi, xn, xo, xt⟩ := x
        dsimp only at hp1
        have hp1' : xo < lo := by omega
        go_wp2_with (first | (go_at_call 41; refine (GD.out _).mono ?_; rintro e w' ⟨rfl, ⟨osj, dj, rfl⟩⟩))
        go_ret
        exact ⟨by rw [HE.out]; rfl, by ((try simp only [World.junk_junk, Array.append_assoc]); (repeat (first | with_reducible exact Junk.refl _ | with_reducible exact Junk.app _ _ _ _ _ | with_reducible exact Junk.app2 _ _ _ _ _ _ | with_reducible exact Junk.app3 _ _ _ _ _ _ _ | with_reducible exact Junk.app4 _ _ _ _ _ _ _ _ | with_reducible exact Junk.app5 _ _ _ _ _ _ _ _ _ | with_reducible apply Junk.alloc | with_reducible apply Junk.junk | with_reducible apply Junk.drew | with_reducible apply Junk.drewN)))⟩
      by_cases hp2 : x.port ≤ hi
      case neg =>
        have HE := Lib.hid (show T = false by rw [HT.out]; exact natRight_bad HX.out (by unfold lnOk withinB; rw [decide_eq_false (by omega)]; simp))
        obtain ⟨xp, xi, xn, xo, xt⟩ := x
        dsimp only at hp1 hp2
        have hp1' : ¬ xo < lo := by omega
        have hp2' : hi < xo := by omega
        go_wp2_with (first | (go_at_call 41; refine (GD.out _).mono ?_; rintro e w' ⟨rfl, ⟨osj, dj, rfl⟩⟩))
        go_ret
        exact ⟨by rw [HE.out]; rfl, by ((try simp only [World.junk_junk, Array.append_assoc]); (repeat (first | with_reducible exact Junk.refl _ | with_reducible exact Junk.app _ _ _ _ _ | with_reducible exact Junk.app2 _ _ _ _ _ _ | with_reducible exact Junk.app3 _ _ _ _ _ _ _ | with_reducible exact Junk.app4 _ _ _ _ _ _ _ _ | with_reducible exact Junk.app5 _ _ _ _ _ _ _ _ _ | with_reducible apply Junk.alloc | with_reducible apply Junk.junk | with_reducible apply Junk.drew | with_reducible apply Junk.drewN)))⟩
      have HOK := Lib.hid (fun h3 => lnOk_intro (L := L) (i := k) HC1.out.symm ⟨hp1, hp2⟩ h3)
      have hp1' : ¬ x.port < lo := by omega
      have hp2' : ¬ hi < x.port := by omega
      clear hp1 hp2
      obtain ⟨xp, xi, xn, xo, xt⟩ := x
      dsimp only at hp1' hp2' c0 c1 c2 c3 c4
      go_wp2_with (first | (go_at_call 41; refine (GD.out _).mono ?_; rintro e w' ⟨rfl, ⟨osj, dj, rfl⟩⟩))
      go_loopw [8] (fun i wr => ∃ j : Nat, i = .int .i64 (j : Int) ∧ (∃ oz dz, wr = w.junk oz dz) ∧ j ≤ k ∧ Hid (∀ q, q < j → ∀ y, L[q]? = some y → outerB ⟨xp, xi, xn, xo, xt⟩ y = false ∧ innerB ⟨xp, xi, xn, xo, xt⟩ y = false)) (fun i _ => k + 1 - (intOf i).toNat)
      case atStart => exact ⟨0, rfl, ⟨_, _, rfl⟩, by omega, Lib.hid (fun j hj => by omega)⟩
      case round =>
        obtain ⟨j, rfl, ⟨oz, dz, rfl⟩, hj, hM⟩ := hrel
        by_cases hjk : j < k
        case neg =>
          have hj2 : ¬ (j : Int) < (k : Int) := by omega
          obtain rfl : j = k := by omega
          have HN2 := Lib.hid (show ∀ q, q < j + 1 → ∀ y, L[q]? = some y → lnOk lo hi L q y = true from fun q hq y hy => by
            by_cases h : q = j
            · subst h
              rw [HX.out] at hy
              cases hy
              exact HOK.out hM.out
            · exact hN.out q (by omega) y hy)
          go_wp2
          exact ⟨⟨j + 1, by go_num, by ((try simp only [World.junk_junk, Array.append_assoc]); (repeat (first | with_reducible exact Junk.refl _ | with_reducible exact Junk.app _ _ _ _ _ | with_reducible exact Junk.app2 _ _ _ _ _ _ | with_reducible exact Junk.app3 _ _ _ _ _ _ _ | with_reducible exact Junk.app4 _ _ _ _ _ _ _ _ | with_reducible exact Junk.app5 _ _ _ _ _ _ _ _ _ | with_reducible apply Junk.alloc | with_reducible apply Junk.junk | with_reducible apply Junk.drew | with_reducible apply Junk.drewN))), by omega, HN2⟩, by simp [intOf]; omega⟩
        have hj2 : (j : Int) < (k : Int) := by omega
        have hj3 : (j : Int) < (l : Int) := by omega
        obtain ⟨y, hy⟩ : ∃ y, L[j]? = some y := ⟨_, List.getElem?_eq_getElem (by rw [HL.out]; omega)⟩
        obtain ⟨b', off', he', _, z0, z1, z2, z3, z4⟩ := HS.out j y hy
        cases he'
        have HY := Lib.hid hy
        clear hy
        obtain ⟨yp, yi, yn, yo, yt⟩ := y
        dsimp only at z0 z1 z2 z3 z4
        have HGO := Lib.hid (fun (h : outerB ⟨xp, xi, xn, xo, xt⟩ ⟨yp, yi, yn, yo, yt⟩ = false ∧ innerB ⟨xp, xi, xn, xo, xt⟩ ⟨yp, yi, yn, yo, yt⟩ = false) => show ∀ q, q < j + 1 → ∀ y, L[q]? = some y → outerB ⟨xp, xi, xn, xo, xt⟩ y = false ∧ innerB ⟨xp, xi, xn, xo, xt⟩ y = false from fun q hq y hy => by
          by_cases h0 : q = j
          · subst h0; rw [HY.out] at hy; cases hy; exact h
          · exact hM.out q (by omega) y hy)
        have HBAD := Lib.hid (fun (h : outerB ⟨xp, xi, xn, xo, xt⟩ ⟨yp, yi, yn, yo, yt⟩ = true ∨ innerB ⟨xp, xi, xn, xo, xt⟩ ⟨yp, yi, yn, yo, yt⟩ = true) => show T = false by rw [HT.out]; exact natRight_bad HX.out (lnOk_hit hjk HY.out h))
        cases e1 : yp == xp with
        | false =>
          have HN3 := Lib.hid (HGO.out (by simp only [outerB, innerB]; rw [beq_sw xp yp, e1]; exact ⟨rfl, rfl⟩))
          go_wp2
          refine wp_region_junk (by kernel_rfl) (by kernel_rfl) ?_; (repeat (go_big_quiet_step (first | fail))); refine wpQuiet_nil ?_; rintro _ ⟨⟨osq, dq⟩, rfl⟩
          go_wp2
          exact ⟨⟨j + 1, by go_num, ⟨_, _, rfl⟩, by omega, HN3⟩, by simp [intOf]; omega⟩
        | true =>
        cases e2 : yo == xo with
        | true =>
          have HE := Lib.hid (HBAD.out (.inl (by simp only [outerB]; rw [beq_sw xp yp, e1, beq_sw xo yo, e2]; rfl)))
          go_wp2
          refine wp_region_junk (by kernel_rfl) (by kernel_rfl) ?_; (repeat (go_big_quiet_step (first | fail))); refine wpQuiet_nil ?_; rintro _ ⟨⟨osq, dq⟩, rfl⟩
          go_wp2
          go_ret
          exact ⟨by rw [HE.out]; rfl, by ((try simp only [World.junk_junk, Array.append_assoc]); (repeat (first | with_reducible exact Junk.refl _ | with_reducible exact Junk.app _ _ _ _ _ | with_reducible exact Junk.app2 _ _ _ _ _ _ | with_reducible exact Junk.app3 _ _ _ _ _ _ _ | with_reducible exact Junk.app4 _ _ _ _ _ _ _ _ | with_reducible exact Junk.app5 _ _ _ _ _ _ _ _ _ | with_reducible apply Junk.alloc | with_reducible apply Junk.junk | with_reducible apply Junk.drew | with_reducible apply Junk.drewN)))⟩
        | false =>
        cases e3 : yi == xi with
        | false =>
          have HN3 := Lib.hid (HGO.out (by simp only [outerB, innerB]; rw [beq_sw xp yp, e1, beq_sw xo yo, e2, beq_sw xi yi, e3]; exact ⟨rfl, rfl⟩))
          go_wp2
          refine wp_region_junk (by kernel_rfl) (by kernel_rfl) ?_; (repeat (go_big_quiet_step (first | fail))); refine wpQuiet_nil ?_; rintro _ ⟨⟨osq, dq⟩, rfl⟩
          go_wp2
          exact ⟨⟨j + 1, by go_num, ⟨_, _, rfl⟩, by omega, HN3⟩, by simp [intOf]; omega⟩
        | true =>
        cases e4 : yn == xn with
        | false =>
          have HN3 := Lib.hid (HGO.out (by simp only [outerB, innerB]; rw [beq_sw xp yp, e1, beq_sw xo yo, e2, beq_sw xi yi, e3, beq_sw xn yn, e4]; exact ⟨rfl, rfl⟩))
          go_wp2
          refine wp_region_junk (by kernel_rfl) (by kernel_rfl) ?_; (repeat (go_big_quiet_step (first | fail))); refine wpQuiet_nil ?_; rintro _ ⟨⟨osq, dq⟩, rfl⟩
          go_wp2
          exact ⟨⟨j + 1, by go_num, ⟨_, _, rfl⟩, by omega, HN3⟩, by simp [intOf]; omega⟩
        | true =>
          have HE := Lib.hid (HBAD.out (.inr (by simp only [innerB]; rw [beq_sw xp yp, e1, beq_sw xi yi, e3, beq_sw xn yn, e4]; rfl)))
          go_wp2
          refine wp_region_junk (by kernel_rfl) (by kernel_rfl) ?_; (repeat (go_big_quiet_step (first | fail))); refine wpQuiet_nil ?_; rintro _ ⟨⟨osq, dq⟩, rfl⟩
          go_wp2
          go_ret
          exact ⟨by rw [HE.out]; rfl, by ((try simp only [World.junk_junk, Array.append_assoc]); (repeat (first | with_reducible exact Junk.refl _ | with_reducible exact Junk.app _ _ _ _ _ | with_reducible exact Junk.app2 _ _ _ _ _ _ | with_reducible exact Junk.app3 _ _ _ _ _ _ _ | with_reducible exact Junk.app4 _ _ _ _ _ _ _ _ | with_reducible exact Junk.app5 _ _ _ _ _ _ _ _ _ | with_reducible apply Junk.alloc | with_reducible apply Junk.junk | with_reducible apply Junk.drew | with_reducible apply Junk.drewN)))⟩
end Go.Proofs.Ytambpmbgfjefcaa
