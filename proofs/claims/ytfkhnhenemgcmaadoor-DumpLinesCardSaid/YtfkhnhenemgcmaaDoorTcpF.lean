/- The reference of layer 4: Right. -/
import Derived.Test.YtfkhnhenemgcmaaDoorTcpE
set_option linter.unusedVariables false
set_option maxRecDepth 100000
set_option linter.unusedSimpArgs false
namespace Go.Proofs.YtfkhnhenemgcmaaDoor
open Go.RowKit
set_option maxHeartbeats 16000000 in
theorem rtright_any (oa : Option Addr) (N c : Nat) (F : List Ot) (w : World) (hl : N ≤ 1000000) (hF : F.length = N) (hS : OsAt w oa F) :
    Calls Tryd.prog 54 #[.slice oa N c] w fun e w' => e = .returned (.bool (rtAll F)) ∧ Junk w w' := by
  have HS := Lib.hid hS
  have HF := Lib.hid hF
  clear hS hF
  obtain ⟨T, hT⟩ : ∃ T, T = rtAll F := ⟨_, rfl⟩
  have HT := Lib.hid hT
  rw [← hT]
  clear hT
  go_enter Tryd.func54, Tryd.ntmps54
  go_wp2
  go_loopw [3, 4] (fun v t wr => ∃ i n : Nat, v = .int .i64 (n : Int) ∧ t = .int .i64 (i : Int) ∧ Junk w wr ∧ i ≤ N ∧ Hid (∀ q, q < i → ∀ f, F[q]? = some f → rightO (F.take q) f.k f.l = true ∧ optsN (F.take (q + 1)) ≤ 40) ∧ Hid (n = optsN (F.take i)) ∧ n ≤ 40) (fun _ t _ => N + 1 - (intOf t).toNat)
  case atStart => exact ⟨0, 0, rfl, rfl, by ((try simp only [World.junk_junk, Array.append_assoc]); (repeat (first | with_reducible exact Junk.refl _ | with_reducible exact Junk.app _ _ _ _ _ | with_reducible exact Junk.app2 _ _ _ _ _ _ | with_reducible exact Junk.app3 _ _ _ _ _ _ _ | with_reducible exact Junk.app4 _ _ _ _ _ _ _ _ | with_reducible exact Junk.app5 _ _ _ _ _ _ _ _ _ | with_reducible apply Junk.alloc | with_reducible apply Junk.junk | with_reducible apply Junk.drew | with_reducible apply Junk.drewN))), by omega, Lib.hid (fun q hq => by omega), Lib.hid (by simp [optsN]), by omega⟩
  case round =>
    obtain ⟨i, n, rfl, rfl, ⟨os, d, rfl⟩, hi, hN, hNN, hn40⟩ := hrel
    by_cases hiN : i < N
    case neg =>
      have hi2 : ¬ (i : Int) < (N : Int) := by omega
      obtain rfl : i = N := by omega
      have HE := Lib.hid (show T = true by rw [HT.out]; unfold rtAll; rw [decide_eq_true_eq, HF.out]; exact hN.out)
      go_wp2
      go_ret
      exact ⟨by rw [HE.out] <;> rfl, by ((try simp only [World.junk_junk, Array.append_assoc]); (repeat (first | with_reducible exact Junk.refl _ | with_reducible exact Junk.app _ _ _ _ _ | with_reducible exact Junk.app2 _ _ _ _ _ _ | with_reducible exact Junk.app3 _ _ _ _ _ _ _ | with_reducible exact Junk.app4 _ _ _ _ _ _ _ _ | with_reducible exact Junk.app5 _ _ _ _ _ _ _ _ _ | with_reducible apply Junk.alloc | with_reducible apply Junk.junk | with_reducible apply Junk.drew | with_reducible apply Junk.drewN)))⟩
    have hi2 : (i : Int) < (N : Int) := by omega
    obtain ⟨x, hx⟩ : ∃ x, F[i]? = some x := ⟨_, List.getElem?_eq_getElem (by rw [HF.out]; exact hiN)⟩
    obtain ⟨b, off, rfl, hb, c0, c1, hbt⟩ := HS.out i x hx
    have hbc := hbt.le
    have HX := Lib.hid hx
    clear hx hbt
    obtain ⟨k, xa, l, xc, xs⟩ := x
    dsimp only at c0 c1 hbc
    by_cases h100 : l ≤ 100
    case neg =>
      have h100' : (100 : Int) < (l : Int) := by omega
      have HE := Lib.hid (show T = false by rw [HT.out]; exact rtAll_bad HX.out (.inr (by rw [optsN_succ HX.out]; show 40 < _ + (2 + l); omega)))
      go_wp2
      refine wp_region_junk (by kernel_rfl) (by kernel_rfl) ?_; (repeat (go_big_quiet_step (first | fail))); refine wpQuiet_nil ?_; rintro _ ⟨⟨osq, dq⟩, rfl⟩
      go_wp2
      go_ret
      exact ⟨by rw [HE.out] <;> rfl, by ((try simp only [World.junk_junk, Array.append_assoc]); (repeat (first | with_reducible exact Junk.refl _ | with_reducible exact Junk.app _ _ _ _ _ | with_reducible exact Junk.app2 _ _ _ _ _ _ | with_reducible exact Junk.app3 _ _ _ _ _ _ _ | with_reducible exact Junk.app4 _ _ _ _ _ _ _ _ | with_reducible exact Junk.app5 _ _ _ _ _ _ _ _ _ | with_reducible apply Junk.alloc | with_reducible apply Junk.junk | with_reducible apply Junk.drew | with_reducible apply Junk.drewN)))⟩
    have h100' : ¬ (100 : Int) < (l : Int) := by omega
    by_cases hk2 : k = 2
    case pos =>
      subst hk2
      by_cases hsz : l = 2
      case neg =>
        have hsz' : ((l : Int) != 2) = true := by simp; omega
        have HE := Lib.hid (show T = false by rw [HT.out]; exact rtAll_bad HX.out (.inl (rightO_size (by simp [knownB]) (by simp [okSize]; omega))))
        clear hsz
        go_wp2
        refine wp_region_junk (by kernel_rfl) (by kernel_rfl) ?_; (repeat (go_big_quiet_step (first | fail))); refine wpQuiet_nil ?_; rintro _ ⟨⟨osq, dq⟩, rfl⟩
        go_wp2
        go_ret
        exact ⟨by rw [HE.out] <;> rfl, by ((try simp only [World.junk_junk, Array.append_assoc]); (repeat (first | with_reducible exact Junk.refl _ | with_reducible exact Junk.app _ _ _ _ _ | with_reducible exact Junk.app2 _ _ _ _ _ _ | with_reducible exact Junk.app3 _ _ _ _ _ _ _ | with_reducible exact Junk.app4 _ _ _ _ _ _ _ _ | with_reducible exact Junk.app5 _ _ _ _ _ _ _ _ _ | with_reducible apply Junk.alloc | with_reducible apply Junk.junk | with_reducible apply Junk.drew | with_reducible apply Junk.drewN)))⟩
      subst hsz
      have HZ := Lib.hid (show okSize 2 2 = true by decide)
      go_wp2
      refine wp_region_junk (by kernel_rfl) (by kernel_rfl) ?_; (repeat (go_big_quiet_step (first | fail))); refine wpQuiet_nil ?_; rintro _ ⟨⟨osq, dq⟩, rfl⟩
      go_wp2
      go_loopw [7] (fun t wr => ∃ j : Nat, t = .int .i64 (j : Int) ∧ Junk w wr ∧ j ≤ i ∧ Hid (∀ q, q < j → ∀ g, F[q]? = some g → (g.k == 2) = false)) (fun t _ => i + 1 - (intOf t).toNat)
      case atStart => exact ⟨0, rfl, by ((try simp only [World.junk_junk, Array.append_assoc]); (repeat (first | with_reducible exact Junk.refl _ | with_reducible exact Junk.app _ _ _ _ _ | with_reducible exact Junk.app2 _ _ _ _ _ _ | with_reducible exact Junk.app3 _ _ _ _ _ _ _ | with_reducible exact Junk.app4 _ _ _ _ _ _ _ _ | with_reducible exact Junk.app5 _ _ _ _ _ _ _ _ _ | with_reducible apply Junk.alloc | with_reducible apply Junk.junk | with_reducible apply Junk.drew | with_reducible apply Junk.drewN))), by omega, Lib.hid (fun q hq => by omega)⟩
      case round =>
        obtain ⟨j, rfl, ⟨oz, dz, rfl⟩, hj, hM⟩ := hrel
        by_cases hji : j < i
        case neg =>
          have hj2 : ¬ (j : Int) < (i : Int) := by omega
          obtain rfl : j = i := by omega
          by_cases h40 : n + (2 + 2) ≤ 40
          case neg =>
            have h40' : (40 : Int) < (n : Int) + (2 + (2 : Int)) := by omega
            have HE := Lib.hid (show T = false by rw [HT.out]; exact rtAll_bad HX.out (.inr (by rw [optsN_succ HX.out, ← hNN.out]; show 40 < n + (2 + 2); omega)))
            go_wp2
            go_ret
            exact ⟨by rw [HE.out] <;> rfl, by ((try simp only [World.junk_junk, Array.append_assoc]); (repeat (first | with_reducible exact Junk.refl _ | with_reducible exact Junk.app _ _ _ _ _ | with_reducible exact Junk.app2 _ _ _ _ _ _ | with_reducible exact Junk.app3 _ _ _ _ _ _ _ | with_reducible exact Junk.app4 _ _ _ _ _ _ _ _ | with_reducible exact Junk.app5 _ _ _ _ _ _ _ _ _ | with_reducible apply Junk.alloc | with_reducible apply Junk.junk | with_reducible apply Junk.drew | with_reducible apply Junk.drewN)))⟩
          have h40' : ¬ (40 : Int) < (n : Int) + (2 + (2 : Int)) := by omega
          have HN2 := Lib.hid (show ∀ q, q < j + 1 → ∀ f, F[q]? = some f → rightO (F.take q) f.k f.l = true ∧ optsN (F.take (q + 1)) ≤ 40 from fun q hq f hf => by
            by_cases h : q = j
            · subst h
              rw [HX.out] at hf
              cases hf
              exact ⟨rightO_known (by simp) (by simp [knownB]) HZ.out (any_take hM.out), by rw [optsN_succ HX.out, ← hNN.out]; exact h40⟩
            · exact hN.out q (by omega) f hf)
          have HNN2 := Lib.hid (show n + (2 + 2) = optsN (F.take (j + 1)) by rw [optsN_succ HX.out, ← hNN.out])
          go_wp2
          exact ⟨⟨j + 1, n + (2 + 2), by go_num, by go_num, by ((try simp only [World.junk_junk, Array.append_assoc]); (repeat (first | with_reducible exact Junk.refl _ | with_reducible exact Junk.app _ _ _ _ _ | with_reducible exact Junk.app2 _ _ _ _ _ _ | with_reducible exact Junk.app3 _ _ _ _ _ _ _ | with_reducible exact Junk.app4 _ _ _ _ _ _ _ _ | with_reducible exact Junk.app5 _ _ _ _ _ _ _ _ _ | with_reducible apply Junk.alloc | with_reducible apply Junk.junk | with_reducible apply Junk.drew | with_reducible apply Junk.drewN))), by omega, HN2, HNN2, by omega⟩, by simp [intOf]; omega⟩
        have hj2 : (j : Int) < (i : Int) := by omega
        have hj3 : (j : Int) < (N : Int) := by omega
        obtain ⟨y, hy⟩ : ∃ y, F[j]? = some y := ⟨_, List.getElem?_eq_getElem (by rw [HF.out]; omega)⟩
        obtain ⟨bz, offz, hez, _, z0, z1, _⟩ := HS.out j y hy
        cases hez
        have HY := Lib.hid hy
        clear hy z1
        obtain ⟨yk, yoa, yl, yc, yxs⟩ := y
        dsimp only at z0
        cases e1 : (yk == 2) with
        | false =>
          have HM2 := Lib.hid (show ∀ q, q < j + 1 → ∀ g, F[q]? = some g → (g.k == 2) = false from fun q hq g hg => by
            by_cases h : q = j
            · subst h; rw [HY.out] at hg; cases hg; exact e1
            · exact hM.out q (by omega) g hg)
          go_wp2
          exact ⟨⟨j + 1, by go_num, by ((try simp only [World.junk_junk, Array.append_assoc]); (repeat (first | with_reducible exact Junk.refl _ | with_reducible exact Junk.app _ _ _ _ _ | with_reducible exact Junk.app2 _ _ _ _ _ _ | with_reducible exact Junk.app3 _ _ _ _ _ _ _ | with_reducible exact Junk.app4 _ _ _ _ _ _ _ _ | with_reducible exact Junk.app5 _ _ _ _ _ _ _ _ _ | with_reducible apply Junk.alloc | with_reducible apply Junk.junk | with_reducible apply Junk.drew | with_reducible apply Junk.drewN))), by omega, HM2⟩, by simp [intOf]; omega⟩
        | true =>
          have HE := Lib.hid (show T = false by rw [HT.out]; exact rtAll_bad HX.out (.inl (rightO_twice (by simp [knownB]) (any_take2 hji HY.out e1))))
          go_wp2
          go_ret
          exact ⟨by rw [HE.out] <;> rfl, by ((try simp only [World.junk_junk, Array.append_assoc]); (repeat (first | with_reducible exact Junk.refl _ | with_reducible exact Junk.app _ _ _ _ _ | with_reducible exact Junk.app2 _ _ _ _ _ _ | with_reducible exact Junk.app3 _ _ _ _ _ _ _ | with_reducible exact Junk.app4 _ _ _ _ _ _ _ _ | with_reducible exact Junk.app5 _ _ _ _ _ _ _ _ _ | with_reducible apply Junk.alloc | with_reducible apply Junk.junk | with_reducible apply Junk.drew | with_reducible apply Junk.drewN)))⟩
    by_cases hk3 : k = 3
    case pos =>
      subst hk3
      by_cases hsz : l = 1
      case neg =>
        have hsz' : ((l : Int) != 1) = true := by simp; omega
        have HE := Lib.hid (show T = false by rw [HT.out]; exact rtAll_bad HX.out (.inl (rightO_size (by simp [knownB]) (by simp [okSize]; omega))))
        clear hsz
        go_wp2
        refine wp_region_junk (by kernel_rfl) (by kernel_rfl) ?_; (repeat (go_big_quiet_step (first | fail))); refine wpQuiet_nil ?_; rintro _ ⟨⟨osq, dq⟩, rfl⟩
        go_wp2
        go_ret
        exact ⟨by rw [HE.out] <;> rfl, by ((try simp only [World.junk_junk, Array.append_assoc]); (repeat (first | with_reducible exact Junk.refl _ | with_reducible exact Junk.app _ _ _ _ _ | with_reducible exact Junk.app2 _ _ _ _ _ _ | with_reducible exact Junk.app3 _ _ _ _ _ _ _ | with_reducible exact Junk.app4 _ _ _ _ _ _ _ _ | with_reducible exact Junk.app5 _ _ _ _ _ _ _ _ _ | with_reducible apply Junk.alloc | with_reducible apply Junk.junk | with_reducible apply Junk.drew | with_reducible apply Junk.drewN)))⟩
      subst hsz
      have HZ := Lib.hid (show okSize 3 1 = true by decide)
      go_wp2
      refine wp_region_junk (by kernel_rfl) (by kernel_rfl) ?_; (repeat (go_big_quiet_step (first | fail))); refine wpQuiet_nil ?_; rintro _ ⟨⟨osq, dq⟩, rfl⟩
      go_wp2
      go_loopw [7] (fun t wr => ∃ j : Nat, t = .int .i64 (j : Int) ∧ Junk w wr ∧ j ≤ i ∧ Hid (∀ q, q < j → ∀ g, F[q]? = some g → (g.k == 3) = false)) (fun t _ => i + 1 - (intOf t).toNat)
      case atStart => exact ⟨0, rfl, by ((try simp only [World.junk_junk, Array.append_assoc]); (repeat (first | with_reducible exact Junk.refl _ | with_reducible exact Junk.app _ _ _ _ _ | with_reducible exact Junk.app2 _ _ _ _ _ _ | with_reducible exact Junk.app3 _ _ _ _ _ _ _ | with_reducible exact Junk.app4 _ _ _ _ _ _ _ _ | with_reducible exact Junk.app5 _ _ _ _ _ _ _ _ _ | with_reducible apply Junk.alloc | with_reducible apply Junk.junk | with_reducible apply Junk.drew | with_reducible apply Junk.drewN))), by omega, Lib.hid (fun q hq => by omega)⟩
      case round =>
        obtain ⟨j, rfl, ⟨oz, dz, rfl⟩, hj, hM⟩ := hrel
        by_cases hji : j < i
        case neg =>
          have hj2 : ¬ (j : Int) < (i : Int) := by omega
          obtain rfl : j = i := by omega
          by_cases h40 : n + (2 + 1) ≤ 40
          case neg =>
            have h40' : (40 : Int) < (n : Int) + (2 + (1 : Int)) := by omega
            have HE := Lib.hid (show T = false by rw [HT.out]; exact rtAll_bad HX.out (.inr (by rw [optsN_succ HX.out, ← hNN.out]; show 40 < n + (2 + 1); omega)))
            go_wp2
            go_ret
            exact ⟨by rw [HE.out] <;> rfl, by ((try simp only [World.junk_junk, Array.append_assoc]); (repeat (first | with_reducible exact Junk.refl _ | with_reducible exact Junk.app _ _ _ _ _ | with_reducible exact Junk.app2 _ _ _ _ _ _ | with_reducible exact Junk.app3 _ _ _ _ _ _ _ | with_reducible exact Junk.app4 _ _ _ _ _ _ _ _ | with_reducible exact Junk.app5 _ _ _ _ _ _ _ _ _ | with_reducible apply Junk.alloc | with_reducible apply Junk.junk | with_reducible apply Junk.drew | with_reducible apply Junk.drewN)))⟩
          have h40' : ¬ (40 : Int) < (n : Int) + (2 + (1 : Int)) := by omega
          have HN2 := Lib.hid (show ∀ q, q < j + 1 → ∀ f, F[q]? = some f → rightO (F.take q) f.k f.l = true ∧ optsN (F.take (q + 1)) ≤ 40 from fun q hq f hf => by
            by_cases h : q = j
            · subst h
              rw [HX.out] at hf
              cases hf
              exact ⟨rightO_known (by simp) (by simp [knownB]) HZ.out (any_take hM.out), by rw [optsN_succ HX.out, ← hNN.out]; exact h40⟩
            · exact hN.out q (by omega) f hf)
          have HNN2 := Lib.hid (show n + (2 + 1) = optsN (F.take (j + 1)) by rw [optsN_succ HX.out, ← hNN.out])
          go_wp2
          exact ⟨⟨j + 1, n + (2 + 1), by go_num, by go_num, by ((try simp only [World.junk_junk, Array.append_assoc]); (repeat (first | with_reducible exact Junk.refl _ | with_reducible exact Junk.app _ _ _ _ _ | with_reducible exact Junk.app2 _ _ _ _ _ _ | with_reducible exact Junk.app3 _ _ _ _ _ _ _ | with_reducible exact Junk.app4 _ _ _ _ _ _ _ _ | with_reducible exact Junk.app5 _ _ _ _ _ _ _ _ _ | with_reducible apply Junk.alloc | with_reducible apply Junk.junk | with_reducible apply Junk.drew | with_reducible apply Junk.drewN))), by omega, HN2, HNN2, by omega⟩, by simp [intOf]; omega⟩
        have hj2 : (j : Int) < (i : Int) := by omega
        have hj3 : (j : Int) < (N : Int) := by omega
        obtain ⟨y, hy⟩ : ∃ y, F[j]? = some y := ⟨_, List.getElem?_eq_getElem (by rw [HF.out]; omega)⟩
        obtain ⟨bz, offz, hez, _, z0, z1, _⟩ := HS.out j y hy
        cases hez
        have HY := Lib.hid hy
        clear hy z1
        obtain ⟨yk, yoa, yl, yc, yxs⟩ := y
        dsimp only at z0
        cases e1 : (yk == 3) with
        | false =>
          have HM2 := Lib.hid (show ∀ q, q < j + 1 → ∀ g, F[q]? = some g → (g.k == 3) = false from fun q hq g hg => by
            by_cases h : q = j
            · subst h; rw [HY.out] at hg; cases hg; exact e1
            · exact hM.out q (by omega) g hg)
          go_wp2
          exact ⟨⟨j + 1, by go_num, by ((try simp only [World.junk_junk, Array.append_assoc]); (repeat (first | with_reducible exact Junk.refl _ | with_reducible exact Junk.app _ _ _ _ _ | with_reducible exact Junk.app2 _ _ _ _ _ _ | with_reducible exact Junk.app3 _ _ _ _ _ _ _ | with_reducible exact Junk.app4 _ _ _ _ _ _ _ _ | with_reducible exact Junk.app5 _ _ _ _ _ _ _ _ _ | with_reducible apply Junk.alloc | with_reducible apply Junk.junk | with_reducible apply Junk.drew | with_reducible apply Junk.drewN))), by omega, HM2⟩, by simp [intOf]; omega⟩
        | true =>
          have HE := Lib.hid (show T = false by rw [HT.out]; exact rtAll_bad HX.out (.inl (rightO_twice (by simp [knownB]) (any_take2 hji HY.out e1))))
          go_wp2
          go_ret
          exact ⟨by rw [HE.out] <;> rfl, by ((try simp only [World.junk_junk, Array.append_assoc]); (repeat (first | with_reducible exact Junk.refl _ | with_reducible exact Junk.app _ _ _ _ _ | with_reducible exact Junk.app2 _ _ _ _ _ _ | with_reducible exact Junk.app3 _ _ _ _ _ _ _ | with_reducible exact Junk.app4 _ _ _ _ _ _ _ _ | with_reducible exact Junk.app5 _ _ _ _ _ _ _ _ _ | with_reducible apply Junk.alloc | with_reducible apply Junk.junk | with_reducible apply Junk.drew | with_reducible apply Junk.drewN)))⟩
    by_cases hk4 : k = 4
    case pos =>
      subst hk4
      by_cases hsz : l = 0
      case neg =>
        have hsz' : ((l : Int) != 0) = true := by simp; omega
        have HE := Lib.hid (show T = false by rw [HT.out]; exact rtAll_bad HX.out (.inl (rightO_size (by simp [knownB]) (by simp [okSize]; omega))))
        clear hsz
        go_wp2
        refine wp_region_junk (by kernel_rfl) (by kernel_rfl) ?_; (repeat (go_big_quiet_step (first | fail))); refine wpQuiet_nil ?_; rintro _ ⟨⟨osq, dq⟩, rfl⟩
        go_wp2
        go_ret
        exact ⟨by rw [HE.out] <;> rfl, by ((try simp only [World.junk_junk, Array.append_assoc]); (repeat (first | with_reducible exact Junk.refl _ | with_reducible exact Junk.app _ _ _ _ _ | with_reducible exact Junk.app2 _ _ _ _ _ _ | with_reducible exact Junk.app3 _ _ _ _ _ _ _ | with_reducible exact Junk.app4 _ _ _ _ _ _ _ _ | with_reducible exact Junk.app5 _ _ _ _ _ _ _ _ _ | with_reducible apply Junk.alloc | with_reducible apply Junk.junk | with_reducible apply Junk.drew | with_reducible apply Junk.drewN)))⟩
      subst hsz
      have HZ := Lib.hid (show okSize 4 0 = true by decide)
      go_wp2
      refine wp_region_junk (by kernel_rfl) (by kernel_rfl) ?_; (repeat (go_big_quiet_step (first | fail))); refine wpQuiet_nil ?_; rintro _ ⟨⟨osq, dq⟩, rfl⟩
      go_wp2
      go_loopw [7] (fun t wr => ∃ j : Nat, t = .int .i64 (j : Int) ∧ Junk w wr ∧ j ≤ i ∧ Hid (∀ q, q < j → ∀ g, F[q]? = some g → (g.k == 4) = false)) (fun t _ => i + 1 - (intOf t).toNat)
      case atStart => exact ⟨0, rfl, by ((try simp only [World.junk_junk, Array.append_assoc]); (repeat (first | with_reducible exact Junk.refl _ | with_reducible exact Junk.app _ _ _ _ _ | with_reducible exact Junk.app2 _ _ _ _ _ _ | with_reducible exact Junk.app3 _ _ _ _ _ _ _ | with_reducible exact Junk.app4 _ _ _ _ _ _ _ _ | with_reducible exact Junk.app5 _ _ _ _ _ _ _ _ _ | with_reducible apply Junk.alloc | with_reducible apply Junk.junk | with_reducible apply Junk.drew | with_reducible apply Junk.drewN))), by omega, Lib.hid (fun q hq => by omega)⟩
      case round =>
        obtain ⟨j, rfl, ⟨oz, dz, rfl⟩, hj, hM⟩ := hrel
        by_cases hji : j < i
        case neg =>
          have hj2 : ¬ (j : Int) < (i : Int) := by omega
          obtain rfl : j = i := by omega
          by_cases h40 : n + (2 + 0) ≤ 40
          case neg =>
            have h40' : (40 : Int) < (n : Int) + (2 + (0 : Int)) := by omega
            have HE := Lib.hid (show T = false by rw [HT.out]; exact rtAll_bad HX.out (.inr (by rw [optsN_succ HX.out, ← hNN.out]; show 40 < n + (2 + 0); omega)))
            go_wp2
            go_ret
            exact ⟨by rw [HE.out] <;> rfl, by ((try simp only [World.junk_junk, Array.append_assoc]); (repeat (first | with_reducible exact Junk.refl _ | with_reducible exact Junk.app _ _ _ _ _ | with_reducible exact Junk.app2 _ _ _ _ _ _ | with_reducible exact Junk.app3 _ _ _ _ _ _ _ | with_reducible exact Junk.app4 _ _ _ _ _ _ _ _ | with_reducible exact Junk.app5 _ _ _ _ _ _ _ _ _ | with_reducible apply Junk.alloc | with_reducible apply Junk.junk | with_reducible apply Junk.drew | with_reducible apply Junk.drewN)))⟩
          have h40' : ¬ (40 : Int) < (n : Int) + (2 + (0 : Int)) := by omega
          have HN2 := Lib.hid (show ∀ q, q < j + 1 → ∀ f, F[q]? = some f → rightO (F.take q) f.k f.l = true ∧ optsN (F.take (q + 1)) ≤ 40 from fun q hq f hf => by
            by_cases h : q = j
            · subst h
              rw [HX.out] at hf
              cases hf
              exact ⟨rightO_known (by simp) (by simp [knownB]) HZ.out (any_take hM.out), by rw [optsN_succ HX.out, ← hNN.out]; exact h40⟩
            · exact hN.out q (by omega) f hf)
          have HNN2 := Lib.hid (show n + (2 + 0) = optsN (F.take (j + 1)) by rw [optsN_succ HX.out, ← hNN.out])
          go_wp2
          exact ⟨⟨j + 1, n + (2 + 0), by go_num, by go_num, by ((try simp only [World.junk_junk, Array.append_assoc]); (repeat (first | with_reducible exact Junk.refl _ | with_reducible exact Junk.app _ _ _ _ _ | with_reducible exact Junk.app2 _ _ _ _ _ _ | with_reducible exact Junk.app3 _ _ _ _ _ _ _ | with_reducible exact Junk.app4 _ _ _ _ _ _ _ _ | with_reducible exact Junk.app5 _ _ _ _ _ _ _ _ _ | with_reducible apply Junk.alloc | with_reducible apply Junk.junk | with_reducible apply Junk.drew | with_reducible apply Junk.drewN))), by omega, HN2, HNN2, by omega⟩, by simp [intOf]; omega⟩
        have hj2 : (j : Int) < (i : Int) := by omega
        have hj3 : (j : Int) < (N : Int) := by omega
        obtain ⟨y, hy⟩ : ∃ y, F[j]? = some y := ⟨_, List.getElem?_eq_getElem (by rw [HF.out]; omega)⟩
        obtain ⟨bz, offz, hez, _, z0, z1, _⟩ := HS.out j y hy
        cases hez
        have HY := Lib.hid hy
        clear hy z1
        obtain ⟨yk, yoa, yl, yc, yxs⟩ := y
        dsimp only at z0
        cases e1 : (yk == 4) with
        | false =>
          have HM2 := Lib.hid (show ∀ q, q < j + 1 → ∀ g, F[q]? = some g → (g.k == 4) = false from fun q hq g hg => by
            by_cases h : q = j
            · subst h; rw [HY.out] at hg; cases hg; exact e1
            · exact hM.out q (by omega) g hg)
          go_wp2
          exact ⟨⟨j + 1, by go_num, by ((try simp only [World.junk_junk, Array.append_assoc]); (repeat (first | with_reducible exact Junk.refl _ | with_reducible exact Junk.app _ _ _ _ _ | with_reducible exact Junk.app2 _ _ _ _ _ _ | with_reducible exact Junk.app3 _ _ _ _ _ _ _ | with_reducible exact Junk.app4 _ _ _ _ _ _ _ _ | with_reducible exact Junk.app5 _ _ _ _ _ _ _ _ _ | with_reducible apply Junk.alloc | with_reducible apply Junk.junk | with_reducible apply Junk.drew | with_reducible apply Junk.drewN))), by omega, HM2⟩, by simp [intOf]; omega⟩
        | true =>
          have HE := Lib.hid (show T = false by rw [HT.out]; exact rtAll_bad HX.out (.inl (rightO_twice (by simp [knownB]) (any_take2 hji HY.out e1))))
          go_wp2
          go_ret
          exact ⟨by rw [HE.out] <;> rfl, by ((try simp only [World.junk_junk, Array.append_assoc]); (repeat (first | with_reducible exact Junk.refl _ | with_reducible exact Junk.app _ _ _ _ _ | with_reducible exact Junk.app2 _ _ _ _ _ _ | with_reducible exact Junk.app3 _ _ _ _ _ _ _ | with_reducible exact Junk.app4 _ _ _ _ _ _ _ _ | with_reducible exact Junk.app5 _ _ _ _ _ _ _ _ _ | with_reducible apply Junk.alloc | with_reducible apply Junk.junk | with_reducible apply Junk.drew | with_reducible apply Junk.drewN)))⟩
    by_cases hk8 : k = 8
    case pos =>
      subst hk8
      by_cases hsz : l = 8
      case neg =>
        have hsz' : ((l : Int) != 8) = true := by simp; omega
        have HE := Lib.hid (show T = false by rw [HT.out]; exact rtAll_bad HX.out (.inl (rightO_size (by simp [knownB]) (by simp [okSize]; omega))))
        clear hsz
        go_wp2
        refine wp_region_junk (by kernel_rfl) (by kernel_rfl) ?_; (repeat (go_big_quiet_step (first | fail))); refine wpQuiet_nil ?_; rintro _ ⟨⟨osq, dq⟩, rfl⟩
        go_wp2
        go_ret
        exact ⟨by rw [HE.out] <;> rfl, by ((try simp only [World.junk_junk, Array.append_assoc]); (repeat (first | with_reducible exact Junk.refl _ | with_reducible exact Junk.app _ _ _ _ _ | with_reducible exact Junk.app2 _ _ _ _ _ _ | with_reducible exact Junk.app3 _ _ _ _ _ _ _ | with_reducible exact Junk.app4 _ _ _ _ _ _ _ _ | with_reducible exact Junk.app5 _ _ _ _ _ _ _ _ _ | with_reducible apply Junk.alloc | with_reducible apply Junk.junk | with_reducible apply Junk.drew | with_reducible apply Junk.drewN)))⟩
      subst hsz
      have HZ := Lib.hid (show okSize 8 8 = true by decide)
      go_wp2
      refine wp_region_junk (by kernel_rfl) (by kernel_rfl) ?_; (repeat (go_big_quiet_step (first | fail))); refine wpQuiet_nil ?_; rintro _ ⟨⟨osq, dq⟩, rfl⟩
      go_wp2
      go_loopw [7] (fun t wr => ∃ j : Nat, t = .int .i64 (j : Int) ∧ Junk w wr ∧ j ≤ i ∧ Hid (∀ q, q < j → ∀ g, F[q]? = some g → (g.k == 8) = false)) (fun t _ => i + 1 - (intOf t).toNat)
      case atStart => exact ⟨0, rfl, by ((try simp only [World.junk_junk, Array.append_assoc]); (repeat (first | with_reducible exact Junk.refl _ | with_reducible exact Junk.app _ _ _ _ _ | with_reducible exact Junk.app2 _ _ _ _ _ _ | with_reducible exact Junk.app3 _ _ _ _ _ _ _ | with_reducible exact Junk.app4 _ _ _ _ _ _ _ _ | with_reducible exact Junk.app5 _ _ _ _ _ _ _ _ _ | with_reducible apply Junk.alloc | with_reducible apply Junk.junk | with_reducible apply Junk.drew | with_reducible apply Junk.drewN))), by omega, Lib.hid (fun q hq => by omega)⟩
      case round =>
        obtain ⟨j, rfl, ⟨oz, dz, rfl⟩, hj, hM⟩ := hrel
        by_cases hji : j < i
        case neg =>
          have hj2 : ¬ (j : Int) < (i : Int) := by omega
          obtain rfl : j = i := by omega
          by_cases h40 : n + (2 + 8) ≤ 40
          case neg =>
            have h40' : (40 : Int) < (n : Int) + (2 + (8 : Int)) := by omega
            have HE := Lib.hid (show T = false by rw [HT.out]; exact rtAll_bad HX.out (.inr (by rw [optsN_succ HX.out, ← hNN.out]; show 40 < n + (2 + 8); omega)))
            go_wp2
            go_ret
            exact ⟨by rw [HE.out] <;> rfl, by ((try simp only [World.junk_junk, Array.append_assoc]); (repeat (first | with_reducible exact Junk.refl _ | with_reducible exact Junk.app _ _ _ _ _ | with_reducible exact Junk.app2 _ _ _ _ _ _ | with_reducible exact Junk.app3 _ _ _ _ _ _ _ | with_reducible exact Junk.app4 _ _ _ _ _ _ _ _ | with_reducible exact Junk.app5 _ _ _ _ _ _ _ _ _ | with_reducible apply Junk.alloc | with_reducible apply Junk.junk | with_reducible apply Junk.drew | with_reducible apply Junk.drewN)))⟩
          have h40' : ¬ (40 : Int) < (n : Int) + (2 + (8 : Int)) := by omega
          have HN2 := Lib.hid (show ∀ q, q < j + 1 → ∀ f, F[q]? = some f → rightO (F.take q) f.k f.l = true ∧ optsN (F.take (q + 1)) ≤ 40 from fun q hq f hf => by
            by_cases h : q = j
            · subst h
              rw [HX.out] at hf
              cases hf
              exact ⟨rightO_known (by simp) (by simp [knownB]) HZ.out (any_take hM.out), by rw [optsN_succ HX.out, ← hNN.out]; exact h40⟩
            · exact hN.out q (by omega) f hf)
          have HNN2 := Lib.hid (show n + (2 + 8) = optsN (F.take (j + 1)) by rw [optsN_succ HX.out, ← hNN.out])
          go_wp2
          exact ⟨⟨j + 1, n + (2 + 8), by go_num, by go_num, by ((try simp only [World.junk_junk, Array.append_assoc]); (repeat (first | with_reducible exact Junk.refl _ | with_reducible exact Junk.app _ _ _ _ _ | with_reducible exact Junk.app2 _ _ _ _ _ _ | with_reducible exact Junk.app3 _ _ _ _ _ _ _ | with_reducible exact Junk.app4 _ _ _ _ _ _ _ _ | with_reducible exact Junk.app5 _ _ _ _ _ _ _ _ _ | with_reducible apply Junk.alloc | with_reducible apply Junk.junk | with_reducible apply Junk.drew | with_reducible apply Junk.drewN))), by omega, HN2, HNN2, by omega⟩, by simp [intOf]; omega⟩
        have hj2 : (j : Int) < (i : Int) := by omega
        have hj3 : (j : Int) < (N : Int) := by omega
        obtain ⟨y, hy⟩ : ∃ y, F[j]? = some y := ⟨_, List.getElem?_eq_getElem (by rw [HF.out]; omega)⟩
        obtain ⟨bz, offz, hez, _, z0, z1, _⟩ := HS.out j y hy
        cases hez
        have HY := Lib.hid hy
        clear hy z1
        obtain ⟨yk, yoa, yl, yc, yxs⟩ := y
        dsimp only at z0
        cases e1 : (yk == 8) with
        | false =>
          have HM2 := Lib.hid (show ∀ q, q < j + 1 → ∀ g, F[q]? = some g → (g.k == 8) = false from fun q hq g hg => by
            by_cases h : q = j
            · subst h; rw [HY.out] at hg; cases hg; exact e1
            · exact hM.out q (by omega) g hg)
          go_wp2
          exact ⟨⟨j + 1, by go_num, by ((try simp only [World.junk_junk, Array.append_assoc]); (repeat (first | with_reducible exact Junk.refl _ | with_reducible exact Junk.app _ _ _ _ _ | with_reducible exact Junk.app2 _ _ _ _ _ _ | with_reducible exact Junk.app3 _ _ _ _ _ _ _ | with_reducible exact Junk.app4 _ _ _ _ _ _ _ _ | with_reducible exact Junk.app5 _ _ _ _ _ _ _ _ _ | with_reducible apply Junk.alloc | with_reducible apply Junk.junk | with_reducible apply Junk.drew | with_reducible apply Junk.drewN))), by omega, HM2⟩, by simp [intOf]; omega⟩
        | true =>
          have HE := Lib.hid (show T = false by rw [HT.out]; exact rtAll_bad HX.out (.inl (rightO_twice (by simp [knownB]) (any_take2 hji HY.out e1))))
          go_wp2
          go_ret
          exact ⟨by rw [HE.out] <;> rfl, by ((try simp only [World.junk_junk, Array.append_assoc]); (repeat (first | with_reducible exact Junk.refl _ | with_reducible exact Junk.app _ _ _ _ _ | with_reducible exact Junk.app2 _ _ _ _ _ _ | with_reducible exact Junk.app3 _ _ _ _ _ _ _ | with_reducible exact Junk.app4 _ _ _ _ _ _ _ _ | with_reducible exact Junk.app5 _ _ _ _ _ _ _ _ _ | with_reducible apply Junk.alloc | with_reducible apply Junk.junk | with_reducible apply Junk.drew | with_reducible apply Junk.drewN)))⟩
    by_cases hk5 : k = 5
    case pos =>
      subst hk5
      by_cases hs0 : l = 0
      case pos =>
        subst hs0
        have HE := Lib.hid (show T = false by rw [HT.out]; exact rtAll_bad HX.out (.inl (rightO_size (by simp [knownB]) (by simp [okSize]))))
        go_wp2
        refine wp_region_junk (by kernel_rfl) (by kernel_rfl) ?_; (repeat (go_big_quiet_step (first | fail))); refine wpQuiet_nil ?_; rintro _ ⟨⟨osq, dq⟩, rfl⟩
        go_wp2
        go_ret
        exact ⟨by rw [HE.out] <;> rfl, by ((try simp only [World.junk_junk, Array.append_assoc]); (repeat (first | with_reducible exact Junk.refl _ | with_reducible exact Junk.app _ _ _ _ _ | with_reducible exact Junk.app2 _ _ _ _ _ _ | with_reducible exact Junk.app3 _ _ _ _ _ _ _ | with_reducible exact Junk.app4 _ _ _ _ _ _ _ _ | with_reducible exact Junk.app5 _ _ _ _ _ _ _ _ _ | with_reducible apply Junk.alloc | with_reducible apply Junk.junk | with_reducible apply Junk.drew | with_reducible apply Junk.drewN)))⟩
      have hs0' : ((l : Int) == 0) = false := by simp; omega
      by_cases hs32 : l ≤ 32
      case neg =>
        have hs32' : (32 : Int) < (l : Int) := by omega
        have HE := Lib.hid (show T = false by rw [HT.out]; exact rtAll_bad HX.out (.inl (rightO_size (by simp [knownB]) (by simp [okSize]; omega))))
        go_wp2
        refine wp_region_junk (by kernel_rfl) (by kernel_rfl) ?_; (repeat (go_big_quiet_step (first | fail))); refine wpQuiet_nil ?_; rintro _ ⟨⟨osq, dq⟩, rfl⟩
        go_wp2
        go_ret
        exact ⟨by rw [HE.out] <;> rfl, by ((try simp only [World.junk_junk, Array.append_assoc]); (repeat (first | with_reducible exact Junk.refl _ | with_reducible exact Junk.app _ _ _ _ _ | with_reducible exact Junk.app2 _ _ _ _ _ _ | with_reducible exact Junk.app3 _ _ _ _ _ _ _ | with_reducible exact Junk.app4 _ _ _ _ _ _ _ _ | with_reducible exact Junk.app5 _ _ _ _ _ _ _ _ _ | with_reducible apply Junk.alloc | with_reducible apply Junk.junk | with_reducible apply Junk.drew | with_reducible apply Junk.drewN)))⟩
      have hs32' : ¬ (32 : Int) < (l : Int) := by omega
      by_cases hs8 : l % 8 = 0
      case neg =>
        have hs8' : ((l : Int) % 8 != 0) = true := by simp; omega
        have HE := Lib.hid (show T = false by rw [HT.out]; exact rtAll_bad HX.out (.inl (rightO_size (by simp [knownB]) (by simp [okSize]; omega))))
        go_wp2
        refine wp_region_junk (by kernel_rfl) (by kernel_rfl) ?_; (repeat (go_big_quiet_step (first | fail))); refine wpQuiet_nil ?_; rintro _ ⟨⟨osq, dq⟩, rfl⟩
        go_wp2
        go_ret
        exact ⟨by rw [HE.out] <;> rfl, by ((try simp only [World.junk_junk, Array.append_assoc]); (repeat (first | with_reducible exact Junk.refl _ | with_reducible exact Junk.app _ _ _ _ _ | with_reducible exact Junk.app2 _ _ _ _ _ _ | with_reducible exact Junk.app3 _ _ _ _ _ _ _ | with_reducible exact Junk.app4 _ _ _ _ _ _ _ _ | with_reducible exact Junk.app5 _ _ _ _ _ _ _ _ _ | with_reducible apply Junk.alloc | with_reducible apply Junk.junk | with_reducible apply Junk.drew | with_reducible apply Junk.drewN)))⟩
      have hs8' : ((l : Int) % 8 != 0) = false := by simp; omega
      have HZ := Lib.hid (show okSize 5 l = true by simp [okSize]; omega)
      clear hs0 hs32 hs8
      go_wp2
      refine wp_region_junk (by kernel_rfl) (by kernel_rfl) ?_; (repeat (go_big_quiet_step (first | fail))); refine wpQuiet_nil ?_; rintro _ ⟨⟨osq, dq⟩, rfl⟩
      go_wp2
      go_loopw [7] (fun t wr => ∃ j : Nat, t = .int .i64 (j : Int) ∧ Junk w wr ∧ j ≤ i ∧ Hid (∀ q, q < j → ∀ g, F[q]? = some g → (g.k == 5) = false)) (fun t _ => i + 1 - (intOf t).toNat)
      case atStart => exact ⟨0, rfl, by ((try simp only [World.junk_junk, Array.append_assoc]); (repeat (first | with_reducible exact Junk.refl _ | with_reducible exact Junk.app _ _ _ _ _ | with_reducible exact Junk.app2 _ _ _ _ _ _ | with_reducible exact Junk.app3 _ _ _ _ _ _ _ | with_reducible exact Junk.app4 _ _ _ _ _ _ _ _ | with_reducible exact Junk.app5 _ _ _ _ _ _ _ _ _ | with_reducible apply Junk.alloc | with_reducible apply Junk.junk | with_reducible apply Junk.drew | with_reducible apply Junk.drewN))), by omega, Lib.hid (fun q hq => by omega)⟩
      case round =>
        obtain ⟨j, rfl, ⟨oz, dz, rfl⟩, hj, hM⟩ := hrel
        by_cases hji : j < i
        case neg =>
          have hj2 : ¬ (j : Int) < (i : Int) := by omega
          obtain rfl : j = i := by omega
          by_cases h40 : n + (2 + l) ≤ 40
          case neg =>
            have h40' : (40 : Int) < (n : Int) + (2 + (l : Int)) := by omega
            have HE := Lib.hid (show T = false by rw [HT.out]; exact rtAll_bad HX.out (.inr (by rw [optsN_succ HX.out, ← hNN.out]; show 40 < n + (2 + l); omega)))
            go_wp2
            go_ret
            exact ⟨by rw [HE.out] <;> rfl, by ((try simp only [World.junk_junk, Array.append_assoc]); (repeat (first | with_reducible exact Junk.refl _ | with_reducible exact Junk.app _ _ _ _ _ | with_reducible exact Junk.app2 _ _ _ _ _ _ | with_reducible exact Junk.app3 _ _ _ _ _ _ _ | with_reducible exact Junk.app4 _ _ _ _ _ _ _ _ | with_reducible exact Junk.app5 _ _ _ _ _ _ _ _ _ | with_reducible apply Junk.alloc | with_reducible apply Junk.junk | with_reducible apply Junk.drew | with_reducible apply Junk.drewN)))⟩
          have h40' : ¬ (40 : Int) < (n : Int) + (2 + (l : Int)) := by omega
          have HN2 := Lib.hid (show ∀ q, q < j + 1 → ∀ f, F[q]? = some f → rightO (F.take q) f.k f.l = true ∧ optsN (F.take (q + 1)) ≤ 40 from fun q hq f hf => by
            by_cases h : q = j
            · subst h
              rw [HX.out] at hf
              cases hf
              exact ⟨rightO_known (by simp) (by simp [knownB]) HZ.out (any_take hM.out), by rw [optsN_succ HX.out, ← hNN.out]; exact h40⟩
            · exact hN.out q (by omega) f hf)
          have HNN2 := Lib.hid (show n + (2 + l) = optsN (F.take (j + 1)) by rw [optsN_succ HX.out, ← hNN.out])
          go_wp2
          exact ⟨⟨j + 1, n + (2 + l), by go_num, by go_num, by ((try simp only [World.junk_junk, Array.append_assoc]); (repeat (first | with_reducible exact Junk.refl _ | with_reducible exact Junk.app _ _ _ _ _ | with_reducible exact Junk.app2 _ _ _ _ _ _ | with_reducible exact Junk.app3 _ _ _ _ _ _ _ | with_reducible exact Junk.app4 _ _ _ _ _ _ _ _ | with_reducible exact Junk.app5 _ _ _ _ _ _ _ _ _ | with_reducible apply Junk.alloc | with_reducible apply Junk.junk | with_reducible apply Junk.drew | with_reducible apply Junk.drewN))), by omega, HN2, HNN2, by omega⟩, by simp [intOf]; omega⟩
        have hj2 : (j : Int) < (i : Int) := by omega
        have hj3 : (j : Int) < (N : Int) := by omega
        obtain ⟨y, hy⟩ : ∃ y, F[j]? = some y := ⟨_, List.getElem?_eq_getElem (by rw [HF.out]; omega)⟩
        obtain ⟨bz, offz, hez, _, z0, z1, _⟩ := HS.out j y hy
        cases hez
        have HY := Lib.hid hy
        clear hy z1
        obtain ⟨yk, yoa, yl, yc, yxs⟩ := y
        dsimp only at z0
        cases e1 : (yk == 5) with
        | false =>
          have HM2 := Lib.hid (show ∀ q, q < j + 1 → ∀ g, F[q]? = some g → (g.k == 5) = false from fun q hq g hg => by
            by_cases h : q = j
            · subst h; rw [HY.out] at hg; cases hg; exact e1
            · exact hM.out q (by omega) g hg)
          go_wp2
          exact ⟨⟨j + 1, by go_num, by ((try simp only [World.junk_junk, Array.append_assoc]); (repeat (first | with_reducible exact Junk.refl _ | with_reducible exact Junk.app _ _ _ _ _ | with_reducible exact Junk.app2 _ _ _ _ _ _ | with_reducible exact Junk.app3 _ _ _ _ _ _ _ | with_reducible exact Junk.app4 _ _ _ _ _ _ _ _ | with_reducible exact Junk.app5 _ _ _ _ _ _ _ _ _ | with_reducible apply Junk.alloc | with_reducible apply Junk.junk | with_reducible apply Junk.drew | with_reducible apply Junk.drewN))), by omega, HM2⟩, by simp [intOf]; omega⟩
        | true =>
          have HE := Lib.hid (show T = false by rw [HT.out]; exact rtAll_bad HX.out (.inl (rightO_twice (by simp [knownB]) (any_take2 hji HY.out e1))))
          go_wp2
          go_ret
          exact ⟨by rw [HE.out] <;> rfl, by ((try simp only [World.junk_junk, Array.append_assoc]); (repeat (first | with_reducible exact Junk.refl _ | with_reducible exact Junk.app _ _ _ _ _ | with_reducible exact Junk.app2 _ _ _ _ _ _ | with_reducible exact Junk.app3 _ _ _ _ _ _ _ | with_reducible exact Junk.app4 _ _ _ _ _ _ _ _ | with_reducible exact Junk.app5 _ _ _ _ _ _ _ _ _ | with_reducible apply Junk.alloc | with_reducible apply Junk.junk | with_reducible apply Junk.drew | with_reducible apply Junk.drewN)))⟩
    have HK := Lib.hid (show knownB k = false by simp [knownB, hk2, hk3, hk4, hk5, hk8])
    have e2 : (k == 2) = false := by simpa using hk2
    have e3 : (k == 3) = false := by simpa using hk3
    have e4 : (k == 4) = false := by simpa using hk4
    have e5 : (k == 5) = false := by simpa using hk5
    have e8 : (k == 8) = false := by simpa using hk8
    by_cases hlo : 2 ≤ k
    case neg =>
      have hlo' : k < 2 := by omega
      have HE := Lib.hid (show T = false by rw [HT.out]; exact rtAll_bad HX.out (.inl (rightO_kind (by show ¬ (2 ≤ k ∧ k ≤ 255); omega))))
      clear hk2 hk3 hk4 hk5 hk8
      go_wp2
      refine wp_region_junk (by kernel_rfl) (by kernel_rfl) ?_; (repeat (go_big_quiet_step (first | fail))); refine wpQuiet_nil ?_; rintro _ ⟨⟨osq, dq⟩, rfl⟩
      go_wp2
      go_loopw [7] (fun t wr => ∃ j : Nat, t = .int .i64 (j : Int) ∧ Junk w wr ∧ j ≤ i ∧ Hid True) (fun t _ => i + 1 - (intOf t).toNat)
      case atStart => exact ⟨0, rfl, by ((try simp only [World.junk_junk, Array.append_assoc]); (repeat (first | with_reducible exact Junk.refl _ | with_reducible exact Junk.app _ _ _ _ _ | with_reducible exact Junk.app2 _ _ _ _ _ _ | with_reducible exact Junk.app3 _ _ _ _ _ _ _ | with_reducible exact Junk.app4 _ _ _ _ _ _ _ _ | with_reducible exact Junk.app5 _ _ _ _ _ _ _ _ _ | with_reducible apply Junk.alloc | with_reducible apply Junk.junk | with_reducible apply Junk.drew | with_reducible apply Junk.drewN))), by omega, Lib.hid trivial⟩
      case round =>
        obtain ⟨j, rfl, ⟨oz, dz, rfl⟩, hj, hM⟩ := hrel
        by_cases hji : j < i
        case neg =>
          have hj2 : ¬ (j : Int) < (i : Int) := by omega
          obtain rfl : j = i := by omega
          go_wp2
          go_ret
          exact ⟨by rw [HE.out] <;> rfl, by ((try simp only [World.junk_junk, Array.append_assoc]); (repeat (first | with_reducible exact Junk.refl _ | with_reducible exact Junk.app _ _ _ _ _ | with_reducible exact Junk.app2 _ _ _ _ _ _ | with_reducible exact Junk.app3 _ _ _ _ _ _ _ | with_reducible exact Junk.app4 _ _ _ _ _ _ _ _ | with_reducible exact Junk.app5 _ _ _ _ _ _ _ _ _ | with_reducible apply Junk.alloc | with_reducible apply Junk.junk | with_reducible apply Junk.drew | with_reducible apply Junk.drewN)))⟩
        have hj2 : (j : Int) < (i : Int) := by omega
        have hj3 : (j : Int) < (N : Int) := by omega
        obtain ⟨y, hy⟩ : ∃ y, F[j]? = some y := ⟨_, List.getElem?_eq_getElem (by rw [HF.out]; omega)⟩
        obtain ⟨bz, offz, hez, _, z0, z1, _⟩ := HS.out j y hy
        cases hez
        have HY := Lib.hid hy
        clear hy z1
        obtain ⟨yk, yoa, yl, yc, yxs⟩ := y
        dsimp only at z0
        cases e1 : (yk == k) with
        | false =>
          go_wp2
          exact ⟨⟨j + 1, by go_num, by ((try simp only [World.junk_junk, Array.append_assoc]); (repeat (first | with_reducible exact Junk.refl _ | with_reducible exact Junk.app _ _ _ _ _ | with_reducible exact Junk.app2 _ _ _ _ _ _ | with_reducible exact Junk.app3 _ _ _ _ _ _ _ | with_reducible exact Junk.app4 _ _ _ _ _ _ _ _ | with_reducible exact Junk.app5 _ _ _ _ _ _ _ _ _ | with_reducible apply Junk.alloc | with_reducible apply Junk.junk | with_reducible apply Junk.drew | with_reducible apply Junk.drewN))), by omega, Lib.hid trivial⟩, by simp [intOf]; omega⟩
        | true =>
          go_wp2
          exact ⟨⟨j + 1, by go_num, by ((try simp only [World.junk_junk, Array.append_assoc]); (repeat (first | with_reducible exact Junk.refl _ | with_reducible exact Junk.app _ _ _ _ _ | with_reducible exact Junk.app2 _ _ _ _ _ _ | with_reducible exact Junk.app3 _ _ _ _ _ _ _ | with_reducible exact Junk.app4 _ _ _ _ _ _ _ _ | with_reducible exact Junk.app5 _ _ _ _ _ _ _ _ _ | with_reducible apply Junk.alloc | with_reducible apply Junk.junk | with_reducible apply Junk.drew | with_reducible apply Junk.drewN))), by omega, Lib.hid trivial⟩, by simp [intOf]; omega⟩
    have hlo' : ¬ k < 2 := by omega
    have h6 : ¬ k ≤ 5 := by omega
    by_cases hhi : k ≤ 255
    case neg =>
      have hhi' : 255 < k := by omega
      have HE := Lib.hid (show T = false by rw [HT.out]; exact rtAll_bad HX.out (.inl (rightO_kind (by show ¬ (2 ≤ k ∧ k ≤ 255); omega))))
      clear hk2 hk3 hk4 hk5 hk8
      go_wp2
      refine wp_region_junk (by kernel_rfl) (by kernel_rfl) ?_; (repeat (go_big_quiet_step (first | fail))); refine wpQuiet_nil ?_; rintro _ ⟨⟨osq, dq⟩, rfl⟩
      go_wp2
      go_loopw [7] (fun t wr => ∃ j : Nat, t = .int .i64 (j : Int) ∧ Junk w wr ∧ j ≤ i ∧ Hid True) (fun t _ => i + 1 - (intOf t).toNat)
      case atStart => exact ⟨0, rfl, by ((try simp only [World.junk_junk, Array.append_assoc]); (repeat (first | with_reducible exact Junk.refl _ | with_reducible exact Junk.app _ _ _ _ _ | with_reducible exact Junk.app2 _ _ _ _ _ _ | with_reducible exact Junk.app3 _ _ _ _ _ _ _ | with_reducible exact Junk.app4 _ _ _ _ _ _ _ _ | with_reducible exact Junk.app5 _ _ _ _ _ _ _ _ _ | with_reducible apply Junk.alloc | with_reducible apply Junk.junk | with_reducible apply Junk.drew | with_reducible apply Junk.drewN))), by omega, Lib.hid trivial⟩
      case round =>
        obtain ⟨j, rfl, ⟨oz, dz, rfl⟩, hj, hM⟩ := hrel
        by_cases hji : j < i
        case neg =>
          have hj2 : ¬ (j : Int) < (i : Int) := by omega
          obtain rfl : j = i := by omega
          go_wp2
          go_ret
          exact ⟨by rw [HE.out] <;> rfl, by ((try simp only [World.junk_junk, Array.append_assoc]); (repeat (first | with_reducible exact Junk.refl _ | with_reducible exact Junk.app _ _ _ _ _ | with_reducible exact Junk.app2 _ _ _ _ _ _ | with_reducible exact Junk.app3 _ _ _ _ _ _ _ | with_reducible exact Junk.app4 _ _ _ _ _ _ _ _ | with_reducible exact Junk.app5 _ _ _ _ _ _ _ _ _ | with_reducible apply Junk.alloc | with_reducible apply Junk.junk | with_reducible apply Junk.drew | with_reducible apply Junk.drewN)))⟩
        have hj2 : (j : Int) < (i : Int) := by omega
        have hj3 : (j : Int) < (N : Int) := by omega
        obtain ⟨y, hy⟩ : ∃ y, F[j]? = some y := ⟨_, List.getElem?_eq_getElem (by rw [HF.out]; omega)⟩
        obtain ⟨bz, offz, hez, _, z0, z1, _⟩ := HS.out j y hy
        cases hez
        have HY := Lib.hid hy
        clear hy z1
        obtain ⟨yk, yoa, yl, yc, yxs⟩ := y
        dsimp only at z0
        cases e1 : (yk == k) with
        | false =>
          go_wp2
          exact ⟨⟨j + 1, by go_num, by ((try simp only [World.junk_junk, Array.append_assoc]); (repeat (first | with_reducible exact Junk.refl _ | with_reducible exact Junk.app _ _ _ _ _ | with_reducible exact Junk.app2 _ _ _ _ _ _ | with_reducible exact Junk.app3 _ _ _ _ _ _ _ | with_reducible exact Junk.app4 _ _ _ _ _ _ _ _ | with_reducible exact Junk.app5 _ _ _ _ _ _ _ _ _ | with_reducible apply Junk.alloc | with_reducible apply Junk.junk | with_reducible apply Junk.drew | with_reducible apply Junk.drewN))), by omega, Lib.hid trivial⟩, by simp [intOf]; omega⟩
        | true =>
          go_wp2
          exact ⟨⟨j + 1, by go_num, by ((try simp only [World.junk_junk, Array.append_assoc]); (repeat (first | with_reducible exact Junk.refl _ | with_reducible exact Junk.app _ _ _ _ _ | with_reducible exact Junk.app2 _ _ _ _ _ _ | with_reducible exact Junk.app3 _ _ _ _ _ _ _ | with_reducible exact Junk.app4 _ _ _ _ _ _ _ _ | with_reducible exact Junk.app5 _ _ _ _ _ _ _ _ _ | with_reducible apply Junk.alloc | with_reducible apply Junk.junk | with_reducible apply Junk.drew | with_reducible apply Junk.drewN))), by omega, Lib.hid trivial⟩, by simp [intOf]; omega⟩
    have hhi' : ¬ 255 < k := by omega
    clear hk2 hk3 hk4 hk5 hk8
    go_wp2
    refine wp_region_junk (by kernel_rfl) (by kernel_rfl) ?_; (repeat (go_big_quiet_step (first | fail))); refine wpQuiet_nil ?_; rintro _ ⟨⟨osq, dq⟩, rfl⟩
    go_wp2
    go_loopw [7] (fun t wr => ∃ j : Nat, t = .int .i64 (j : Int) ∧ Junk w wr ∧ j ≤ i ∧ Hid True) (fun t _ => i + 1 - (intOf t).toNat)
    case atStart => exact ⟨0, rfl, by ((try simp only [World.junk_junk, Array.append_assoc]); (repeat (first | with_reducible exact Junk.refl _ | with_reducible exact Junk.app _ _ _ _ _ | with_reducible exact Junk.app2 _ _ _ _ _ _ | with_reducible exact Junk.app3 _ _ _ _ _ _ _ | with_reducible exact Junk.app4 _ _ _ _ _ _ _ _ | with_reducible exact Junk.app5 _ _ _ _ _ _ _ _ _ | with_reducible apply Junk.alloc | with_reducible apply Junk.junk | with_reducible apply Junk.drew | with_reducible apply Junk.drewN))), by omega, Lib.hid trivial⟩
    case round =>
      obtain ⟨j, rfl, ⟨oz, dz, rfl⟩, hj, hM⟩ := hrel
      by_cases hji : j < i
      case neg =>
        have hj2 : ¬ (j : Int) < (i : Int) := by omega
        obtain rfl : j = i := by omega
        by_cases h40 : n + (2 + l) ≤ 40
        case neg =>
          have h40' : (40 : Int) < (n : Int) + (2 + (l : Int)) := by omega
          have HE := Lib.hid (show T = false by rw [HT.out]; exact rtAll_bad HX.out (.inr (by rw [optsN_succ HX.out, ← hNN.out]; show 40 < n + (2 + l); omega)))
          go_wp2
          go_ret
          exact ⟨by rw [HE.out] <;> rfl, by ((try simp only [World.junk_junk, Array.append_assoc]); (repeat (first | with_reducible exact Junk.refl _ | with_reducible exact Junk.app _ _ _ _ _ | with_reducible exact Junk.app2 _ _ _ _ _ _ | with_reducible exact Junk.app3 _ _ _ _ _ _ _ | with_reducible exact Junk.app4 _ _ _ _ _ _ _ _ | with_reducible exact Junk.app5 _ _ _ _ _ _ _ _ _ | with_reducible apply Junk.alloc | with_reducible apply Junk.junk | with_reducible apply Junk.drew | with_reducible apply Junk.drewN)))⟩
        have h40' : ¬ (40 : Int) < (n : Int) + (2 + (l : Int)) := by omega
        have HN2 := Lib.hid (show ∀ q, q < j + 1 → ∀ f, F[q]? = some f → rightO (F.take q) f.k f.l = true ∧ optsN (F.take (q + 1)) ≤ 40 from fun q hq f hf => by
          by_cases h : q = j
          · subst h
            rw [HX.out] at hf
            cases hf
            exact ⟨rightO_other ⟨by omega, by omega⟩ HK.out, by rw [optsN_succ HX.out, ← hNN.out]; exact h40⟩
          · exact hN.out q (by omega) f hf)
        have HNN2 := Lib.hid (show n + (2 + l) = optsN (F.take (j + 1)) by rw [optsN_succ HX.out, ← hNN.out])
        go_wp2
        exact ⟨⟨j + 1, n + (2 + l), by go_num, by go_num, by ((try simp only [World.junk_junk, Array.append_assoc]); (repeat (first | with_reducible exact Junk.refl _ | with_reducible exact Junk.app _ _ _ _ _ | with_reducible exact Junk.app2 _ _ _ _ _ _ | with_reducible exact Junk.app3 _ _ _ _ _ _ _ | with_reducible exact Junk.app4 _ _ _ _ _ _ _ _ | with_reducible exact Junk.app5 _ _ _ _ _ _ _ _ _ | with_reducible apply Junk.alloc | with_reducible apply Junk.junk | with_reducible apply Junk.drew | with_reducible apply Junk.drewN))), by omega, HN2, HNN2, by omega⟩, by simp [intOf]; omega⟩
      have hj2 : (j : Int) < (i : Int) := by omega
      have hj3 : (j : Int) < (N : Int) := by omega
      obtain ⟨y, hy⟩ : ∃ y, F[j]? = some y := ⟨_, List.getElem?_eq_getElem (by rw [HF.out]; omega)⟩
      obtain ⟨bz, offz, hez, _, z0, z1, _⟩ := HS.out j y hy
      cases hez
      have HY := Lib.hid hy
      clear hy z1
      obtain ⟨yk, yoa, yl, yc, yxs⟩ := y
      dsimp only at z0
      cases e1 : (yk == k) with
      | false =>
        go_wp2
        exact ⟨⟨j + 1, by go_num, by ((try simp only [World.junk_junk, Array.append_assoc]); (repeat (first | with_reducible exact Junk.refl _ | with_reducible exact Junk.app _ _ _ _ _ | with_reducible exact Junk.app2 _ _ _ _ _ _ | with_reducible exact Junk.app3 _ _ _ _ _ _ _ | with_reducible exact Junk.app4 _ _ _ _ _ _ _ _ | with_reducible exact Junk.app5 _ _ _ _ _ _ _ _ _ | with_reducible apply Junk.alloc | with_reducible apply Junk.junk | with_reducible apply Junk.drew | with_reducible apply Junk.drewN))), by omega, Lib.hid trivial⟩, by simp [intOf]; omega⟩
      | true =>
        go_wp2
        exact ⟨⟨j + 1, by go_num, by ((try simp only [World.junk_junk, Array.append_assoc]); (repeat (first | with_reducible exact Junk.refl _ | with_reducible exact Junk.app _ _ _ _ _ | with_reducible exact Junk.app2 _ _ _ _ _ _ | with_reducible exact Junk.app3 _ _ _ _ _ _ _ | with_reducible exact Junk.app4 _ _ _ _ _ _ _ _ | with_reducible exact Junk.app5 _ _ _ _ _ _ _ _ _ | with_reducible apply Junk.alloc | with_reducible apply Junk.junk | with_reducible apply Junk.drew | with_reducible apply Junk.drewN))), by omega, Lib.hid trivial⟩, by simp [intOf]; omega⟩
end Go.Proofs.YtfkhnhenemgcmaaDoor
