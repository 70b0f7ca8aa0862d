/- The law PoolAll: asked again and again, with whatever is wished and drawn, each port of a span is given once; then none. -/
import Derived.Test.YtambpmbgfjefcaaPoolP
import Derived.Test.YtambpmbgfjefcaaLift2
set_option linter.unusedVariables false
set_option maxRecDepth 100000
set_option linter.unusedSimpArgs false
namespace Go.Proofs.Ytambpmbgfjefcaa
open Go.RowKit
def intsL (k : Nat) (xs : Nat → Int) : List Value := (List.range k).map fun i => .int .i64 (xs i)
def addP (xs : Nat → Int) (k : Nat) (p : Int) : Nat → Int := fun i => if i = k then p else xs i
theorem intsL_add (k : Nat) (xs : Nat → Int) (p : Int) : intsL k xs ++ [.int .i64 p] = intsL (k + 1) (addP xs k p) := by
  unfold intsL
  rw [List.range_succ, List.map_append]
  congr 1
  · apply List.map_congr_left
    intro i hi
    have : i ≠ k := by have := List.mem_range.1 hi; omega
    simp [addP, this]
  · simp [addP]
theorem own_intsAt {B : Nat} {w : World} {e : TypeId} {oa : Option Addr} {cap n : Nat} {xs : Nat → Int} (h : Own B w e 1 oa cap n (intsL n xs)) : IntsAt w oa n .i64 xs := fun i hi => by
  obtain ⟨g, h1, _, h2, h3, _⟩ := h.cells i (.int .i64 (xs i)) (by simp [intsL, hi])
  exact ⟨g, 0, h1, h2, by simpa using h3⟩
set_option maxHeartbeats 8000000 in
theorem all_walk (lo size : Int) (ow od : Option Addr) (lw cw ld cd : Nat) (ws ds : Nat → Int) (w : World) (hlo : 0 ≤ lo ∧ lo ≤ 65535) (hsz : 0 ≤ size ∧ size ≤ 255) (hW : IntsAt w ow lw .u16 ws) (hD : IntsAt w od ld .u32 ds) (hws : ∀ i, i < lw → 0 ≤ ws i ∧ ws i ≤ 65535) (hds : ∀ i, i < ld → 0 ≤ ds i ∧ ds i ≤ 4294967295) :
    Calls Try.prog 6 #[.int .u16 lo, .int .u8 size, .slice ow lw cw, .slice od ld cd] w fun e w' => e = .returned (.bool true) ∧ Junk w w' := by
  have HW := Lib.hid hW
  have HD := Lib.hid hD
  have HWS := Lib.hid hws
  have HDS := Lib.hid hds
  clear hW hD hws hds
  obtain ⟨a, ha⟩ : ∃ a : Nat, lo % 60000 + 1 = (a : Int) := ⟨(lo % 60000 + 1).toNat, by omega⟩
  obtain ⟨N, hN⟩ : ∃ N : Nat, size % 60 + 1 = (N : Int) := ⟨(size % 60 + 1).toNat, by omega⟩
  obtain ⟨b, hb⟩ : ∃ b : Nat, (a : Int) + (N : Int) - 1 = (b : Int) := ⟨((a : Int) + N - 1).toNat, by omega⟩
  have n1 : 1 ≤ N := by omega
  have n9 : N ≤ 60 := by omega
  have a1 : 1 ≤ a := by omega
  have b9 : b ≤ 60100 := by omega
  have HR := Lib.hid (show rightB a b = true by simp [rightB]; omega)
  have hab : b + 1 - a = N := by omega
  have HAB := Lib.hid hab
  clear hab
  go_enter Try.func6, Try.ntmps6
  go_wp2_with (first | (go_at_call 10; refine (awake16_any _).mono ?_; rintro e w' ⟨rfl, ⟨osj, dj, rfl⟩⟩))
  go_loopw [11, 12] (fun v i wr => ∃ (k j : Nat) (xs : Nat → Int) (ob : Option Addr) (cap : Nat), v = .slice ob k cap ∧ i = .int .i64 (j : Int) ∧ Junk w wr ∧ Own w.heap.size wr 3 1 ob cap k (intsL k xs) ∧ Hid (poolFree a b xs k = N - k) ∧ k ≤ N ∧ k ≤ j ∧ j ≤ N + 1 ∧ (j ≤ N → k = j) ∧ (j = N + 1 → k = N)) (fun _ i _ => N + 2 - (intOf i).toNat)
  case atStart => exact ⟨0, 0, fun _ => 0, none, 0, rfl, rfl, by ((try simp only [World.junk_junk, Array.append_assoc]); (repeat (first | with_reducible exact Junk.refl _ | with_reducible exact Junk.app _ _ _ _ _ | with_reducible exact Junk.app2 _ _ _ _ _ _ | with_reducible exact Junk.app3 _ _ _ _ _ _ _ | with_reducible exact Junk.app4 _ _ _ _ _ _ _ _ | with_reducible exact Junk.app5 _ _ _ _ _ _ _ _ _ | with_reducible apply Junk.alloc | with_reducible apply Junk.junk | with_reducible apply Junk.drew | with_reducible apply Junk.drewN))), Own.nil _ _ _ _, Lib.hid (by rw [poolFree_nil HR.out, HAB.out]; rfl), by omega, by omega, by omega, fun _ => rfl, fun h => by omega⟩
  case round =>
    obtain ⟨k, j, xs, ob, cap, rfl, rfl, ⟨os, d, rfl⟩, hown, hF, hkN, hkj, hjN, hk1, hk2⟩ := hrel
    have Hown := Lib.hid hown
    clear hown
    by_cases hle : j ≤ N
    · obtain rfl : j = k := (hk1 hle).symm
      have hle2 : (j : Int) ≤ (N : Int) := by omega
      clear hk1 hk2
      by_cases hw1 : j < lw
      · have hw2 : (j : Int) < (lw : Int) := by omega
        obtain ⟨bw, offw, rfl, hbw, hcw⟩ := HW.out j hw1
        have hwb := HWS.out j hw1
        by_cases hd1 : j < ld
        · have hd2 : (j : Int) < (ld : Int) := by omega
          obtain ⟨bd, offd, rfl, hbd, hcd⟩ := HD.out j hd1
          have hdb := HDS.out j hd1
          obtain ⟨D, hDD⟩ : ∃ D : Nat, ds j = (D : Int) := ⟨(ds j).toNat, by omega⟩
          rw [hDD] at hcd
          have hD9 : D < 4294967296 := by omega
          clear hDD hdb
          by_cases hlt : j < N
          · have hlt2 : (j : Int) < (N : Int) := by omega
            have hok : (poolChoose a b xs j (ws j) D).2 = true := by rw [choose_ok HR.out, hF.out]; simp; omega
            obtain ⟨P, hp1, hp2, hp3, hp4⟩ := choose_free HR.out hok
            have HC := Lib.hid (show poolChoose a b xs j (ws j) D = ((P : Int), true) from Prod.ext hp1 hok)
            have HT := Lib.hid (taken_none hp2 hp3 hp4)
            have HF2 := Lib.hid (poolFree_more (ys := addP xs j P) HR.out hp2 hp3 hp4 (fun i hi => by simp [addP]; omega) (by simp [addP]))
            clear hok hp1 hp4
            go_wp2_with (first | (go_at_call 12; refine (choose_any (a : Int) (b : Int) _ j cap xs (ws j) D _ (by omega) (by omega) (own_intsAt (Hown.out.on (by ((try simp only [World.junk_junk, Array.append_assoc]); (repeat (first | with_reducible exact Junk.refl _ | with_reducible exact Junk.app _ _ _ _ _ | with_reducible exact Junk.app2 _ _ _ _ _ _ | with_reducible exact Junk.app3 _ _ _ _ _ _ _ | with_reducible exact Junk.app4 _ _ _ _ _ _ _ _ | with_reducible exact Junk.app5 _ _ _ _ _ _ _ _ _ | with_reducible apply Junk.alloc | with_reducible apply Junk.junk | with_reducible apply Junk.drew | with_reducible apply Junk.drewN))))))).mono ?_; rintro e w' ⟨rfl, ⟨osj2, dj2, rfl⟩⟩; rw [HC.out]))
            go_loopw [17] (fun i wr => ∃ m : Nat, i = .int .i64 (m : Int) ∧ wr = w.junk (os ++ osj2) dj2 ∧ m ≤ j) (fun i _ => j + 1 - (intOf i).toNat)
            case atStart => exact ⟨0, rfl, by first | rfl | trivial | simp, by omega⟩
            case round =>
              obtain ⟨m, rfl, rfl, hm⟩ := hrel
              by_cases hmj : m < j
              · have hmj2 : (m : Int) < (j : Int) := by omega
                have hne : (xs m == (P : Int)) = false := by have := HT.out m hmj; simpa using this
                obtain ⟨g, off, rfl, hg, hcm⟩ := own_intsAt (Hown.out.on (show Junk _ (w.junk (os ++ osj2) dj2) from by ((try simp only [World.junk_junk, Array.append_assoc]); (repeat (first | with_reducible exact Junk.refl _ | with_reducible exact Junk.app _ _ _ _ _ | with_reducible exact Junk.app2 _ _ _ _ _ _ | with_reducible exact Junk.app3 _ _ _ _ _ _ _ | with_reducible exact Junk.app4 _ _ _ _ _ _ _ _ | with_reducible exact Junk.app5 _ _ _ _ _ _ _ _ _ | with_reducible apply Junk.alloc | with_reducible apply Junk.junk | with_reducible apply Junk.drew | with_reducible apply Junk.drewN))))) m hmj
                go_wp2
                exact ⟨⟨m + 1, by go_num, by first | rfl | trivial | simp, by omega⟩, by simp [intOf]; omega⟩
              · have hmj2 : ¬ (m : Int) < (j : Int) := by omega
                go_wp2_with (at_builtin; (refine ap_own (W0 := w) rfl _ _ 22 rfl 3 (.int .i64 0) 1 8 (by kernel_rfl) rfl (by decide) Try.underlying22 (by ((try simp only [World.junk_junk, Array.append_assoc]); (repeat (first | with_reducible exact Junk.refl _ | with_reducible exact Junk.app _ _ _ _ _ | with_reducible exact Junk.app2 _ _ _ _ _ _ | with_reducible exact Junk.app3 _ _ _ _ _ _ _ | with_reducible exact Junk.app4 _ _ _ _ _ _ _ _ | with_reducible exact Junk.app5 _ _ _ _ _ _ _ _ _ | with_reducible apply Junk.alloc | with_reducible apply Junk.junk | with_reducible apply Junk.drew | with_reducible apply Junk.drewN)))) ob cap j _ rfl (Hown.out.on (by ((try simp only [World.junk_junk, Array.append_assoc]); (repeat (first | with_reducible exact Junk.refl _ | with_reducible exact Junk.app _ _ _ _ _ | with_reducible exact Junk.app2 _ _ _ _ _ _ | with_reducible exact Junk.app3 _ _ _ _ _ _ _ | with_reducible exact Junk.app4 _ _ _ _ _ _ _ _ | with_reducible exact Junk.app5 _ _ _ _ _ _ _ _ _ | with_reducible apply Junk.alloc | with_reducible apply Junk.junk | with_reducible apply Junk.drew | with_reducible apply Junk.drewN))))) _ 1 1 rfl [_] rfl (built_cells (by simp)) (fun h => by cases h) (by simp [Value.oneCell']) (by simp only [maxLen]; omega) (by omega) ?_; intro oa' cap' os' d' hown' _; rw [intsL_add] at hown'; have Hown2 := Lib.hid hown'; clear hown'))
                exact ⟨⟨j + 1, j + 1, addP xs j P, oa', cap', rfl, by go_num, by ((try simp only [World.junk_junk, Array.append_assoc]); (repeat (first | with_reducible exact Junk.refl _ | with_reducible exact Junk.app _ _ _ _ _ | with_reducible exact Junk.app2 _ _ _ _ _ _ | with_reducible exact Junk.app3 _ _ _ _ _ _ _ | with_reducible exact Junk.app4 _ _ _ _ _ _ _ _ | with_reducible exact Junk.app5 _ _ _ _ _ _ _ _ _ | with_reducible apply Junk.alloc | with_reducible apply Junk.junk | with_reducible apply Junk.drew | with_reducible apply Junk.drewN))), Hown2.out, Lib.hid (by have := HF2.out; have := hF.out; omega), by omega, by omega, by omega, fun _ => rfl, fun h => by omega⟩, by simp [intOf]; omega⟩
          · have hlt2 : ¬ (j : Int) < (N : Int) := by omega
            have hok : (poolChoose a b xs j (ws j) D).2 = false := by rw [choose_ok HR.out, hF.out]; simp; omega
            obtain ⟨V, hV⟩ : ∃ V, V = (poolChoose a b xs j (ws j) D).1 := ⟨_, rfl⟩
            have HC := Lib.hid (show poolChoose a b xs j (ws j) D = (V, false) from Prod.ext hV.symm hok)
            clear hok hV
            go_wp2_with (first | (go_at_call 12; refine (choose_any (a : Int) (b : Int) _ j cap xs (ws j) D _ (by omega) (by omega) (own_intsAt (Hown.out.on (by ((try simp only [World.junk_junk, Array.append_assoc]); (repeat (first | with_reducible exact Junk.refl _ | with_reducible exact Junk.app _ _ _ _ _ | with_reducible exact Junk.app2 _ _ _ _ _ _ | with_reducible exact Junk.app3 _ _ _ _ _ _ _ | with_reducible exact Junk.app4 _ _ _ _ _ _ _ _ | with_reducible exact Junk.app5 _ _ _ _ _ _ _ _ _ | with_reducible apply Junk.alloc | with_reducible apply Junk.junk | with_reducible apply Junk.drew | with_reducible apply Junk.drewN))))))).mono ?_; rintro e w' ⟨rfl, ⟨osj2, dj2, rfl⟩⟩; rw [HC.out]))
            go_loopw [17] (fun i wr => ∃ m : Nat, i = .int .i64 (m : Int) ∧ wr = w.junk (os ++ osj2) dj2 ∧ m ≤ j) (fun i _ => j + 1 - (intOf i).toNat)
            case atStart => exact ⟨0, rfl, by first | rfl | trivial | simp, by omega⟩
            case round =>
              obtain ⟨m, rfl, rfl, hm⟩ := hrel
              by_cases hmj : m < j
              · have hmj2 : (m : Int) < (j : Int) := by omega
                go_wp2
                exact ⟨⟨m + 1, by go_num, by first | rfl | trivial | simp, by omega⟩, by simp [intOf]; omega⟩
              · have hmj2 : ¬ (m : Int) < (j : Int) := by omega
                go_wp2
                exact ⟨⟨j, j + 1, xs, ob, cap, rfl, by go_num, by ((try simp only [World.junk_junk, Array.append_assoc]); (repeat (first | with_reducible exact Junk.refl _ | with_reducible exact Junk.app _ _ _ _ _ | with_reducible exact Junk.app2 _ _ _ _ _ _ | with_reducible exact Junk.app3 _ _ _ _ _ _ _ | with_reducible exact Junk.app4 _ _ _ _ _ _ _ _ | with_reducible exact Junk.app5 _ _ _ _ _ _ _ _ _ | with_reducible apply Junk.alloc | with_reducible apply Junk.junk | with_reducible apply Junk.drew | with_reducible apply Junk.drewN))), Hown.out.on (by ((try simp only [World.junk_junk, Array.append_assoc]); (repeat (first | with_reducible exact Junk.refl _ | with_reducible exact Junk.app _ _ _ _ _ | with_reducible exact Junk.app2 _ _ _ _ _ _ | with_reducible exact Junk.app3 _ _ _ _ _ _ _ | with_reducible exact Junk.app4 _ _ _ _ _ _ _ _ | with_reducible exact Junk.app5 _ _ _ _ _ _ _ _ _ | with_reducible apply Junk.alloc | with_reducible apply Junk.junk | with_reducible apply Junk.drew | with_reducible apply Junk.drewN)))), hF, by omega, by omega, by omega, fun h => by omega, fun h => by omega⟩, by simp [intOf]; omega⟩
        · have hd2 : ¬ (j : Int) < (ld : Int) := by omega
          by_cases hlt : j < N
          · have hlt2 : (j : Int) < (N : Int) := by omega
            have hok : (poolChoose a b xs j (ws j) j).2 = true := by rw [choose_ok HR.out, hF.out]; simp; omega
            obtain ⟨P, hp1, hp2, hp3, hp4⟩ := choose_free HR.out hok
            have HC := Lib.hid (show poolChoose a b xs j (ws j) j = ((P : Int), true) from Prod.ext hp1 hok)
            have HT := Lib.hid (taken_none hp2 hp3 hp4)
            have HF2 := Lib.hid (poolFree_more (ys := addP xs j P) HR.out hp2 hp3 hp4 (fun i hi => by simp [addP]; omega) (by simp [addP]))
            clear hok hp1 hp4
            go_wp2_with (first | (go_at_call 12; refine (choose_any (a : Int) (b : Int) _ j cap xs (ws j) j _ (by omega) (by omega) (own_intsAt (Hown.out.on (by ((try simp only [World.junk_junk, Array.append_assoc]); (repeat (first | with_reducible exact Junk.refl _ | with_reducible exact Junk.app _ _ _ _ _ | with_reducible exact Junk.app2 _ _ _ _ _ _ | with_reducible exact Junk.app3 _ _ _ _ _ _ _ | with_reducible exact Junk.app4 _ _ _ _ _ _ _ _ | with_reducible exact Junk.app5 _ _ _ _ _ _ _ _ _ | with_reducible apply Junk.alloc | with_reducible apply Junk.junk | with_reducible apply Junk.drew | with_reducible apply Junk.drewN))))))).mono ?_; rintro e w' ⟨rfl, ⟨osj2, dj2, rfl⟩⟩; rw [HC.out]))
            go_loopw [17] (fun i wr => ∃ m : Nat, i = .int .i64 (m : Int) ∧ wr = w.junk (os ++ osj2) dj2 ∧ m ≤ j) (fun i _ => j + 1 - (intOf i).toNat)
            case atStart => exact ⟨0, rfl, by first | rfl | trivial | simp, by omega⟩
            case round =>
              obtain ⟨m, rfl, rfl, hm⟩ := hrel
              by_cases hmj : m < j
              · have hmj2 : (m : Int) < (j : Int) := by omega
                have hne : (xs m == (P : Int)) = false := by have := HT.out m hmj; simpa using this
                obtain ⟨g, off, rfl, hg, hcm⟩ := own_intsAt (Hown.out.on (show Junk _ (w.junk (os ++ osj2) dj2) from by ((try simp only [World.junk_junk, Array.append_assoc]); (repeat (first | with_reducible exact Junk.refl _ | with_reducible exact Junk.app _ _ _ _ _ | with_reducible exact Junk.app2 _ _ _ _ _ _ | with_reducible exact Junk.app3 _ _ _ _ _ _ _ | with_reducible exact Junk.app4 _ _ _ _ _ _ _ _ | with_reducible exact Junk.app5 _ _ _ _ _ _ _ _ _ | with_reducible apply Junk.alloc | with_reducible apply Junk.junk | with_reducible apply Junk.drew | with_reducible apply Junk.drewN))))) m hmj
                go_wp2
                exact ⟨⟨m + 1, by go_num, by first | rfl | trivial | simp, by omega⟩, by simp [intOf]; omega⟩
              · have hmj2 : ¬ (m : Int) < (j : Int) := by omega
                go_wp2_with (at_builtin; (refine ap_own (W0 := w) rfl _ _ 22 rfl 3 (.int .i64 0) 1 8 (by kernel_rfl) rfl (by decide) Try.underlying22 (by ((try simp only [World.junk_junk, Array.append_assoc]); (repeat (first | with_reducible exact Junk.refl _ | with_reducible exact Junk.app _ _ _ _ _ | with_reducible exact Junk.app2 _ _ _ _ _ _ | with_reducible exact Junk.app3 _ _ _ _ _ _ _ | with_reducible exact Junk.app4 _ _ _ _ _ _ _ _ | with_reducible exact Junk.app5 _ _ _ _ _ _ _ _ _ | with_reducible apply Junk.alloc | with_reducible apply Junk.junk | with_reducible apply Junk.drew | with_reducible apply Junk.drewN)))) ob cap j _ rfl (Hown.out.on (by ((try simp only [World.junk_junk, Array.append_assoc]); (repeat (first | with_reducible exact Junk.refl _ | with_reducible exact Junk.app _ _ _ _ _ | with_reducible exact Junk.app2 _ _ _ _ _ _ | with_reducible exact Junk.app3 _ _ _ _ _ _ _ | with_reducible exact Junk.app4 _ _ _ _ _ _ _ _ | with_reducible exact Junk.app5 _ _ _ _ _ _ _ _ _ | with_reducible apply Junk.alloc | with_reducible apply Junk.junk | with_reducible apply Junk.drew | with_reducible apply Junk.drewN))))) _ 1 1 rfl [_] rfl (built_cells (by simp)) (fun h => by cases h) (by simp [Value.oneCell']) (by simp only [maxLen]; omega) (by omega) ?_; intro oa' cap' os' d' hown' _; rw [intsL_add] at hown'; have Hown2 := Lib.hid hown'; clear hown'))
                exact ⟨⟨j + 1, j + 1, addP xs j P, oa', cap', rfl, by go_num, by ((try simp only [World.junk_junk, Array.append_assoc]); (repeat (first | with_reducible exact Junk.refl _ | with_reducible exact Junk.app _ _ _ _ _ | with_reducible exact Junk.app2 _ _ _ _ _ _ | with_reducible exact Junk.app3 _ _ _ _ _ _ _ | with_reducible exact Junk.app4 _ _ _ _ _ _ _ _ | with_reducible exact Junk.app5 _ _ _ _ _ _ _ _ _ | with_reducible apply Junk.alloc | with_reducible apply Junk.junk | with_reducible apply Junk.drew | with_reducible apply Junk.drewN))), Hown2.out, Lib.hid (by have := HF2.out; have := hF.out; omega), by omega, by omega, by omega, fun _ => rfl, fun h => by omega⟩, by simp [intOf]; omega⟩
          · have hlt2 : ¬ (j : Int) < (N : Int) := by omega
            have hok : (poolChoose a b xs j (ws j) j).2 = false := by rw [choose_ok HR.out, hF.out]; simp; omega
            obtain ⟨V, hV⟩ : ∃ V, V = (poolChoose a b xs j (ws j) j).1 := ⟨_, rfl⟩
            have HC := Lib.hid (show poolChoose a b xs j (ws j) j = (V, false) from Prod.ext hV.symm hok)
            clear hok hV
            go_wp2_with (first | (go_at_call 12; refine (choose_any (a : Int) (b : Int) _ j cap xs (ws j) j _ (by omega) (by omega) (own_intsAt (Hown.out.on (by ((try simp only [World.junk_junk, Array.append_assoc]); (repeat (first | with_reducible exact Junk.refl _ | with_reducible exact Junk.app _ _ _ _ _ | with_reducible exact Junk.app2 _ _ _ _ _ _ | with_reducible exact Junk.app3 _ _ _ _ _ _ _ | with_reducible exact Junk.app4 _ _ _ _ _ _ _ _ | with_reducible exact Junk.app5 _ _ _ _ _ _ _ _ _ | with_reducible apply Junk.alloc | with_reducible apply Junk.junk | with_reducible apply Junk.drew | with_reducible apply Junk.drewN))))))).mono ?_; rintro e w' ⟨rfl, ⟨osj2, dj2, rfl⟩⟩; rw [HC.out]))
            go_loopw [17] (fun i wr => ∃ m : Nat, i = .int .i64 (m : Int) ∧ wr = w.junk (os ++ osj2) dj2 ∧ m ≤ j) (fun i _ => j + 1 - (intOf i).toNat)
            case atStart => exact ⟨0, rfl, by first | rfl | trivial | simp, by omega⟩
            case round =>
              obtain ⟨m, rfl, rfl, hm⟩ := hrel
              by_cases hmj : m < j
              · have hmj2 : (m : Int) < (j : Int) := by omega
                go_wp2
                exact ⟨⟨m + 1, by go_num, by first | rfl | trivial | simp, by omega⟩, by simp [intOf]; omega⟩
              · have hmj2 : ¬ (m : Int) < (j : Int) := by omega
                go_wp2
                exact ⟨⟨j, j + 1, xs, ob, cap, rfl, by go_num, by ((try simp only [World.junk_junk, Array.append_assoc]); (repeat (first | with_reducible exact Junk.refl _ | with_reducible exact Junk.app _ _ _ _ _ | with_reducible exact Junk.app2 _ _ _ _ _ _ | with_reducible exact Junk.app3 _ _ _ _ _ _ _ | with_reducible exact Junk.app4 _ _ _ _ _ _ _ _ | with_reducible exact Junk.app5 _ _ _ _ _ _ _ _ _ | with_reducible apply Junk.alloc | with_reducible apply Junk.junk | with_reducible apply Junk.drew | with_reducible apply Junk.drewN))), Hown.out.on (by ((try simp only [World.junk_junk, Array.append_assoc]); (repeat (first | with_reducible exact Junk.refl _ | with_reducible exact Junk.app _ _ _ _ _ | with_reducible exact Junk.app2 _ _ _ _ _ _ | with_reducible exact Junk.app3 _ _ _ _ _ _ _ | with_reducible exact Junk.app4 _ _ _ _ _ _ _ _ | with_reducible exact Junk.app5 _ _ _ _ _ _ _ _ _ | with_reducible apply Junk.alloc | with_reducible apply Junk.junk | with_reducible apply Junk.drew | with_reducible apply Junk.drewN)))), hF, by omega, by omega, by omega, fun h => by omega, fun h => by omega⟩, by simp [intOf]; omega⟩
      · have hw2 : ¬ (j : Int) < (lw : Int) := by omega
        by_cases hd1 : j < ld
        · have hd2 : (j : Int) < (ld : Int) := by omega
          obtain ⟨bd, offd, rfl, hbd, hcd⟩ := HD.out j hd1
          have hdb := HDS.out j hd1
          obtain ⟨D, hDD⟩ : ∃ D : Nat, ds j = (D : Int) := ⟨(ds j).toNat, by omega⟩
          rw [hDD] at hcd
          have hD9 : D < 4294967296 := by omega
          clear hDD hdb
          by_cases hlt : j < N
          · have hlt2 : (j : Int) < (N : Int) := by omega
            have hok : (poolChoose a b xs j 80 D).2 = true := by rw [choose_ok HR.out, hF.out]; simp; omega
            obtain ⟨P, hp1, hp2, hp3, hp4⟩ := choose_free HR.out hok
            have HC := Lib.hid (show poolChoose a b xs j 80 D = ((P : Int), true) from Prod.ext hp1 hok)
            have HT := Lib.hid (taken_none hp2 hp3 hp4)
            have HF2 := Lib.hid (poolFree_more (ys := addP xs j P) HR.out hp2 hp3 hp4 (fun i hi => by simp [addP]; omega) (by simp [addP]))
            clear hok hp1 hp4
            go_wp2_with (first | (go_at_call 12; refine (choose_any (a : Int) (b : Int) _ j cap xs 80 D _ (by omega) (by omega) (own_intsAt (Hown.out.on (by ((try simp only [World.junk_junk, Array.append_assoc]); (repeat (first | with_reducible exact Junk.refl _ | with_reducible exact Junk.app _ _ _ _ _ | with_reducible exact Junk.app2 _ _ _ _ _ _ | with_reducible exact Junk.app3 _ _ _ _ _ _ _ | with_reducible exact Junk.app4 _ _ _ _ _ _ _ _ | with_reducible exact Junk.app5 _ _ _ _ _ _ _ _ _ | with_reducible apply Junk.alloc | with_reducible apply Junk.junk | with_reducible apply Junk.drew | with_reducible apply Junk.drewN))))))).mono ?_; rintro e w' ⟨rfl, ⟨osj2, dj2, rfl⟩⟩; rw [HC.out]))
            go_loopw [17] (fun i wr => ∃ m : Nat, i = .int .i64 (m : Int) ∧ wr = w.junk (os ++ osj2) dj2 ∧ m ≤ j) (fun i _ => j + 1 - (intOf i).toNat)
            case atStart => exact ⟨0, rfl, by first | rfl | trivial | simp, by omega⟩
            case round =>
              obtain ⟨m, rfl, rfl, hm⟩ := hrel
              by_cases hmj : m < j
              · have hmj2 : (m : Int) < (j : Int) := by omega
                have hne : (xs m == (P : Int)) = false := by have := HT.out m hmj; simpa using this
                obtain ⟨g, off, rfl, hg, hcm⟩ := own_intsAt (Hown.out.on (show Junk _ (w.junk (os ++ osj2) dj2) from by ((try simp only [World.junk_junk, Array.append_assoc]); (repeat (first | with_reducible exact Junk.refl _ | with_reducible exact Junk.app _ _ _ _ _ | with_reducible exact Junk.app2 _ _ _ _ _ _ | with_reducible exact Junk.app3 _ _ _ _ _ _ _ | with_reducible exact Junk.app4 _ _ _ _ _ _ _ _ | with_reducible exact Junk.app5 _ _ _ _ _ _ _ _ _ | with_reducible apply Junk.alloc | with_reducible apply Junk.junk | with_reducible apply Junk.drew | with_reducible apply Junk.drewN))))) m hmj
                go_wp2
                exact ⟨⟨m + 1, by go_num, by first | rfl | trivial | simp, by omega⟩, by simp [intOf]; omega⟩
              · have hmj2 : ¬ (m : Int) < (j : Int) := by omega
                go_wp2_with (at_builtin; (refine ap_own (W0 := w) rfl _ _ 22 rfl 3 (.int .i64 0) 1 8 (by kernel_rfl) rfl (by decide) Try.underlying22 (by ((try simp only [World.junk_junk, Array.append_assoc]); (repeat (first | with_reducible exact Junk.refl _ | with_reducible exact Junk.app _ _ _ _ _ | with_reducible exact Junk.app2 _ _ _ _ _ _ | with_reducible exact Junk.app3 _ _ _ _ _ _ _ | with_reducible exact Junk.app4 _ _ _ _ _ _ _ _ | with_reducible exact Junk.app5 _ _ _ _ _ _ _ _ _ | with_reducible apply Junk.alloc | with_reducible apply Junk.junk | with_reducible apply Junk.drew | with_reducible apply Junk.drewN)))) ob cap j _ rfl (Hown.out.on (by ((try simp only [World.junk_junk, Array.append_assoc]); (repeat (first | with_reducible exact Junk.refl _ | with_reducible exact Junk.app _ _ _ _ _ | with_reducible exact Junk.app2 _ _ _ _ _ _ | with_reducible exact Junk.app3 _ _ _ _ _ _ _ | with_reducible exact Junk.app4 _ _ _ _ _ _ _ _ | with_reducible exact Junk.app5 _ _ _ _ _ _ _ _ _ | with_reducible apply Junk.alloc | with_reducible apply Junk.junk | with_reducible apply Junk.drew | with_reducible apply Junk.drewN))))) _ 1 1 rfl [_] rfl (built_cells (by simp)) (fun h => by cases h) (by simp [Value.oneCell']) (by simp only [maxLen]; omega) (by omega) ?_; intro oa' cap' os' d' hown' _; rw [intsL_add] at hown'; have Hown2 := Lib.hid hown'; clear hown'))
                exact ⟨⟨j + 1, j + 1, addP xs j P, oa', cap', rfl, by go_num, by ((try simp only [World.junk_junk, Array.append_assoc]); (repeat (first | with_reducible exact Junk.refl _ | with_reducible exact Junk.app _ _ _ _ _ | with_reducible exact Junk.app2 _ _ _ _ _ _ | with_reducible exact Junk.app3 _ _ _ _ _ _ _ | with_reducible exact Junk.app4 _ _ _ _ _ _ _ _ | with_reducible exact Junk.app5 _ _ _ _ _ _ _ _ _ | with_reducible apply Junk.alloc | with_reducible apply Junk.junk | with_reducible apply Junk.drew | with_reducible apply Junk.drewN))), Hown2.out, Lib.hid (by have := HF2.out; have := hF.out; omega), by omega, by omega, by omega, fun _ => rfl, fun h => by omega⟩, by simp [intOf]; omega⟩
          · have hlt2 : ¬ (j : Int) < (N : Int) := by omega
            have hok : (poolChoose a b xs j 80 D).2 = false := by rw [choose_ok HR.out, hF.out]; simp; omega
            obtain ⟨V, hV⟩ : ∃ V, V = (poolChoose a b xs j 80 D).1 := ⟨_, rfl⟩
            have HC := Lib.hid (show poolChoose a b xs j 80 D = (V, false) from Prod.ext hV.symm hok)
            clear hok hV
            go_wp2_with (first | (go_at_call 12; refine (choose_any (a : Int) (b : Int) _ j cap xs 80 D _ (by omega) (by omega) (own_intsAt (Hown.out.on (by ((try simp only [World.junk_junk, Array.append_assoc]); (repeat (first | with_reducible exact Junk.refl _ | with_reducible exact Junk.app _ _ _ _ _ | with_reducible exact Junk.app2 _ _ _ _ _ _ | with_reducible exact Junk.app3 _ _ _ _ _ _ _ | with_reducible exact Junk.app4 _ _ _ _ _ _ _ _ | with_reducible exact Junk.app5 _ _ _ _ _ _ _ _ _ | with_reducible apply Junk.alloc | with_reducible apply Junk.junk | with_reducible apply Junk.drew | with_reducible apply Junk.drewN))))))).mono ?_; rintro e w' ⟨rfl, ⟨osj2, dj2, rfl⟩⟩; rw [HC.out]))
            go_loopw [17] (fun i wr => ∃ m : Nat, i = .int .i64 (m : Int) ∧ wr = w.junk (os ++ osj2) dj2 ∧ m ≤ j) (fun i _ => j + 1 - (intOf i).toNat)
            case atStart => exact ⟨0, rfl, by first | rfl | trivial | simp, by omega⟩
            case round =>
              obtain ⟨m, rfl, rfl, hm⟩ := hrel
              by_cases hmj : m < j
              · have hmj2 : (m : Int) < (j : Int) := by omega
                go_wp2
                exact ⟨⟨m + 1, by go_num, by first | rfl | trivial | simp, by omega⟩, by simp [intOf]; omega⟩
              · have hmj2 : ¬ (m : Int) < (j : Int) := by omega
                go_wp2
                exact ⟨⟨j, j + 1, xs, ob, cap, rfl, by go_num, by ((try simp only [World.junk_junk, Array.append_assoc]); (repeat (first | with_reducible exact Junk.refl _ | with_reducible exact Junk.app _ _ _ _ _ | with_reducible exact Junk.app2 _ _ _ _ _ _ | with_reducible exact Junk.app3 _ _ _ _ _ _ _ | with_reducible exact Junk.app4 _ _ _ _ _ _ _ _ | with_reducible exact Junk.app5 _ _ _ _ _ _ _ _ _ | with_reducible apply Junk.alloc | with_reducible apply Junk.junk | with_reducible apply Junk.drew | with_reducible apply Junk.drewN))), Hown.out.on (by ((try simp only [World.junk_junk, Array.append_assoc]); (repeat (first | with_reducible exact Junk.refl _ | with_reducible exact Junk.app _ _ _ _ _ | with_reducible exact Junk.app2 _ _ _ _ _ _ | with_reducible exact Junk.app3 _ _ _ _ _ _ _ | with_reducible exact Junk.app4 _ _ _ _ _ _ _ _ | with_reducible exact Junk.app5 _ _ _ _ _ _ _ _ _ | with_reducible apply Junk.alloc | with_reducible apply Junk.junk | with_reducible apply Junk.drew | with_reducible apply Junk.drewN)))), hF, by omega, by omega, by omega, fun h => by omega, fun h => by omega⟩, by simp [intOf]; omega⟩
        · have hd2 : ¬ (j : Int) < (ld : Int) := by omega
          by_cases hlt : j < N
          · have hlt2 : (j : Int) < (N : Int) := by omega
            have hok : (poolChoose a b xs j 80 j).2 = true := by rw [choose_ok HR.out, hF.out]; simp; omega
            obtain ⟨P, hp1, hp2, hp3, hp4⟩ := choose_free HR.out hok
            have HC := Lib.hid (show poolChoose a b xs j 80 j = ((P : Int), true) from Prod.ext hp1 hok)
            have HT := Lib.hid (taken_none hp2 hp3 hp4)
            have HF2 := Lib.hid (poolFree_more (ys := addP xs j P) HR.out hp2 hp3 hp4 (fun i hi => by simp [addP]; omega) (by simp [addP]))
            clear hok hp1 hp4
            go_wp2_with (first | (go_at_call 12; refine (choose_any (a : Int) (b : Int) _ j cap xs 80 j _ (by omega) (by omega) (own_intsAt (Hown.out.on (by ((try simp only [World.junk_junk, Array.append_assoc]); (repeat (first | with_reducible exact Junk.refl _ | with_reducible exact Junk.app _ _ _ _ _ | with_reducible exact Junk.app2 _ _ _ _ _ _ | with_reducible exact Junk.app3 _ _ _ _ _ _ _ | with_reducible exact Junk.app4 _ _ _ _ _ _ _ _ | with_reducible exact Junk.app5 _ _ _ _ _ _ _ _ _ | with_reducible apply Junk.alloc | with_reducible apply Junk.junk | with_reducible apply Junk.drew | with_reducible apply Junk.drewN))))))).mono ?_; rintro e w' ⟨rfl, ⟨osj2, dj2, rfl⟩⟩; rw [HC.out]))
            go_loopw [17] (fun i wr => ∃ m : Nat, i = .int .i64 (m : Int) ∧ wr = w.junk (os ++ osj2) dj2 ∧ m ≤ j) (fun i _ => j + 1 - (intOf i).toNat)
            case atStart => exact ⟨0, rfl, by first | rfl | trivial | simp, by omega⟩
            case round =>
              obtain ⟨m, rfl, rfl, hm⟩ := hrel
              by_cases hmj : m < j
              · have hmj2 : (m : Int) < (j : Int) := by omega
                have hne : (xs m == (P : Int)) = false := by have := HT.out m hmj; simpa using this
                obtain ⟨g, off, rfl, hg, hcm⟩ := own_intsAt (Hown.out.on (show Junk _ (w.junk (os ++ osj2) dj2) from by ((try simp only [World.junk_junk, Array.append_assoc]); (repeat (first | with_reducible exact Junk.refl _ | with_reducible exact Junk.app _ _ _ _ _ | with_reducible exact Junk.app2 _ _ _ _ _ _ | with_reducible exact Junk.app3 _ _ _ _ _ _ _ | with_reducible exact Junk.app4 _ _ _ _ _ _ _ _ | with_reducible exact Junk.app5 _ _ _ _ _ _ _ _ _ | with_reducible apply Junk.alloc | with_reducible apply Junk.junk | with_reducible apply Junk.drew | with_reducible apply Junk.drewN))))) m hmj
                go_wp2
                exact ⟨⟨m + 1, by go_num, by first | rfl | trivial | simp, by omega⟩, by simp [intOf]; omega⟩
              · have hmj2 : ¬ (m : Int) < (j : Int) := by omega
                go_wp2_with (at_builtin; (refine ap_own (W0 := w) rfl _ _ 22 rfl 3 (.int .i64 0) 1 8 (by kernel_rfl) rfl (by decide) Try.underlying22 (by ((try simp only [World.junk_junk, Array.append_assoc]); (repeat (first | with_reducible exact Junk.refl _ | with_reducible exact Junk.app _ _ _ _ _ | with_reducible exact Junk.app2 _ _ _ _ _ _ | with_reducible exact Junk.app3 _ _ _ _ _ _ _ | with_reducible exact Junk.app4 _ _ _ _ _ _ _ _ | with_reducible exact Junk.app5 _ _ _ _ _ _ _ _ _ | with_reducible apply Junk.alloc | with_reducible apply Junk.junk | with_reducible apply Junk.drew | with_reducible apply Junk.drewN)))) ob cap j _ rfl (Hown.out.on (by ((try simp only [World.junk_junk, Array.append_assoc]); (repeat (first | with_reducible exact Junk.refl _ | with_reducible exact Junk.app _ _ _ _ _ | with_reducible exact Junk.app2 _ _ _ _ _ _ | with_reducible exact Junk.app3 _ _ _ _ _ _ _ | with_reducible exact Junk.app4 _ _ _ _ _ _ _ _ | with_reducible exact Junk.app5 _ _ _ _ _ _ _ _ _ | with_reducible apply Junk.alloc | with_reducible apply Junk.junk | with_reducible apply Junk.drew | with_reducible apply Junk.drewN))))) _ 1 1 rfl [_] rfl (built_cells (by simp)) (fun h => by cases h) (by simp [Value.oneCell']) (by simp only [maxLen]; omega) (by omega) ?_; intro oa' cap' os' d' hown' _; rw [intsL_add] at hown'; have Hown2 := Lib.hid hown'; clear hown'))
                exact ⟨⟨j + 1, j + 1, addP xs j P, oa', cap', rfl, by go_num, by ((try simp only [World.junk_junk, Array.append_assoc]); (repeat (first | with_reducible exact Junk.refl _ | with_reducible exact Junk.app _ _ _ _ _ | with_reducible exact Junk.app2 _ _ _ _ _ _ | with_reducible exact Junk.app3 _ _ _ _ _ _ _ | with_reducible exact Junk.app4 _ _ _ _ _ _ _ _ | with_reducible exact Junk.app5 _ _ _ _ _ _ _ _ _ | with_reducible apply Junk.alloc | with_reducible apply Junk.junk | with_reducible apply Junk.drew | with_reducible apply Junk.drewN))), Hown2.out, Lib.hid (by have := HF2.out; have := hF.out; omega), by omega, by omega, by omega, fun _ => rfl, fun h => by omega⟩, by simp [intOf]; omega⟩
          · have hlt2 : ¬ (j : Int) < (N : Int) := by omega
            have hok : (poolChoose a b xs j 80 j).2 = false := by rw [choose_ok HR.out, hF.out]; simp; omega
            obtain ⟨V, hV⟩ : ∃ V, V = (poolChoose a b xs j 80 j).1 := ⟨_, rfl⟩
            have HC := Lib.hid (show poolChoose a b xs j 80 j = (V, false) from Prod.ext hV.symm hok)
            clear hok hV
            go_wp2_with (first | (go_at_call 12; refine (choose_any (a : Int) (b : Int) _ j cap xs 80 j _ (by omega) (by omega) (own_intsAt (Hown.out.on (by ((try simp only [World.junk_junk, Array.append_assoc]); (repeat (first | with_reducible exact Junk.refl _ | with_reducible exact Junk.app _ _ _ _ _ | with_reducible exact Junk.app2 _ _ _ _ _ _ | with_reducible exact Junk.app3 _ _ _ _ _ _ _ | with_reducible exact Junk.app4 _ _ _ _ _ _ _ _ | with_reducible exact Junk.app5 _ _ _ _ _ _ _ _ _ | with_reducible apply Junk.alloc | with_reducible apply Junk.junk | with_reducible apply Junk.drew | with_reducible apply Junk.drewN))))))).mono ?_; rintro e w' ⟨rfl, ⟨osj2, dj2, rfl⟩⟩; rw [HC.out]))
            go_loopw [17] (fun i wr => ∃ m : Nat, i = .int .i64 (m : Int) ∧ wr = w.junk (os ++ osj2) dj2 ∧ m ≤ j) (fun i _ => j + 1 - (intOf i).toNat)
            case atStart => exact ⟨0, rfl, by first | rfl | trivial | simp, by omega⟩
            case round =>
              obtain ⟨m, rfl, rfl, hm⟩ := hrel
              by_cases hmj : m < j
              · have hmj2 : (m : Int) < (j : Int) := by omega
                go_wp2
                exact ⟨⟨m + 1, by go_num, by first | rfl | trivial | simp, by omega⟩, by simp [intOf]; omega⟩
              · have hmj2 : ¬ (m : Int) < (j : Int) := by omega
                go_wp2
                exact ⟨⟨j, j + 1, xs, ob, cap, rfl, by go_num, by ((try simp only [World.junk_junk, Array.append_assoc]); (repeat (first | with_reducible exact Junk.refl _ | with_reducible exact Junk.app _ _ _ _ _ | with_reducible exact Junk.app2 _ _ _ _ _ _ | with_reducible exact Junk.app3 _ _ _ _ _ _ _ | with_reducible exact Junk.app4 _ _ _ _ _ _ _ _ | with_reducible exact Junk.app5 _ _ _ _ _ _ _ _ _ | with_reducible apply Junk.alloc | with_reducible apply Junk.junk | with_reducible apply Junk.drew | with_reducible apply Junk.drewN))), Hown.out.on (by ((try simp only [World.junk_junk, Array.append_assoc]); (repeat (first | with_reducible exact Junk.refl _ | with_reducible exact Junk.app _ _ _ _ _ | with_reducible exact Junk.app2 _ _ _ _ _ _ | with_reducible exact Junk.app3 _ _ _ _ _ _ _ | with_reducible exact Junk.app4 _ _ _ _ _ _ _ _ | with_reducible exact Junk.app5 _ _ _ _ _ _ _ _ _ | with_reducible apply Junk.alloc | with_reducible apply Junk.junk | with_reducible apply Junk.drew | with_reducible apply Junk.drewN)))), hF, by omega, by omega, by omega, fun h => by omega, fun h => by omega⟩, by simp [intOf]; omega⟩
    · have hle2 : ¬ (j : Int) ≤ (N : Int) := by omega
      obtain rfl : k = N := hk2 (by omega)
      clear hk1 hk2
      go_wp2
      go_ret
      exact ⟨ret_bool (by simp), by ((try simp only [World.junk_junk, Array.append_assoc]); (repeat (first | with_reducible exact Junk.refl _ | with_reducible exact Junk.app _ _ _ _ _ | with_reducible exact Junk.app2 _ _ _ _ _ _ | with_reducible exact Junk.app3 _ _ _ _ _ _ _ | with_reducible exact Junk.app4 _ _ _ _ _ _ _ _ | with_reducible exact Junk.app5 _ _ _ _ _ _ _ _ _ | with_reducible apply Junk.alloc | with_reducible apply Junk.junk | with_reducible apply Junk.drew | with_reducible apply Junk.drewN)))⟩

theorem poolAll_core (W : World) (base : Nat) (v0 v1 v2 v3 : Value) (a0 : Arg Try.prog W base 32 v0) (a1 : Arg Try.prog W base 5 v1) (a2 : Arg Try.prog W base 34 v2) (a3 : Arg Try.prog W base 35 v3) :
    Calls Try.prog 6 #[v0, v1, v2, v3] W fun e W' => e = .returned (.bool true) ∧ Junk W W' := by
  obtain ⟨lo, rfl, w_lo⟩ := a0.int Try.underlying32
  obtain ⟨size, rfl, w_size⟩ := a1.int Try.underlying5
  have f_wishes := a2.slice Try.underlying34
  obtain ⟨wishes_a, wishes_l, wishes_c, wishes, e_wishes, lc_wishes, cm_wishes, S_wishes, w_wishes⟩ := f_wishes.ints Try.underlying34 Try.underlying32 (by kernel_rfl); cases e_wishes
  have f_draws := a3.slice Try.underlying35
  obtain ⟨draws_a, draws_l, draws_c, draws, e_draws, lc_draws, cm_draws, S_draws, w_draws⟩ := f_draws.ints Try.underlying35 Try.underlying23 (by kernel_rfl); cases e_draws
  exact all_walk lo size wishes_a draws_a wishes_l wishes_c draws_l draws_c wishes draws W (bounds_u16 w_lo) (bounds_u8 w_size) S_wishes S_draws (fun i hi => bounds_u16 (w_wishes i hi)) (fun i hi => bounds_u32 (w_draws i hi))
set_option maxRecDepth 100000 in
theorem poolAll_lifted (os : Os) (started : os.Started) (H : Type) (enc : TypeId × Value → H) :
    ReturnsInHanded {} Try.checked os 6 .any (Rows.poolAllSpec.pre6 enc Try.prog Try.f6 Rows.poolAllRow.domain false) (Rows.poolAllSpec.post enc Try.prog Try.f6 false true false false) := by
  refine returnsInHanded_of_change (C := Try.checked) (by kernel_rfl) started (by kernel_rfl) Try.func6
    (ChangeSpec.witness6 (enc := enc) (C := Try.checked) false ⟨#[], #[.int .u16 0, .int .u8 0, .slice none 0 0, .slice none 0 0], []⟩ 8 (by kernel_rfl) (by kernel_rfl) (by kernel_rfl) (by kernel_rfl)) ?_
  intro W base args ds gs before hval hW _ _
  obtain ⟨p, q, hA, _, _, _, _⟩ := id hW
  have hargs : Args Try.prog W base Try.f6.params.toList args.toList := args_of (fun j t v h1 h2 => hval j t v (by simpa using h1) (by simpa using h2)) hA
  rw [Try.params6] at hargs
  obtain ⟨v0, l0, e0, a0, r0⟩ := args_cons hargs
  obtain ⟨v1, l1, e1, a1, r1⟩ := args_cons r0
  obtain ⟨v2, l2, e2, a2, r2⟩ := args_cons r1
  obtain ⟨v3, l3, e3, a3, r3⟩ := args_cons r2
  have hn := args_nil r3
  have he : args = #[v0, v1, v2, v3] := by
    apply Array.ext'
    simp only [e0, e1, e2, e3, hn]
  subst he
  exact (poolAll_core W base v0 v1 v2 v3 a0 a1 a2 a3).mono fun e W' ⟨he, hj⟩ => ⟨_, he, post_true (tb := 4) (by kernel_rfl) (by kernel_rfl) rfl (by kernel_rfl) rfl hW (fun hg hl => by
    subst hg
    match ds, hl with
    | [_, _, _, _], _ => exact ⟨rfl, rfl, rfl⟩) hj⟩
theorem poolAll_holds : Rows.PoolAllSaid :=
  OpenClaim.holds_of_wide 6 Try.f6 rfl rfl rfl rfl rfl rfl rfl ⟨rfl, rfl, rfl, rfl, rfl⟩ rfl rfl rfl rfl rfl (by kernel_rfl) Try.func6 (by kernel_rfl)
    (of_decide_eq_true (by kernel_rfl)) (by unfold Func.isWrapper; rw [if_neg (of_decide_eq_false (by kernel_rfl))]; exact ⟨rfl, rfl⟩)
    (fun os started H enc _ => poolAll_lifted os started H enc)

end Go.Proofs.Ytambpmbgfjefcaa
