/- The reference's List and Choose. -/
import Derived.Test.YtambpmbgfjefcaaPoolF
set_option linter.unusedVariables false
set_option maxRecDepth 100000
set_option linter.unusedSimpArgs false
namespace Go.Proofs.Ytambpmbgfjefcaa
open Go.RowKit
def natV (L : List Nat) : List Value := L.map fun p => .int .i64 ((p : Nat) : Int)
theorem natV_add (L : List Nat) (p : Nat) : natV L ++ [.int .i64 (p : Int)] = natV (L ++ [p]) := by simp [natV]
theorem own_natsAt {B : Nat} {w : World} {e : TypeId} {oa : Option Addr} {cap n : Nat} {L : List Nat} (h : Own B w e 1 oa cap n (natV L)) : IntsAt w oa n .i64 (fun i => ((L[i]?.getD 0 : Nat) : Int)) := fun i hi => by
  have hl := h.len
  simp [natV] at hl
  obtain ⟨g, h1, _, h2, h3, _⟩ := h.cells i (.int .i64 ((L[i]?.getD 0 : Nat) : Int)) (by simp [natV, List.getElem?_eq_getElem (show i < L.length by omega)])
  exact ⟨g, 0, h1, h2, by simpa using h3⟩
def parB (par : Int) (p : Nat) : Bool := decide (par < 0) || ((p : Int) % 2 == par)
/-- The reference's list. -/
def refL (F : Nat → Bool) (b : Nat) (par : Int) (p : Nat) : List Nat := (freeL F 1 b p).filter (parB par)
theorem refL_end (F : Nat → Bool) (b : Nat) (par : Int) (p : Nat) (h : ¬ p ≤ b) : refL F b par p = [] := by
  unfold refL; rw [freeL_step F 1 b p (by decide), if_neg h]; rfl
theorem refL_take (F : Nat → Bool) (b : Nat) (par : Int) (p : Nat) (h : p ≤ b) (hF : F p = false) (hp : parB par p = true) : refL F b par p = p :: refL F b par (p + 1) := by
  unfold refL; rw [freeL_step F 1 b p (by decide), if_pos h, if_neg (by simp [hF]), List.filter_cons_of_pos hp]
theorem refL_skip (F : Nat → Bool) (b : Nat) (par : Int) (p : Nat) (h : p ≤ b) (hp : F p = true ∨ parB par p = false) : refL F b par p = refL F b par (p + 1) := by
  unfold refL; rw [freeL_step F 1 b p (by decide), if_pos h]
  by_cases hF : F p = true
  · rw [if_pos hF]
  · rw [if_neg hF, List.filter_cons_of_neg (by simp [hp.resolve_left hF])]
theorem refL_len (F : Nat → Bool) (b : Nat) (par : Int) (p : Nat) : (refL F b par p).length ≤ b + 1 := by
  unfold refL
  exact Nat.le_trans (List.length_filter_le _ _) (freeL_len F 1 b (b + 1) p)
theorem and_not_both {x y : Bool} (h : (x && !y) = true) : x = true ∧ y = false := by cases x <;> cases y <;> simp_all
theorem freeK_mono {par : Bool} {xs : Nat → Int} {q : Int} {j l : Nat} (h : freeK par xs q j = false) (hj : j ≤ l) : freeK par xs q l = false := by
  unfold freeK at h ⊢
  cases par with
  | false => rfl
  | true =>
    simp only [Bool.true_and, decide_eq_false_iff_not] at h ⊢
    exact fun h2 => h fun i hi => h2 i (by omega)
set_option maxHeartbeats 4000000 in
theorem rlist_any (a b : Nat) (oa : Option Addr) (l c : Nat) (xs : Nat → Int) (par : Int) (w : World) (hr : rightB a b = true) (hl : l ≤ 100000000) (hS : IntsAt w oa l .i64 xs) (hpar : par = -1 ∨ par = 0 ∨ par = 1) :
    Calls Try.prog 17 #[.int .i64 (a : Int), .int .i64 (b : Int), .slice oa l c, .int .i64 par] w fun e w' => ∃ ob cap, e = .returned (.slice ob (refL (takenB a b xs l) b par a).length cap) ∧ Junk w w' ∧ Own w.heap.size w' 3 1 ob cap (refL (takenB a b xs l) b par a).length (natV (refL (takenB a b xs l) b par a)) := by
  have HS := Lib.hid hS
  have HR := Lib.hid hr
  have hr2 : 1 ≤ (a : Int) ∧ (a : Int) ≤ b ∧ (b : Int) ≤ 65535 := by simpa [rightB] using hr
  obtain ⟨r1, r2, r3⟩ := hr2
  obtain ⟨T, hT⟩ : ∃ T, T = refL (takenB a b xs l) b par a := ⟨_, rfl⟩
  have hT9 : T.length ≤ b + 1 := by rw [hT]; exact refL_len _ _ _ _
  rw [← hT]
  have HT := Lib.hid hT
  clear hS hr hT
  go_enter Try.func17, Try.ntmps17
  go_wp2
  go_loopw [9, 10] (fun v i wr => ∃ (p : Nat) (pre : List Nat) (ob : Option Addr) (cap : Nat), v = .slice ob pre.length cap ∧ i = .int .i64 (p : Int) ∧ Junk w wr ∧ Own w.heap.size wr 3 1 ob cap pre.length (natV pre) ∧ Hid (T = pre ++ refL (takenB a b xs l) b par p) ∧ a ≤ p ∧ p ≤ b + 1) (fun _ i _ => b + 2 - (intOf i).toNat)
  case atStart => exact ⟨a, [], none, 0, rfl, rfl, by ((try simp only [World.junk_junk, Array.append_assoc]); (repeat (first | with_reducible exact Junk.refl _ | with_reducible exact Junk.app _ _ _ _ _ | with_reducible exact Junk.app2 _ _ _ _ _ _ | with_reducible exact Junk.app3 _ _ _ _ _ _ _ | with_reducible exact Junk.app4 _ _ _ _ _ _ _ _ | with_reducible exact Junk.app5 _ _ _ _ _ _ _ _ _ | with_reducible apply Junk.alloc | with_reducible apply Junk.junk | with_reducible apply Junk.drew | with_reducible apply Junk.drewN))), Own.nil _ _ _ _, Lib.hid (by rw [HT.out]; rfl), by omega, by omega⟩
  case round =>
    obtain ⟨p, pre, ob, cap, rfl, rfl, ⟨os, d, rfl⟩, hown, hI, hp1, hp2⟩ := hrel
    have Hown := Lib.hid hown
    have hpre : pre.length ≤ 65536 := by have := congrArg List.length hI.out; simp at this; omega
    clear hown
    by_cases hle : p ≤ b
    · have hle2 : (p : Int) ≤ (b : Int) := by omega
      obtain ⟨pb, hpb⟩ : ∃ pb, pb = parB par p := ⟨_, rfl⟩
      have HPB := Lib.hid hpb
      have hq : (par < 0 ∧ pb = true) ∨ (¬ par < 0 ∧ ((p : Int) % 2 == par) = pb) := by
        rw [hpb]; unfold parB
        by_cases h : par < 0
        · left; simp [h]
        · right; simp [h]
      clear hpb
      rcases hq with ⟨q1, rfl⟩ | ⟨q1, q2⟩
      · go_wp2_with (first | (go_at_call 15; refine (rright_any (a : Int) (b : Int) _).mono ?_; rintro e w' ⟨rfl, rfl⟩; rw [HR.out]))
        go_loopw [11, 12] (fun f i wr => ∃ j : Nat, f = .bool (freeK true xs p j) ∧ i = .int .i64 (j : Int) ∧ wr = w.junk os d ∧ j ≤ l) (fun _ i _ => l + 1 - (intOf i).toNat)
        case atStart => exact ⟨0, by (simp [freeK] <;> (intro h; omega)), rfl, by first | rfl | trivial, by omega⟩
        case round =>
          obtain ⟨j, rfl, rfl, rfl, hj⟩ := hrel
          have hk := freeK_succ true xs p j
          cases hf : freeK true xs p j with
          | false =>
            have HSK := Lib.hid (show T = pre ++ refL (takenB a b xs l) b par (p + 1) by
              rw [hI.out]
              congr 1
              refine refL_skip _ _ _ _ hle ?_
              have h2 := freeK_mono hf hj
              rw [freeK_taken (a := a) (b := b) hp1 hle, HPB.out] at h2
              cases h3 : takenB a b xs l p with
              | true => exact .inl rfl
              | false => rw [h3] at h2; exact .inr (by simpa using h2))
            by_cases hjm : j < l
            · have hj2 : (j : Int) < (l : Int) := by omega
              go_wp2
              exact ⟨⟨p + 1, pre, ob, cap, rfl, by go_num, by ((try simp only [World.junk_junk, Array.append_assoc]); (repeat (first | with_reducible exact Junk.refl _ | with_reducible exact Junk.app _ _ _ _ _ | with_reducible exact Junk.app2 _ _ _ _ _ _ | with_reducible exact Junk.app3 _ _ _ _ _ _ _ | with_reducible exact Junk.app4 _ _ _ _ _ _ _ _ | with_reducible exact Junk.app5 _ _ _ _ _ _ _ _ _ | with_reducible apply Junk.alloc | with_reducible apply Junk.junk | with_reducible apply Junk.drew | with_reducible apply Junk.drewN))), Hown.out.on (by ((try simp only [World.junk_junk, Array.append_assoc]); (repeat (first | with_reducible exact Junk.refl _ | with_reducible exact Junk.app _ _ _ _ _ | with_reducible exact Junk.app2 _ _ _ _ _ _ | with_reducible exact Junk.app3 _ _ _ _ _ _ _ | with_reducible exact Junk.app4 _ _ _ _ _ _ _ _ | with_reducible exact Junk.app5 _ _ _ _ _ _ _ _ _ | with_reducible apply Junk.alloc | with_reducible apply Junk.junk | with_reducible apply Junk.drew | with_reducible apply Junk.drewN)))), HSK, by omega, by omega⟩, by simp [intOf]; omega⟩
            · have hj2 : ¬ (j : Int) < (l : Int) := by omega
              go_wp2
              exact ⟨⟨p + 1, pre, ob, cap, rfl, by go_num, by ((try simp only [World.junk_junk, Array.append_assoc]); (repeat (first | with_reducible exact Junk.refl _ | with_reducible exact Junk.app _ _ _ _ _ | with_reducible exact Junk.app2 _ _ _ _ _ _ | with_reducible exact Junk.app3 _ _ _ _ _ _ _ | with_reducible exact Junk.app4 _ _ _ _ _ _ _ _ | with_reducible exact Junk.app5 _ _ _ _ _ _ _ _ _ | with_reducible apply Junk.alloc | with_reducible apply Junk.junk | with_reducible apply Junk.drew | with_reducible apply Junk.drewN))), Hown.out.on (by ((try simp only [World.junk_junk, Array.append_assoc]); (repeat (first | with_reducible exact Junk.refl _ | with_reducible exact Junk.app _ _ _ _ _ | with_reducible exact Junk.app2 _ _ _ _ _ _ | with_reducible exact Junk.app3 _ _ _ _ _ _ _ | with_reducible exact Junk.app4 _ _ _ _ _ _ _ _ | with_reducible exact Junk.app5 _ _ _ _ _ _ _ _ _ | with_reducible apply Junk.alloc | with_reducible apply Junk.junk | with_reducible apply Junk.drew | with_reducible apply Junk.drewN)))), HSK, by omega, by omega⟩, by simp [intOf]; omega⟩
          | true =>
            rw [hf] at hk
            by_cases hjm : j < l
            · have hj2 : (j : Int) < (l : Int) := by omega
              obtain ⟨bb, off, rfl, hblk, hc⟩ := HS.out j hjm
              cases hx : (xs j == (p : Int)) with
              | true =>
                have hk2 : freeK true xs p (j + 1) = false := by rw [hk, bne, hx]; rfl
                clear hk
                go_wp2
                exact ⟨⟨j + 1, by rw [hk2], by go_num, by first | rfl | trivial, by omega⟩, by simp [intOf]; omega⟩
              | false =>
                have hk2 : freeK true xs p (j + 1) = true := by rw [hk, bne, hx]; rfl
                clear hk
                go_wp2
                exact ⟨⟨j + 1, by rw [hk2], by go_num, by first | rfl | trivial, by omega⟩, by simp [intOf]; omega⟩
            · have hj2 : ¬ (j : Int) < (l : Int) := by omega
              obtain rfl : l = j := by omega
              have HTK := Lib.hid (show T = (pre ++ [p]) ++ refL (takenB a b xs l) b par (p + 1) by
                rw [freeK_taken (a := a) (b := b) hp1 hle] at hf
                have h5 : takenB a b xs l p = false := (and_not_both hf).2
                have h6 : parB par p = true := HPB.out.symm.trans (and_not_both hf).1
                rw [hI.out, refL_take _ _ _ _ hle h5 h6]
                simp)
              clear hk hf
              go_wp2_with (at_builtin; (refine ap_own (W0 := w) rfl _ _ 22 rfl 3 (.int .i64 0) 1 8 (by kernel_rfl) rfl (by decide) Try.underlying22 (by ((try simp only [World.junk_junk, Array.append_assoc]); (repeat (first | with_reducible exact Junk.refl _ | with_reducible exact Junk.app _ _ _ _ _ | with_reducible exact Junk.app2 _ _ _ _ _ _ | with_reducible exact Junk.app3 _ _ _ _ _ _ _ | with_reducible exact Junk.app4 _ _ _ _ _ _ _ _ | with_reducible exact Junk.app5 _ _ _ _ _ _ _ _ _ | with_reducible apply Junk.alloc | with_reducible apply Junk.junk | with_reducible apply Junk.drew | with_reducible apply Junk.drewN)))) ob cap pre.length _ rfl (Hown.out.on (by ((try simp only [World.junk_junk, Array.append_assoc]); (repeat (first | with_reducible exact Junk.refl _ | with_reducible exact Junk.app _ _ _ _ _ | with_reducible exact Junk.app2 _ _ _ _ _ _ | with_reducible exact Junk.app3 _ _ _ _ _ _ _ | with_reducible exact Junk.app4 _ _ _ _ _ _ _ _ | with_reducible exact Junk.app5 _ _ _ _ _ _ _ _ _ | with_reducible apply Junk.alloc | with_reducible apply Junk.junk | with_reducible apply Junk.drew | with_reducible apply Junk.drewN))))) _ 1 1 rfl [_] rfl (built_cells (by simp)) (fun h => by cases h) (by simp [Value.oneCell']) (by simp only [maxLen]; omega) (by omega) ?_; intro oa' cap' os' d' hown' _; rw [natV_add] at hown'; have Hown2 := Lib.hid hown'; clear hown'))
              exact ⟨⟨p + 1, pre ++ [p], oa', cap', by simp, by go_num, by ((try simp only [World.junk_junk, Array.append_assoc]); (repeat (first | with_reducible exact Junk.refl _ | with_reducible exact Junk.app _ _ _ _ _ | with_reducible exact Junk.app2 _ _ _ _ _ _ | with_reducible exact Junk.app3 _ _ _ _ _ _ _ | with_reducible exact Junk.app4 _ _ _ _ _ _ _ _ | with_reducible exact Junk.app5 _ _ _ _ _ _ _ _ _ | with_reducible apply Junk.alloc | with_reducible apply Junk.junk | with_reducible apply Junk.drew | with_reducible apply Junk.drewN))), by rw [List.length_append]; exact Hown2.out, HTK, by omega, by omega⟩, by simp [intOf]; omega⟩
      · go_wp2_with (first | (go_at_call 15; refine (rright_any (a : Int) (b : Int) _).mono ?_; rintro e w' ⟨rfl, rfl⟩; rw [HR.out]))
        go_loopw [11, 12] (fun f i wr => ∃ j : Nat, f = .bool (freeK pb xs p j) ∧ i = .int .i64 (j : Int) ∧ wr = w.junk os d ∧ j ≤ l) (fun _ i _ => l + 1 - (intOf i).toNat)
        case atStart => exact ⟨0, by (simp [freeK] <;> (intro h; omega)), rfl, by first | rfl | trivial, by omega⟩
        case round =>
          obtain ⟨j, rfl, rfl, rfl, hj⟩ := hrel
          have hk := freeK_succ pb xs p j
          cases hf : freeK pb xs p j with
          | false =>
            have HSK := Lib.hid (show T = pre ++ refL (takenB a b xs l) b par (p + 1) by
              rw [hI.out]
              congr 1
              refine refL_skip _ _ _ _ hle ?_
              have h2 := freeK_mono hf hj
              rw [freeK_taken (a := a) (b := b) hp1 hle, HPB.out] at h2
              cases h3 : takenB a b xs l p with
              | true => exact .inl rfl
              | false => rw [h3] at h2; exact .inr (by simpa using h2))
            by_cases hjm : j < l
            · have hj2 : (j : Int) < (l : Int) := by omega
              go_wp2
              exact ⟨⟨p + 1, pre, ob, cap, rfl, by go_num, by ((try simp only [World.junk_junk, Array.append_assoc]); (repeat (first | with_reducible exact Junk.refl _ | with_reducible exact Junk.app _ _ _ _ _ | with_reducible exact Junk.app2 _ _ _ _ _ _ | with_reducible exact Junk.app3 _ _ _ _ _ _ _ | with_reducible exact Junk.app4 _ _ _ _ _ _ _ _ | with_reducible exact Junk.app5 _ _ _ _ _ _ _ _ _ | with_reducible apply Junk.alloc | with_reducible apply Junk.junk | with_reducible apply Junk.drew | with_reducible apply Junk.drewN))), Hown.out.on (by ((try simp only [World.junk_junk, Array.append_assoc]); (repeat (first | with_reducible exact Junk.refl _ | with_reducible exact Junk.app _ _ _ _ _ | with_reducible exact Junk.app2 _ _ _ _ _ _ | with_reducible exact Junk.app3 _ _ _ _ _ _ _ | with_reducible exact Junk.app4 _ _ _ _ _ _ _ _ | with_reducible exact Junk.app5 _ _ _ _ _ _ _ _ _ | with_reducible apply Junk.alloc | with_reducible apply Junk.junk | with_reducible apply Junk.drew | with_reducible apply Junk.drewN)))), HSK, by omega, by omega⟩, by simp [intOf]; omega⟩
            · have hj2 : ¬ (j : Int) < (l : Int) := by omega
              go_wp2
              exact ⟨⟨p + 1, pre, ob, cap, rfl, by go_num, by ((try simp only [World.junk_junk, Array.append_assoc]); (repeat (first | with_reducible exact Junk.refl _ | with_reducible exact Junk.app _ _ _ _ _ | with_reducible exact Junk.app2 _ _ _ _ _ _ | with_reducible exact Junk.app3 _ _ _ _ _ _ _ | with_reducible exact Junk.app4 _ _ _ _ _ _ _ _ | with_reducible exact Junk.app5 _ _ _ _ _ _ _ _ _ | with_reducible apply Junk.alloc | with_reducible apply Junk.junk | with_reducible apply Junk.drew | with_reducible apply Junk.drewN))), Hown.out.on (by ((try simp only [World.junk_junk, Array.append_assoc]); (repeat (first | with_reducible exact Junk.refl _ | with_reducible exact Junk.app _ _ _ _ _ | with_reducible exact Junk.app2 _ _ _ _ _ _ | with_reducible exact Junk.app3 _ _ _ _ _ _ _ | with_reducible exact Junk.app4 _ _ _ _ _ _ _ _ | with_reducible exact Junk.app5 _ _ _ _ _ _ _ _ _ | with_reducible apply Junk.alloc | with_reducible apply Junk.junk | with_reducible apply Junk.drew | with_reducible apply Junk.drewN)))), HSK, by omega, by omega⟩, by simp [intOf]; omega⟩
          | true =>
            rw [hf] at hk
            by_cases hjm : j < l
            · have hj2 : (j : Int) < (l : Int) := by omega
              obtain ⟨bb, off, rfl, hblk, hc⟩ := HS.out j hjm
              cases hx : (xs j == (p : Int)) with
              | true =>
                have hk2 : freeK pb xs p (j + 1) = false := by rw [hk, bne, hx]; rfl
                clear hk
                go_wp2
                exact ⟨⟨j + 1, by rw [hk2], by go_num, by first | rfl | trivial, by omega⟩, by simp [intOf]; omega⟩
              | false =>
                have hk2 : freeK pb xs p (j + 1) = true := by rw [hk, bne, hx]; rfl
                clear hk
                go_wp2
                exact ⟨⟨j + 1, by rw [hk2], by go_num, by first | rfl | trivial, by omega⟩, by simp [intOf]; omega⟩
            · have hj2 : ¬ (j : Int) < (l : Int) := by omega
              obtain rfl : l = j := by omega
              have HTK := Lib.hid (show T = (pre ++ [p]) ++ refL (takenB a b xs l) b par (p + 1) by
                rw [freeK_taken (a := a) (b := b) hp1 hle] at hf
                have h5 : takenB a b xs l p = false := (and_not_both hf).2
                have h6 : parB par p = true := HPB.out.symm.trans (and_not_both hf).1
                rw [hI.out, refL_take _ _ _ _ hle h5 h6]
                simp)
              clear hk hf
              go_wp2_with (at_builtin; (refine ap_own (W0 := w) rfl _ _ 22 rfl 3 (.int .i64 0) 1 8 (by kernel_rfl) rfl (by decide) Try.underlying22 (by ((try simp only [World.junk_junk, Array.append_assoc]); (repeat (first | with_reducible exact Junk.refl _ | with_reducible exact Junk.app _ _ _ _ _ | with_reducible exact Junk.app2 _ _ _ _ _ _ | with_reducible exact Junk.app3 _ _ _ _ _ _ _ | with_reducible exact Junk.app4 _ _ _ _ _ _ _ _ | with_reducible exact Junk.app5 _ _ _ _ _ _ _ _ _ | with_reducible apply Junk.alloc | with_reducible apply Junk.junk | with_reducible apply Junk.drew | with_reducible apply Junk.drewN)))) ob cap pre.length _ rfl (Hown.out.on (by ((try simp only [World.junk_junk, Array.append_assoc]); (repeat (first | with_reducible exact Junk.refl _ | with_reducible exact Junk.app _ _ _ _ _ | with_reducible exact Junk.app2 _ _ _ _ _ _ | with_reducible exact Junk.app3 _ _ _ _ _ _ _ | with_reducible exact Junk.app4 _ _ _ _ _ _ _ _ | with_reducible exact Junk.app5 _ _ _ _ _ _ _ _ _ | with_reducible apply Junk.alloc | with_reducible apply Junk.junk | with_reducible apply Junk.drew | with_reducible apply Junk.drewN))))) _ 1 1 rfl [_] rfl (built_cells (by simp)) (fun h => by cases h) (by simp [Value.oneCell']) (by simp only [maxLen]; omega) (by omega) ?_; intro oa' cap' os' d' hown' _; rw [natV_add] at hown'; have Hown2 := Lib.hid hown'; clear hown'))
              exact ⟨⟨p + 1, pre ++ [p], oa', cap', by simp, by go_num, by ((try simp only [World.junk_junk, Array.append_assoc]); (repeat (first | with_reducible exact Junk.refl _ | with_reducible exact Junk.app _ _ _ _ _ | with_reducible exact Junk.app2 _ _ _ _ _ _ | with_reducible exact Junk.app3 _ _ _ _ _ _ _ | with_reducible exact Junk.app4 _ _ _ _ _ _ _ _ | with_reducible exact Junk.app5 _ _ _ _ _ _ _ _ _ | with_reducible apply Junk.alloc | with_reducible apply Junk.junk | with_reducible apply Junk.drew | with_reducible apply Junk.drewN))), by rw [List.length_append]; exact Hown2.out, HTK, by omega, by omega⟩, by simp [intOf]; omega⟩
    · have hle2 : ¬ (p : Int) ≤ (b : Int) := by omega
      have HE := Lib.hid (show T = pre by rw [hI.out, refL_end _ _ _ _ hle]; simp)
      go_wp2
      go_ret
      exact ⟨ob, cap, by rw [HE.out]; rfl, by ((try simp only [World.junk_junk, Array.append_assoc]); (repeat (first | with_reducible exact Junk.refl _ | with_reducible exact Junk.app _ _ _ _ _ | with_reducible exact Junk.app2 _ _ _ _ _ _ | with_reducible exact Junk.app3 _ _ _ _ _ _ _ | with_reducible exact Junk.app4 _ _ _ _ _ _ _ _ | with_reducible exact Junk.app5 _ _ _ _ _ _ _ _ _ | with_reducible apply Junk.alloc | with_reducible apply Junk.junk | with_reducible apply Junk.drew | with_reducible apply Junk.drewN))), by rw [HE.out]; exact Hown.out⟩
theorem rlist_bad (lo hi : Int) (oa : Option Addr) (l c : Nat) (par : Int) (w : World) (hr : rightB lo hi = false) :
    Calls Try.prog 17 #[.int .i64 lo, .int .i64 hi, .slice oa l c, .int .i64 par] w fun e w' => e = .returned (.slice none 0 0) ∧ w = w' := by
  by_cases hle : lo ≤ hi
  · go_enter Try.func17, Try.ntmps17
    go_wp2
    refine wp_loop_rounds 1 ?_
    rw [rounds_succ]
    go_wp2_with (first | (go_at_call 15; refine (rright_any lo hi _).mono ?_; rintro e w' ⟨rfl, rfl⟩; rw [hr]))
    go_ret
    exact ⟨rfl, rfl⟩
  · go_enter Try.func17, Try.ntmps17
    go_wp2
    refine wp_loop_rounds 1 ?_
    rw [rounds_succ]
    go_wp2
    go_ret
    exact ⟨rfl, rfl⟩
theorem refL_all (F : Nat → Bool) (b a : Nat) : refL F b (-1) a = freeL F 1 b a := by
  unfold refL
  rw [List.filter_eq_self]
  intro p _
  simp [parB]
theorem refL_par (F : Nat → Bool) (b : Nat) (wish : Int) : ∀ (n a : Nat), b + 1 ≤ n + a → refL F b (wish % 2) a = freeL F 2 b (firstP a wish)
  | 0, a, h => by
    obtain ⟨_, f2, _⟩ := firstP_par a wish
    rw [refL_end _ _ _ _ (by omega), freeL_step _ _ _ _ (by decide), if_neg (by omega)]
  | n + 1, a, h => by
    by_cases hab : a ≤ b
    · have ih := refL_par F b wish n (a + 1) (by omega)
      by_cases hp : (a : Int) % 2 = wish % 2
      · obtain ⟨e1, e2⟩ := firstP_eq hp
        rw [e2] at ih
        rw [e1, freeL_step _ _ _ _ (by decide), if_pos hab]
        by_cases hF : F a = true
        · rw [if_pos hF, refL_skip _ _ _ _ hab (.inl hF), ih]
        · rw [if_neg hF, refL_take _ _ _ _ hab (by simpa using hF) (by simp [parB, hp]), ih]
      · obtain ⟨e1, e2⟩ := firstP_ne hp
        rw [e1, ← e2, ← ih, refL_skip _ _ _ _ hab (.inr (by simp [parB]; omega))]
    · obtain ⟨_, f2, _⟩ := firstP_par a wish
      rw [refL_end _ _ _ _ hab, freeL_step _ _ _ _ (by decide), if_neg (by omega)]
theorem tmod_cases (x : Int) : (x.tmod 2 = 0 ∧ x % 2 = 0) ∨ (x.tmod 2 = 1 ∧ x % 2 = 1) ∨ (x.tmod 2 = -1 ∧ x % 2 = 1) := by
  rw [Int.tmod_eq_emod]
  split <;> omega
theorem choose_hit {a b l D j : Nat} {xs : Nat → Int} {wish : Int} (hr : rightB a b = true) (hj : j < (refL (takenB a b xs l) b (-1) a).length) (he : (((refL (takenB a b xs l) b (-1) a)[j]?.getD 0 : Nat) : Int) = wish) : poolChoose a b xs l wish D = (wish, true) := by
  rw [refL_all] at hj he
  obtain ⟨m1, m2, m3, _⟩ := freeL_mem (getD_mem hj)
  unfold poolChoose
  rw [if_neg (by simp [hr]), if_pos ⟨by omega, by omega, by rw [← he]; exact m3⟩]
theorem choose_miss {a b l D : Nat} {xs : Nat → Int} {wish : Int} (hr : rightB a b = true) (hn : ∀ j, j < (refL (takenB a b xs l) b (-1) a).length → (((refL (takenB a b xs l) b (-1) a)[j]?.getD 0 : Nat) : Int) ≠ wish) :
    poolChoose a b xs l wish D = if 0 < (refL (takenB a b xs l) b (wish % 2) a).length then ((((refL (takenB a b xs l) b (wish % 2) a)[D % (refL (takenB a b xs l) b (wish % 2) a).length]?.getD 0 : Nat) : Int), true) else if 0 < (refL (takenB a b xs l) b (-1) a).length then ((((refL (takenB a b xs l) b (-1) a)[D % (refL (takenB a b xs l) b (-1) a).length]?.getD 0 : Nat) : Int), true) else ((0 : Int), false) := by
  unfold poolChoose poolL
  rw [if_neg (by simp [hr]), if_neg]
  · simp only [Int.toNat_natCast]
    rw [refL_par _ _ _ (b + 1) a (by omega), refL_all]
  · rintro ⟨h1, h2, h3⟩
    have hm : wish.toNat ∈ freeL (takenB a b xs l) 1 b a := freeL_all _ _ _ (by omega) (by omega) (by omega) h3
    rw [← refL_all] at hm
    obtain ⟨j, hj, he⟩ := List.getElem_of_mem hm
    refine hn j hj ?_
    rw [List.getElem?_eq_getElem hj, he]
    simp
    omega
set_option maxHeartbeats 4000000 in
theorem rchoose_any (a b : Nat) (oa : Option Addr) (l c : Nat) (xs : Nat → Int) (wish : Int) (D : Nat) (w : World) (hr : rightB a b = true) (hl : l ≤ 100000000) (hD : D < 4294967296) (hS : IntsAt w oa l .i64 xs) :
    Calls Try.prog 13 #[.int .i64 (a : Int), .int .i64 (b : Int), .slice oa l c, .int .i64 wish, .int .u32 (D : Int)] w fun e w' => e = .returned (.tuple #[.int .i64 (poolChoose a b xs l wish D).1, .bool (poolChoose a b xs l wish D).2]) ∧ Junk w w' := by
  have HS := Lib.hid hS
  have HR := Lib.hid hr
  have hr2 : 1 ≤ (a : Int) ∧ (a : Int) ≤ b ∧ (b : Int) ≤ 65535 := by simpa [rightB] using hr
  obtain ⟨r1, r2, r3⟩ := hr2
  obtain ⟨L, hL⟩ : ∃ L, L = refL (takenB a b xs l) b (-1) a := ⟨_, rfl⟩
  obtain ⟨M, hM⟩ : ∃ M, M = refL (takenB a b xs l) b (wish % 2) a := ⟨_, rfl⟩
  have hL9 : L.length ≤ 65536 := by rw [hL]; exact Nat.le_trans (refL_len _ _ _ _) (by omega)
  have hM9 : M.length ≤ 65536 := by rw [hM]; exact Nat.le_trans (refL_len _ _ _ _) (by omega)
  have hHit : ∀ j, j < L.length → ((L[j]?.getD 0 : Nat) : Int) = wish → poolChoose a b xs l wish D = (wish, true) := by rw [hL]; exact fun j h1 h2 => choose_hit hr h1 h2
  have hMiss : (∀ j, j < L.length → ((L[j]?.getD 0 : Nat) : Int) ≠ wish) → poolChoose a b xs l wish D = if 0 < M.length then (((M[D % M.length]?.getD 0 : Nat) : Int), true) else if 0 < L.length then (((L[D % L.length]?.getD 0 : Nat) : Int), true) else ((0 : Int), false) := by rw [hL, hM]; exact choose_miss hr
  have rl1 := fun w hw => rlist_any a b oa l c xs (-1) w hr hl hw (by omega)
  have rl2 := fun w hw => rlist_any a b oa l c xs (wish % 2) w hr hl hw (by omega)
  rw [← hL] at rl1
  rw [← hM] at rl2
  obtain ⟨nL, hnL⟩ : ∃ n, n = L.length := ⟨_, rfl⟩
  obtain ⟨nM, hnM⟩ : ∃ n, n = M.length := ⟨_, rfl⟩
  rw [← hnL] at rl1 hL9 hHit hMiss
  rw [← hnM] at rl2 hM9 hMiss
  clear hnL hnM
  have RL1 := Lib.hid rl1
  have RL2 := Lib.hid rl2
  have HH := Lib.hid hHit
  have HM := Lib.hid hMiss
  obtain ⟨R, hR⟩ : ∃ R, R = poolChoose a b xs l wish D := ⟨_, rfl⟩
  have HRR := Lib.hid hR
  rw [← hR]
  clear hS hr hL hM rl1 rl2 hHit hMiss hR
  go_enter Try.func13, Try.ntmps13
  go_wp2_with (first | (go_at_call 17; refine (RL1.out _ (HS.out.on (by ((try simp only [World.junk_junk, Array.append_assoc]); (repeat (first | with_reducible exact Junk.refl _ | with_reducible exact Junk.app _ _ _ _ _ | with_reducible exact Junk.app2 _ _ _ _ _ _ | with_reducible exact Junk.app3 _ _ _ _ _ _ _ | with_reducible exact Junk.app4 _ _ _ _ _ _ _ _ | with_reducible exact Junk.app5 _ _ _ _ _ _ _ _ _ | with_reducible apply Junk.alloc | with_reducible apply Junk.junk | with_reducible apply Junk.drew | with_reducible apply Junk.drewN)))))).mono ?_; rintro e w' ⟨ob, cap, rfl, ⟨os1, d1, rfl⟩, hown⟩; have Hown := Lib.hid hown; clear hown))
  go_loopw [13] (fun i wr => ∃ j : Nat, i = .int .i64 (j : Int) ∧ wr = w.junk os1 d1 ∧ j ≤ nL ∧ Hid (∀ k, k < j → ((L[k]?.getD 0 : Nat) : Int) ≠ wish)) (fun i _ => nL + 1 - (intOf i).toNat)
  case atStart => exact ⟨0, rfl, by first | rfl | trivial, by omega, Lib.hid (fun k hk => by omega)⟩
  case round =>
    obtain ⟨j, rfl, rfl, hj, hN⟩ := hrel
    by_cases hjl : j < nL
    · have hj2 : (j : Int) < (nL : Int) := by omega
      obtain ⟨g, off, rfl, hg, hc⟩ := own_natsAt Hown.out j hjl
      dsimp only at hc
      by_cases he : ((L[j]?.getD 0 : Nat) : Int) = wish
      · have HC := Lib.hid (HH.out j hjl he)
        rw [he] at hc
        go_wp2
        go_returns
        exact ⟨by rw [HRR.out, HC.out]; rfl, by ((try simp only [World.junk_junk, Array.append_assoc]); (repeat (first | with_reducible exact Junk.refl _ | with_reducible exact Junk.app _ _ _ _ _ | with_reducible exact Junk.app2 _ _ _ _ _ _ | with_reducible exact Junk.app3 _ _ _ _ _ _ _ | with_reducible exact Junk.app4 _ _ _ _ _ _ _ _ | with_reducible exact Junk.app5 _ _ _ _ _ _ _ _ _ | with_reducible apply Junk.alloc | with_reducible apply Junk.junk | with_reducible apply Junk.drew | with_reducible apply Junk.drewN)))⟩
      · have he2 : (((L[j]?.getD 0 : Nat) : Int) == wish) = false := by simpa using he
        have HN2 := Lib.hid (show ∀ k, k < j + 1 → ((L[k]?.getD 0 : Nat) : Int) ≠ wish from fun k hk => by
          by_cases h : k = j
          · rw [h]; exact he
          · exact hN.out k (by omega))
        clear he
        generalize ((L[j]?.getD 0 : Nat) : Int) = V at hc he2
        go_wp2
        exact ⟨⟨j + 1, by go_num, by first | rfl | trivial, by omega, HN2⟩, by simp [intOf]; omega⟩
    · have hj2 : ¬ (j : Int) < (nL : Int) := by omega
      obtain rfl : nL = j := by omega
      have HC := Lib.hid (HM.out hN.out)
      have hpm : (wish.tmod 2 = 0 ∧ wish % 2 = 0) ∨ (wish.tmod 2 = 1 ∧ wish % 2 = 1) ∨ (wish.tmod 2 = -1 ∧ wish % 2 = 1) := tmod_cases wish
      rcases hpm with ⟨hpm, hpe⟩ | ⟨hpm, hpe⟩ | ⟨hpm, hpe⟩
      · rw [hpe] at RL2
        by_cases hM0 : 0 < nM
        · obtain ⟨PL, hPL⟩ : ∃ PL, PL = D % nM := ⟨_, rfl⟩
          have hz1 : ((nM : Int) == 0) = false := by simp; omega
          have hz2 : ¬ (nM : Int) = 0 := by omega
          have hz3 : ¬ nM = 0 := by omega
          have hpl : (D : Int) % (nM : Int) = (PL : Int) := by omega
          have hpl2 : PL < nM := by rw [hPL]; exact Nat.mod_lt _ hM0
          have hpl3 : (PL : Int) < (nM : Int) := by omega
          have HE := Lib.hid (show R = (((M[PL]?.getD 0 : Nat) : Int), true) by rw [HRR.out, HC.out, if_pos hM0, hPL])
          clear HC hPL
          go_wp2_with (first | (go_at_call 17; refine (RL2.out _ (HS.out.on (by ((try simp only [World.junk_junk, Array.append_assoc]); (repeat (first | with_reducible exact Junk.refl _ | with_reducible exact Junk.app _ _ _ _ _ | with_reducible exact Junk.app2 _ _ _ _ _ _ | with_reducible exact Junk.app3 _ _ _ _ _ _ _ | with_reducible exact Junk.app4 _ _ _ _ _ _ _ _ | with_reducible exact Junk.app5 _ _ _ _ _ _ _ _ _ | with_reducible apply Junk.alloc | with_reducible apply Junk.junk | with_reducible apply Junk.drew | with_reducible apply Junk.drewN)))))).mono ?_; rintro e w' ⟨ob2, cap2, rfl, ⟨os2, d2, rfl⟩, hown2⟩; obtain ⟨g2, off2, rfl, hg2, hc2⟩ := own_natsAt hown2 PL hpl2; dsimp only at hc2; have hg3 := hg2; simp only [World.size_junk, World.junk_junk] at hg3 hc2; clear hown2))
          go_returns
          exact ⟨by rw [HE.out]; rfl, by ((try simp only [World.junk_junk, Array.append_assoc]); (repeat (first | with_reducible exact Junk.refl _ | with_reducible exact Junk.app _ _ _ _ _ | with_reducible exact Junk.app2 _ _ _ _ _ _ | with_reducible exact Junk.app3 _ _ _ _ _ _ _ | with_reducible exact Junk.app4 _ _ _ _ _ _ _ _ | with_reducible exact Junk.app5 _ _ _ _ _ _ _ _ _ | with_reducible apply Junk.alloc | with_reducible apply Junk.junk | with_reducible apply Junk.drew | with_reducible apply Junk.drewN)))⟩
        · obtain rfl : nM = 0 := by omega
          by_cases hL0 : 0 < nL
          · obtain ⟨PL, hPL⟩ : ∃ PL, PL = D % nL := ⟨_, rfl⟩
            have hz1 : ((nL : Int) == 0) = false := by simp; omega
            have hz2 : ¬ (nL : Int) = 0 := by omega
            have hz3 : ¬ nL = 0 := by omega
            have hpl : (D : Int) % (nL : Int) = (PL : Int) := by omega
            have hpl2 : PL < nL := by rw [hPL]; exact Nat.mod_lt _ hL0
            have hpl3 : (PL : Int) < (nL : Int) := by omega
            have HE := Lib.hid (show R = (((L[PL]?.getD 0 : Nat) : Int), true) by rw [HRR.out, HC.out, if_neg (by omega), if_pos hL0, hPL])
            clear HC hPL
            go_wp2_with (first | (go_at_call 17; refine (RL2.out _ (HS.out.on (by ((try simp only [World.junk_junk, Array.append_assoc]); (repeat (first | with_reducible exact Junk.refl _ | with_reducible exact Junk.app _ _ _ _ _ | with_reducible exact Junk.app2 _ _ _ _ _ _ | with_reducible exact Junk.app3 _ _ _ _ _ _ _ | with_reducible exact Junk.app4 _ _ _ _ _ _ _ _ | with_reducible exact Junk.app5 _ _ _ _ _ _ _ _ _ | with_reducible apply Junk.alloc | with_reducible apply Junk.junk | with_reducible apply Junk.drew | with_reducible apply Junk.drewN)))))).mono ?_; rintro e w' ⟨ob2, cap2, rfl, ⟨os2, d2, rfl⟩, hown2⟩; obtain ⟨g2, off2, rfl, hg2, hc2⟩ := own_natsAt (Hown.out.on (show Junk _ (w.junk (os1 ++ os2) d2) from by ((try simp only [World.junk_junk, Array.append_assoc]); (repeat (first | with_reducible exact Junk.refl _ | with_reducible exact Junk.app _ _ _ _ _ | with_reducible exact Junk.app2 _ _ _ _ _ _ | with_reducible exact Junk.app3 _ _ _ _ _ _ _ | with_reducible exact Junk.app4 _ _ _ _ _ _ _ _ | with_reducible exact Junk.app5 _ _ _ _ _ _ _ _ _ | with_reducible apply Junk.alloc | with_reducible apply Junk.junk | with_reducible apply Junk.drew | with_reducible apply Junk.drewN))))) PL hpl2; dsimp only at hc2; have hg3 := hg2; simp only [World.size_junk] at hg3; clear hown2))
            go_returns
            exact ⟨by rw [HE.out]; rfl, by ((try simp only [World.junk_junk, Array.append_assoc]); (repeat (first | with_reducible exact Junk.refl _ | with_reducible exact Junk.app _ _ _ _ _ | with_reducible exact Junk.app2 _ _ _ _ _ _ | with_reducible exact Junk.app3 _ _ _ _ _ _ _ | with_reducible exact Junk.app4 _ _ _ _ _ _ _ _ | with_reducible exact Junk.app5 _ _ _ _ _ _ _ _ _ | with_reducible apply Junk.alloc | with_reducible apply Junk.junk | with_reducible apply Junk.drew | with_reducible apply Junk.drewN)))⟩
          · obtain rfl : nL = 0 := by omega
            have HE := Lib.hid (show R = (0, false) by rw [HRR.out, HC.out, if_neg (by omega), if_neg (by omega)])
            clear HC
            go_wp2_with (first | (go_at_call 17; refine (RL2.out _ (HS.out.on (by ((try simp only [World.junk_junk, Array.append_assoc]); (repeat (first | with_reducible exact Junk.refl _ | with_reducible exact Junk.app _ _ _ _ _ | with_reducible exact Junk.app2 _ _ _ _ _ _ | with_reducible exact Junk.app3 _ _ _ _ _ _ _ | with_reducible exact Junk.app4 _ _ _ _ _ _ _ _ | with_reducible exact Junk.app5 _ _ _ _ _ _ _ _ _ | with_reducible apply Junk.alloc | with_reducible apply Junk.junk | with_reducible apply Junk.drew | with_reducible apply Junk.drewN)))))).mono ?_; rintro e w' ⟨ob2, cap2, rfl, ⟨os2, d2, rfl⟩, hown2⟩; clear hown2))
            go_returns
            exact ⟨by rw [HE.out]; rfl, by ((try simp only [World.junk_junk, Array.append_assoc]); (repeat (first | with_reducible exact Junk.refl _ | with_reducible exact Junk.app _ _ _ _ _ | with_reducible exact Junk.app2 _ _ _ _ _ _ | with_reducible exact Junk.app3 _ _ _ _ _ _ _ | with_reducible exact Junk.app4 _ _ _ _ _ _ _ _ | with_reducible exact Junk.app5 _ _ _ _ _ _ _ _ _ | with_reducible apply Junk.alloc | with_reducible apply Junk.junk | with_reducible apply Junk.drew | with_reducible apply Junk.drewN)))⟩
      · rw [hpe] at RL2
        by_cases hM0 : 0 < nM
        · obtain ⟨PL, hPL⟩ : ∃ PL, PL = D % nM := ⟨_, rfl⟩
          have hz1 : ((nM : Int) == 0) = false := by simp; omega
          have hz2 : ¬ (nM : Int) = 0 := by omega
          have hz3 : ¬ nM = 0 := by omega
          have hpl : (D : Int) % (nM : Int) = (PL : Int) := by omega
          have hpl2 : PL < nM := by rw [hPL]; exact Nat.mod_lt _ hM0
          have hpl3 : (PL : Int) < (nM : Int) := by omega
          have HE := Lib.hid (show R = (((M[PL]?.getD 0 : Nat) : Int), true) by rw [HRR.out, HC.out, if_pos hM0, hPL])
          clear HC hPL
          go_wp2_with (first | (go_at_call 17; refine (RL2.out _ (HS.out.on (by ((try simp only [World.junk_junk, Array.append_assoc]); (repeat (first | with_reducible exact Junk.refl _ | with_reducible exact Junk.app _ _ _ _ _ | with_reducible exact Junk.app2 _ _ _ _ _ _ | with_reducible exact Junk.app3 _ _ _ _ _ _ _ | with_reducible exact Junk.app4 _ _ _ _ _ _ _ _ | with_reducible exact Junk.app5 _ _ _ _ _ _ _ _ _ | with_reducible apply Junk.alloc | with_reducible apply Junk.junk | with_reducible apply Junk.drew | with_reducible apply Junk.drewN)))))).mono ?_; rintro e w' ⟨ob2, cap2, rfl, ⟨os2, d2, rfl⟩, hown2⟩; obtain ⟨g2, off2, rfl, hg2, hc2⟩ := own_natsAt hown2 PL hpl2; dsimp only at hc2; have hg3 := hg2; simp only [World.size_junk, World.junk_junk] at hg3 hc2; clear hown2))
          go_returns
          exact ⟨by rw [HE.out]; rfl, by ((try simp only [World.junk_junk, Array.append_assoc]); (repeat (first | with_reducible exact Junk.refl _ | with_reducible exact Junk.app _ _ _ _ _ | with_reducible exact Junk.app2 _ _ _ _ _ _ | with_reducible exact Junk.app3 _ _ _ _ _ _ _ | with_reducible exact Junk.app4 _ _ _ _ _ _ _ _ | with_reducible exact Junk.app5 _ _ _ _ _ _ _ _ _ | with_reducible apply Junk.alloc | with_reducible apply Junk.junk | with_reducible apply Junk.drew | with_reducible apply Junk.drewN)))⟩
        · obtain rfl : nM = 0 := by omega
          by_cases hL0 : 0 < nL
          · obtain ⟨PL, hPL⟩ : ∃ PL, PL = D % nL := ⟨_, rfl⟩
            have hz1 : ((nL : Int) == 0) = false := by simp; omega
            have hz2 : ¬ (nL : Int) = 0 := by omega
            have hz3 : ¬ nL = 0 := by omega
            have hpl : (D : Int) % (nL : Int) = (PL : Int) := by omega
            have hpl2 : PL < nL := by rw [hPL]; exact Nat.mod_lt _ hL0
            have hpl3 : (PL : Int) < (nL : Int) := by omega
            have HE := Lib.hid (show R = (((L[PL]?.getD 0 : Nat) : Int), true) by rw [HRR.out, HC.out, if_neg (by omega), if_pos hL0, hPL])
            clear HC hPL
            go_wp2_with (first | (go_at_call 17; refine (RL2.out _ (HS.out.on (by ((try simp only [World.junk_junk, Array.append_assoc]); (repeat (first | with_reducible exact Junk.refl _ | with_reducible exact Junk.app _ _ _ _ _ | with_reducible exact Junk.app2 _ _ _ _ _ _ | with_reducible exact Junk.app3 _ _ _ _ _ _ _ | with_reducible exact Junk.app4 _ _ _ _ _ _ _ _ | with_reducible exact Junk.app5 _ _ _ _ _ _ _ _ _ | with_reducible apply Junk.alloc | with_reducible apply Junk.junk | with_reducible apply Junk.drew | with_reducible apply Junk.drewN)))))).mono ?_; rintro e w' ⟨ob2, cap2, rfl, ⟨os2, d2, rfl⟩, hown2⟩; obtain ⟨g2, off2, rfl, hg2, hc2⟩ := own_natsAt (Hown.out.on (show Junk _ (w.junk (os1 ++ os2) d2) from by ((try simp only [World.junk_junk, Array.append_assoc]); (repeat (first | with_reducible exact Junk.refl _ | with_reducible exact Junk.app _ _ _ _ _ | with_reducible exact Junk.app2 _ _ _ _ _ _ | with_reducible exact Junk.app3 _ _ _ _ _ _ _ | with_reducible exact Junk.app4 _ _ _ _ _ _ _ _ | with_reducible exact Junk.app5 _ _ _ _ _ _ _ _ _ | with_reducible apply Junk.alloc | with_reducible apply Junk.junk | with_reducible apply Junk.drew | with_reducible apply Junk.drewN))))) PL hpl2; dsimp only at hc2; have hg3 := hg2; simp only [World.size_junk] at hg3; clear hown2))
            go_returns
            exact ⟨by rw [HE.out]; rfl, by ((try simp only [World.junk_junk, Array.append_assoc]); (repeat (first | with_reducible exact Junk.refl _ | with_reducible exact Junk.app _ _ _ _ _ | with_reducible exact Junk.app2 _ _ _ _ _ _ | with_reducible exact Junk.app3 _ _ _ _ _ _ _ | with_reducible exact Junk.app4 _ _ _ _ _ _ _ _ | with_reducible exact Junk.app5 _ _ _ _ _ _ _ _ _ | with_reducible apply Junk.alloc | with_reducible apply Junk.junk | with_reducible apply Junk.drew | with_reducible apply Junk.drewN)))⟩
          · obtain rfl : nL = 0 := by omega
            have HE := Lib.hid (show R = (0, false) by rw [HRR.out, HC.out, if_neg (by omega), if_neg (by omega)])
            clear HC
            go_wp2_with (first | (go_at_call 17; refine (RL2.out _ (HS.out.on (by ((try simp only [World.junk_junk, Array.append_assoc]); (repeat (first | with_reducible exact Junk.refl _ | with_reducible exact Junk.app _ _ _ _ _ | with_reducible exact Junk.app2 _ _ _ _ _ _ | with_reducible exact Junk.app3 _ _ _ _ _ _ _ | with_reducible exact Junk.app4 _ _ _ _ _ _ _ _ | with_reducible exact Junk.app5 _ _ _ _ _ _ _ _ _ | with_reducible apply Junk.alloc | with_reducible apply Junk.junk | with_reducible apply Junk.drew | with_reducible apply Junk.drewN)))))).mono ?_; rintro e w' ⟨ob2, cap2, rfl, ⟨os2, d2, rfl⟩, hown2⟩; clear hown2))
            go_returns
            exact ⟨by rw [HE.out]; rfl, by ((try simp only [World.junk_junk, Array.append_assoc]); (repeat (first | with_reducible exact Junk.refl _ | with_reducible exact Junk.app _ _ _ _ _ | with_reducible exact Junk.app2 _ _ _ _ _ _ | with_reducible exact Junk.app3 _ _ _ _ _ _ _ | with_reducible exact Junk.app4 _ _ _ _ _ _ _ _ | with_reducible exact Junk.app5 _ _ _ _ _ _ _ _ _ | with_reducible apply Junk.alloc | with_reducible apply Junk.junk | with_reducible apply Junk.drew | with_reducible apply Junk.drewN)))⟩
      · rw [hpe] at RL2
        by_cases hM0 : 0 < nM
        · obtain ⟨PL, hPL⟩ : ∃ PL, PL = D % nM := ⟨_, rfl⟩
          have hz1 : ((nM : Int) == 0) = false := by simp; omega
          have hz2 : ¬ (nM : Int) = 0 := by omega
          have hz3 : ¬ nM = 0 := by omega
          have hpl : (D : Int) % (nM : Int) = (PL : Int) := by omega
          have hpl2 : PL < nM := by rw [hPL]; exact Nat.mod_lt _ hM0
          have hpl3 : (PL : Int) < (nM : Int) := by omega
          have HE := Lib.hid (show R = (((M[PL]?.getD 0 : Nat) : Int), true) by rw [HRR.out, HC.out, if_pos hM0, hPL])
          clear HC hPL
          go_wp2_with (first | (go_at_call 17; refine (RL2.out _ (HS.out.on (by ((try simp only [World.junk_junk, Array.append_assoc]); (repeat (first | with_reducible exact Junk.refl _ | with_reducible exact Junk.app _ _ _ _ _ | with_reducible exact Junk.app2 _ _ _ _ _ _ | with_reducible exact Junk.app3 _ _ _ _ _ _ _ | with_reducible exact Junk.app4 _ _ _ _ _ _ _ _ | with_reducible exact Junk.app5 _ _ _ _ _ _ _ _ _ | with_reducible apply Junk.alloc | with_reducible apply Junk.junk | with_reducible apply Junk.drew | with_reducible apply Junk.drewN)))))).mono ?_; rintro e w' ⟨ob2, cap2, rfl, ⟨os2, d2, rfl⟩, hown2⟩; obtain ⟨g2, off2, rfl, hg2, hc2⟩ := own_natsAt hown2 PL hpl2; dsimp only at hc2; have hg3 := hg2; simp only [World.size_junk, World.junk_junk] at hg3 hc2; clear hown2))
          go_returns
          exact ⟨by rw [HE.out]; rfl, by ((try simp only [World.junk_junk, Array.append_assoc]); (repeat (first | with_reducible exact Junk.refl _ | with_reducible exact Junk.app _ _ _ _ _ | with_reducible exact Junk.app2 _ _ _ _ _ _ | with_reducible exact Junk.app3 _ _ _ _ _ _ _ | with_reducible exact Junk.app4 _ _ _ _ _ _ _ _ | with_reducible exact Junk.app5 _ _ _ _ _ _ _ _ _ | with_reducible apply Junk.alloc | with_reducible apply Junk.junk | with_reducible apply Junk.drew | with_reducible apply Junk.drewN)))⟩
        · obtain rfl : nM = 0 := by omega
          by_cases hL0 : 0 < nL
          · obtain ⟨PL, hPL⟩ : ∃ PL, PL = D % nL := ⟨_, rfl⟩
            have hz1 : ((nL : Int) == 0) = false := by simp; omega
            have hz2 : ¬ (nL : Int) = 0 := by omega
            have hz3 : ¬ nL = 0 := by omega
            have hpl : (D : Int) % (nL : Int) = (PL : Int) := by omega
            have hpl2 : PL < nL := by rw [hPL]; exact Nat.mod_lt _ hL0
            have hpl3 : (PL : Int) < (nL : Int) := by omega
            have HE := Lib.hid (show R = (((L[PL]?.getD 0 : Nat) : Int), true) by rw [HRR.out, HC.out, if_neg (by omega), if_pos hL0, hPL])
            clear HC hPL
            go_wp2_with (first | (go_at_call 17; refine (RL2.out _ (HS.out.on (by ((try simp only [World.junk_junk, Array.append_assoc]); (repeat (first | with_reducible exact Junk.refl _ | with_reducible exact Junk.app _ _ _ _ _ | with_reducible exact Junk.app2 _ _ _ _ _ _ | with_reducible exact Junk.app3 _ _ _ _ _ _ _ | with_reducible exact Junk.app4 _ _ _ _ _ _ _ _ | with_reducible exact Junk.app5 _ _ _ _ _ _ _ _ _ | with_reducible apply Junk.alloc | with_reducible apply Junk.junk | with_reducible apply Junk.drew | with_reducible apply Junk.drewN)))))).mono ?_; rintro e w' ⟨ob2, cap2, rfl, ⟨os2, d2, rfl⟩, hown2⟩; obtain ⟨g2, off2, rfl, hg2, hc2⟩ := own_natsAt (Hown.out.on (show Junk _ (w.junk (os1 ++ os2) d2) from by ((try simp only [World.junk_junk, Array.append_assoc]); (repeat (first | with_reducible exact Junk.refl _ | with_reducible exact Junk.app _ _ _ _ _ | with_reducible exact Junk.app2 _ _ _ _ _ _ | with_reducible exact Junk.app3 _ _ _ _ _ _ _ | with_reducible exact Junk.app4 _ _ _ _ _ _ _ _ | with_reducible exact Junk.app5 _ _ _ _ _ _ _ _ _ | with_reducible apply Junk.alloc | with_reducible apply Junk.junk | with_reducible apply Junk.drew | with_reducible apply Junk.drewN))))) PL hpl2; dsimp only at hc2; have hg3 := hg2; simp only [World.size_junk] at hg3; clear hown2))
            go_returns
            exact ⟨by rw [HE.out]; rfl, by ((try simp only [World.junk_junk, Array.append_assoc]); (repeat (first | with_reducible exact Junk.refl _ | with_reducible exact Junk.app _ _ _ _ _ | with_reducible exact Junk.app2 _ _ _ _ _ _ | with_reducible exact Junk.app3 _ _ _ _ _ _ _ | with_reducible exact Junk.app4 _ _ _ _ _ _ _ _ | with_reducible exact Junk.app5 _ _ _ _ _ _ _ _ _ | with_reducible apply Junk.alloc | with_reducible apply Junk.junk | with_reducible apply Junk.drew | with_reducible apply Junk.drewN)))⟩
          · obtain rfl : nL = 0 := by omega
            have HE := Lib.hid (show R = (0, false) by rw [HRR.out, HC.out, if_neg (by omega), if_neg (by omega)])
            clear HC
            go_wp2_with (first | (go_at_call 17; refine (RL2.out _ (HS.out.on (by ((try simp only [World.junk_junk, Array.append_assoc]); (repeat (first | with_reducible exact Junk.refl _ | with_reducible exact Junk.app _ _ _ _ _ | with_reducible exact Junk.app2 _ _ _ _ _ _ | with_reducible exact Junk.app3 _ _ _ _ _ _ _ | with_reducible exact Junk.app4 _ _ _ _ _ _ _ _ | with_reducible exact Junk.app5 _ _ _ _ _ _ _ _ _ | with_reducible apply Junk.alloc | with_reducible apply Junk.junk | with_reducible apply Junk.drew | with_reducible apply Junk.drewN)))))).mono ?_; rintro e w' ⟨ob2, cap2, rfl, ⟨os2, d2, rfl⟩, hown2⟩; clear hown2))
            go_returns
            exact ⟨by rw [HE.out]; rfl, by ((try simp only [World.junk_junk, Array.append_assoc]); (repeat (first | with_reducible exact Junk.refl _ | with_reducible exact Junk.app _ _ _ _ _ | with_reducible exact Junk.app2 _ _ _ _ _ _ | with_reducible exact Junk.app3 _ _ _ _ _ _ _ | with_reducible exact Junk.app4 _ _ _ _ _ _ _ _ | with_reducible exact Junk.app5 _ _ _ _ _ _ _ _ _ | with_reducible apply Junk.alloc | with_reducible apply Junk.junk | with_reducible apply Junk.drew | with_reducible apply Junk.drewN)))⟩
end Go.Proofs.Ytambpmbgfjefcaa
