/- The law PoolDraws: each free port of the wished parity is chosen by some draw, and by none more often than by all, one after the other. -/
import Derived.Test.YtambpmbgfjefcaaPoolE
import Derived.Test.YtambpmbgfjefcaaLift2
set_option linter.unusedVariables false
set_option maxRecDepth 100000
set_option linter.unusedSimpArgs false
namespace Go.Proofs.Ytambpmbgfjefcaa
open Go.RowKit
def DrawInv (F : Nat → Bool) (b f : Nat) (wish : Int) (n q : Nat) : Prop := ∃ pre : List Nat, freeL F 2 b f = pre ++ freeL F 2 b (firstP q wish) ∧ pre.length = n
theorem draw_start (F : Nat → Bool) (b a : Nat) (wish : Int) : DrawInv F b (firstP a wish) wish 0 a := ⟨[], rfl, rfl⟩
theorem firstP_eq {q : Nat} {wish : Int} (h : (q : Int) % 2 = wish % 2) : firstP q wish = q ∧ firstP (q + 1) wish = q + 2 := by
  unfold firstP
  rw [if_pos h, if_neg (by omega)]
  exact ⟨rfl, rfl⟩
theorem firstP_ne {q : Nat} {wish : Int} (h : ¬ (q : Int) % 2 = wish % 2) : firstP q wish = q + 1 ∧ firstP (q + 1) wish = q + 1 := by
  unfold firstP
  rw [if_neg h, if_pos (by omega)]
  exact ⟨rfl, rfl⟩
theorem draw_skip {F : Nat → Bool} {b f : Nat} {wish : Int} {n q : Nat} (h : DrawInv F b f wish n q) (hq : q ≤ b) (hf : ¬ (q : Int) % 2 = wish % 2 ∨ F q = true) : DrawInv F b f wish n (q + 1) := by
  obtain ⟨pre, h1, h2⟩ := h
  by_cases hp : (q : Int) % 2 = wish % 2
  · obtain ⟨e1, e2⟩ := firstP_eq hp
    have hF := hf.resolve_left (fun h => h hp)
    refine ⟨pre, ?_, h2⟩
    rw [h1, e1, e2, freeL_step F 2 b q (by decide), if_pos hq, if_pos hF]
  · obtain ⟨e1, e2⟩ := firstP_ne hp
    exact ⟨pre, by rw [h1, e1, e2], h2⟩
theorem draw_take {F : Nat → Bool} {b f : Nat} {wish : Int} {n q : Nat} (h : DrawInv F b f wish n q) (hq : q ≤ b) (hp : (q : Int) % 2 = wish % 2) (hF : F q = false) :
    DrawInv F b f wish (n + 1) (q + 1) ∧ n < (freeL F 2 b f).length ∧ (freeL F 2 b f)[n]? = some q := by
  obtain ⟨pre, h1, h2⟩ := h
  obtain ⟨e1, e2⟩ := firstP_eq hp
  rw [e1, freeL_step F 2 b q (by decide), if_pos hq, if_neg (by simp [hF])] at h1
  refine ⟨⟨pre ++ [q], by rw [h1, e2]; simp, by simp [h2]⟩, by rw [h1]; simp; omega, ?_⟩
  rw [h1, List.getElem?_append_right (by omega), h2]
  simp
theorem draw_choose {a b l n q : Nat} {xs : Nat → Int} {wish : Int} (hr : rightB a b = true) (hw : (b : Int) < wish) (h1 : n < (freeL (takenB a b xs l) 2 b (firstP a wish)).length) (h2 : (freeL (takenB a b xs l) 2 b (firstP a wish))[n]? = some q) :
    poolChoose a b xs l wish n = ((q : Int), true) := by
  unfold poolChoose poolL
  rw [if_neg (by simp [hr]), if_neg (fun h => by omega)]
  simp only [Int.toNat_natCast]
  rw [if_pos (by omega), Nat.mod_eq_of_lt h1, h2]
  rfl
def freeK (par : Bool) (xs : Nat → Int) (q : Int) (k : Nat) : Bool := par && decide (∀ i, i < k → xs i ≠ q)
theorem freeK_succ (par : Bool) (xs : Nat → Int) (q : Int) (k : Nat) : freeK par xs q (k + 1) = (freeK par xs q k && (xs k != q)) := by
  unfold freeK
  rw [Bool.and_assoc]
  congr 1
  rw [Bool.eq_iff_iff]
  simp only [decide_eq_true_eq, Bool.and_eq_true, bne_iff_ne]
  constructor
  · exact fun h => ⟨fun i hi => h i (by omega), h k (by omega)⟩
  · rintro ⟨h1, h2⟩ i hi
    by_cases h : i = k
    · subst h; exact h2
    · exact h1 i (by omega)
theorem freeK_taken {a b l q : Nat} {xs : Nat → Int} {par : Bool} (h1 : a ≤ q) (h2 : q ≤ b) : freeK par xs q l = (par && !takenB a b xs l q) := by
  unfold freeK takenB
  congr 1
  rw [Bool.eq_iff_iff]
  simp only [decide_eq_true_eq, Bool.not_eq_true', decide_eq_false_iff_not]
  constructor
  · rintro h ⟨_, _, i, hi, hx⟩; exact h i hi hx
  · intro h i hi hx; exact h ⟨by omega, by omega, i, hi, hx⟩
set_option maxHeartbeats 2000000 in
theorem draws_walk (lo size : Int) (oa : Option Addr) (l c : Nat) (xs : Nat → Int) (odd : Bool) (m : Nat) (w : World) (hlo : 0 ≤ lo ∧ lo ≤ 65535) (hsz : 0 ≤ size ∧ size ≤ 255) (hS : IntsAt w oa l .i64 xs) (hlc : l ≤ c) (hcm : c ≤ 9223372036854775807) (hmin : (min (l : Int) 60).toNat = m) (hm : m ≤ l) (hm6 : m ≤ 60) :
    Calls Try.prog 5 #[.int .u16 lo, .int .u8 size, .slice oa l c, .bool odd] w fun e w' => e = .returned (.bool true) ∧ Junk w w' := by
  have HS := Lib.hid (show IntsAt w oa m .i64 xs from fun i hi => hS i (by omega))
  clear hS
  obtain ⟨a, ha⟩ : ∃ a : Nat, lo % 60000 + 1 = (a : Int) := ⟨(lo % 60000 + 1).toNat, by omega⟩
  obtain ⟨b, hb⟩ : ∃ b : Nat, (a : Int) + size % 60 = (b : Int) := ⟨((a : Int) + size % 60).toNat, by omega⟩
  have a1 : 1 ≤ a := by omega
  have ab : a ≤ b := by omega
  have b9 : b ≤ 60100 := by omega
  have hr : rightB a b = true := by simp [rightB]; omega
  have HR := Lib.hid hr
  clear hr
  have m1 : (m : Int) ≤ (c : Int) := by omega
  have m2 : (m : Int) ≤ (l : Int) := by omega
  by_cases h60 : l ≤ 60
  · obtain rfl : m = l := by omega
    clear hmin hm m2
    cases odd with
    | false =>
      go_enter Try.func5, Try.ntmps5
      go_wp2_with (first | (go_at_call 10; refine (awake16_any _).mono ?_; rintro e w' ⟨rfl, ⟨osj, dj, rfl⟩⟩))
      go_loopw [12, 13] (fun n i wr => ∃ k q : Nat, n = .int .i64 (k : Int) ∧ i = .int .i64 (q : Int) ∧ Junk w wr ∧ Hid (DrawInv (takenB a b xs m) b (firstP a 70000) 70000 k q) ∧ a ≤ q ∧ q ≤ b + 1 ∧ k ≤ q) (fun _ i _ => b + 2 - (intOf i).toNat)
      case atStart => exact ⟨0, a, rfl, rfl, by ((try simp only [World.junk_junk, Array.append_assoc]); (repeat (first | with_reducible exact Junk.refl _ | with_reducible exact Junk.app _ _ _ _ _ | with_reducible exact Junk.app2 _ _ _ _ _ _ | with_reducible exact Junk.app3 _ _ _ _ _ _ _ | with_reducible exact Junk.app4 _ _ _ _ _ _ _ _ | with_reducible exact Junk.app5 _ _ _ _ _ _ _ _ _ | with_reducible apply Junk.alloc | with_reducible apply Junk.junk | with_reducible apply Junk.drew | with_reducible apply Junk.drewN))), Lib.hid (draw_start _ _ _ _), by omega, by omega, by omega⟩
      case round =>
        obtain ⟨k, q, rfl, rfl, ⟨os, d, rfl⟩, hI, hq1, hq2, hkq⟩ := hrel
        by_cases hle : q ≤ b
        · have hle2 : (q : Int) ≤ (b : Int) := by omega
          obtain ⟨par, hpar⟩ : ∃ par, par = ((q : Int) % 2 == 0) := ⟨_, rfl⟩
          have hp2 : ((q : Int) % 2 == 0) = par := hpar.symm
          have HPAR := Lib.hid hpar
          clear hpar
          go_wp2
          go_loopw [14, 15] (fun f i wr => ∃ j : Nat, f = .bool (freeK par xs q j) ∧ i = .int .i64 (j : Int) ∧ wr = w.junk os d ∧ j ≤ m) (fun _ i _ => m + 1 - (intOf i).toNat)
          case atStart => exact ⟨0, by simp [freeK], rfl, by first | rfl | trivial, by omega⟩
          case round =>
            obtain ⟨j, rfl, rfl, rfl, hj⟩ := hrel
            by_cases hjm : j < m
            · have hj2 : (j : Int) < (m : Int) := by omega
              obtain ⟨bb, off, rfl, hblk, hc⟩ := HS.out j hjm
              have hk := freeK_succ par xs q j
              cases hf : freeK par xs q j with
              | false =>
                rw [hf] at hk
                go_wp2
                exact ⟨⟨j + 1, by rw [hk]; rfl, by go_num, by first | rfl | trivial, by omega⟩, by simp [intOf]; omega⟩
              | true =>
                rw [hf] at hk
                go_wp2
                exact ⟨⟨j + 1, by rw [hk]; simp, by go_num, by first | rfl | trivial, by omega⟩, by simp [intOf]; omega⟩
            · have hj2 : ¬ (j : Int) < (m : Int) := by omega
              obtain rfl : m = j := by omega
              cases hf : freeK par xs q m with
              | false =>
                have HSK := Lib.hid (show DrawInv (takenB a b xs m) b (firstP a 70000) 70000 k (q + 1) by
                  refine draw_skip hI.out hle ?_
                  rw [freeK_taken (a := a) (b := b) hq1 hle, HPAR.out] at hf
                  by_cases hp : (q : Int) % 2 = (70000 : Int) % 2
                  · right
                    have : ((q : Int) % 2 == 0) = true := by simp; omega
                    rw [this] at hf
                    simpa using hf
                  · exact .inl hp)
                clear hI
                go_wp2
                exact ⟨⟨k, q + 1, rfl, by go_num, by ((try simp only [World.junk_junk, Array.append_assoc]); (repeat (first | with_reducible exact Junk.refl _ | with_reducible exact Junk.app _ _ _ _ _ | with_reducible exact Junk.app2 _ _ _ _ _ _ | with_reducible exact Junk.app3 _ _ _ _ _ _ _ | with_reducible exact Junk.app4 _ _ _ _ _ _ _ _ | with_reducible exact Junk.app5 _ _ _ _ _ _ _ _ _ | with_reducible apply Junk.alloc | with_reducible apply Junk.junk | with_reducible apply Junk.drew | with_reducible apply Junk.drewN))), HSK, by omega, by omega, by omega⟩, by simp [intOf]; omega⟩
              | true =>
                have hbo : (q : Int) % 2 = (70000 : Int) % 2 ∧ takenB a b xs m q = false := by
                  rw [freeK_taken (a := a) (b := b) hq1 hle, HPAR.out] at hf
                  simp only [Bool.and_eq_true, beq_iff_eq, Bool.not_eq_true'] at hf
                  exact ⟨by omega, hf.2⟩
                obtain ⟨d1, d2, d3⟩ := draw_take hI.out hle hbo.1 hbo.2
                have HC := Lib.hid (draw_choose (l := m) HR.out (by omega) d2 d3)
                have HD := Lib.hid d1
                clear hI d1 d2 d3 hbo
                go_wp2_with (first | (go_at_call 12; refine (choose_any (a : Int) (b : Int) _ m c xs 70000 k _ (by omega) (by omega) (HS.out.on (by ((try simp only [World.junk_junk, Array.append_assoc]); (repeat (first | with_reducible exact Junk.refl _ | with_reducible exact Junk.app _ _ _ _ _ | with_reducible exact Junk.app2 _ _ _ _ _ _ | with_reducible exact Junk.app3 _ _ _ _ _ _ _ | with_reducible exact Junk.app4 _ _ _ _ _ _ _ _ | with_reducible exact Junk.app5 _ _ _ _ _ _ _ _ _ | with_reducible apply Junk.alloc | with_reducible apply Junk.junk | with_reducible apply Junk.drew | with_reducible apply Junk.drewN)))))).mono ?_; rintro e w' ⟨rfl, ⟨osj2, dj2, rfl⟩⟩; rw [HC.out]))
                exact ⟨⟨k + 1, q + 1, by go_num, by go_num, by ((try simp only [World.junk_junk, Array.append_assoc]); (repeat (first | with_reducible exact Junk.refl _ | with_reducible exact Junk.app _ _ _ _ _ | with_reducible exact Junk.app2 _ _ _ _ _ _ | with_reducible exact Junk.app3 _ _ _ _ _ _ _ | with_reducible exact Junk.app4 _ _ _ _ _ _ _ _ | with_reducible exact Junk.app5 _ _ _ _ _ _ _ _ _ | with_reducible apply Junk.alloc | with_reducible apply Junk.junk | with_reducible apply Junk.drew | with_reducible apply Junk.drewN))), HD, by omega, by omega, by omega⟩, by simp [intOf]; omega⟩
        · have hle2 : ¬ (q : Int) ≤ (b : Int) := by omega
          go_wp2
          go_ret
          exact ⟨ret_bool rfl, by ((try simp only [World.junk_junk, Array.append_assoc]); (repeat (first | with_reducible exact Junk.refl _ | with_reducible exact Junk.app _ _ _ _ _ | with_reducible exact Junk.app2 _ _ _ _ _ _ | with_reducible exact Junk.app3 _ _ _ _ _ _ _ | with_reducible exact Junk.app4 _ _ _ _ _ _ _ _ | with_reducible exact Junk.app5 _ _ _ _ _ _ _ _ _ | with_reducible apply Junk.alloc | with_reducible apply Junk.junk | with_reducible apply Junk.drew | with_reducible apply Junk.drewN)))⟩
    | true =>
      go_enter Try.func5, Try.ntmps5
      go_wp2_with (first | (go_at_call 10; refine (awake16_any _).mono ?_; rintro e w' ⟨rfl, ⟨osj, dj, rfl⟩⟩))
      go_loopw [12, 13] (fun n i wr => ∃ k q : Nat, n = .int .i64 (k : Int) ∧ i = .int .i64 (q : Int) ∧ Junk w wr ∧ Hid (DrawInv (takenB a b xs m) b (firstP a 70001) 70001 k q) ∧ a ≤ q ∧ q ≤ b + 1 ∧ k ≤ q) (fun _ i _ => b + 2 - (intOf i).toNat)
      case atStart => exact ⟨0, a, rfl, rfl, by ((try simp only [World.junk_junk, Array.append_assoc]); (repeat (first | with_reducible exact Junk.refl _ | with_reducible exact Junk.app _ _ _ _ _ | with_reducible exact Junk.app2 _ _ _ _ _ _ | with_reducible exact Junk.app3 _ _ _ _ _ _ _ | with_reducible exact Junk.app4 _ _ _ _ _ _ _ _ | with_reducible exact Junk.app5 _ _ _ _ _ _ _ _ _ | with_reducible apply Junk.alloc | with_reducible apply Junk.junk | with_reducible apply Junk.drew | with_reducible apply Junk.drewN))), Lib.hid (draw_start _ _ _ _), by omega, by omega, by omega⟩
      case round =>
        obtain ⟨k, q, rfl, rfl, ⟨os, d, rfl⟩, hI, hq1, hq2, hkq⟩ := hrel
        by_cases hle : q ≤ b
        · have hle2 : (q : Int) ≤ (b : Int) := by omega
          obtain ⟨par, hpar⟩ : ∃ par, par = ((q : Int) % 2 == 1) := ⟨_, rfl⟩
          have hp2 : ((q : Int) % 2 == 1) = par := hpar.symm
          have HPAR := Lib.hid hpar
          clear hpar
          go_wp2
          go_loopw [14, 15] (fun f i wr => ∃ j : Nat, f = .bool (freeK par xs q j) ∧ i = .int .i64 (j : Int) ∧ wr = w.junk os d ∧ j ≤ m) (fun _ i _ => m + 1 - (intOf i).toNat)
          case atStart => exact ⟨0, by simp [freeK], rfl, by first | rfl | trivial, by omega⟩
          case round =>
            obtain ⟨j, rfl, rfl, rfl, hj⟩ := hrel
            by_cases hjm : j < m
            · have hj2 : (j : Int) < (m : Int) := by omega
              obtain ⟨bb, off, rfl, hblk, hc⟩ := HS.out j hjm
              have hk := freeK_succ par xs q j
              cases hf : freeK par xs q j with
              | false =>
                rw [hf] at hk
                go_wp2
                exact ⟨⟨j + 1, by rw [hk]; rfl, by go_num, by first | rfl | trivial, by omega⟩, by simp [intOf]; omega⟩
              | true =>
                rw [hf] at hk
                go_wp2
                exact ⟨⟨j + 1, by rw [hk]; simp, by go_num, by first | rfl | trivial, by omega⟩, by simp [intOf]; omega⟩
            · have hj2 : ¬ (j : Int) < (m : Int) := by omega
              obtain rfl : m = j := by omega
              cases hf : freeK par xs q m with
              | false =>
                have HSK := Lib.hid (show DrawInv (takenB a b xs m) b (firstP a 70001) 70001 k (q + 1) by
                  refine draw_skip hI.out hle ?_
                  rw [freeK_taken (a := a) (b := b) hq1 hle, HPAR.out] at hf
                  by_cases hp : (q : Int) % 2 = (70001 : Int) % 2
                  · right
                    have : ((q : Int) % 2 == 1) = true := by simp; omega
                    rw [this] at hf
                    simpa using hf
                  · exact .inl hp)
                clear hI
                go_wp2
                exact ⟨⟨k, q + 1, rfl, by go_num, by ((try simp only [World.junk_junk, Array.append_assoc]); (repeat (first | with_reducible exact Junk.refl _ | with_reducible exact Junk.app _ _ _ _ _ | with_reducible exact Junk.app2 _ _ _ _ _ _ | with_reducible exact Junk.app3 _ _ _ _ _ _ _ | with_reducible exact Junk.app4 _ _ _ _ _ _ _ _ | with_reducible exact Junk.app5 _ _ _ _ _ _ _ _ _ | with_reducible apply Junk.alloc | with_reducible apply Junk.junk | with_reducible apply Junk.drew | with_reducible apply Junk.drewN))), HSK, by omega, by omega, by omega⟩, by simp [intOf]; omega⟩
              | true =>
                have hbo : (q : Int) % 2 = (70001 : Int) % 2 ∧ takenB a b xs m q = false := by
                  rw [freeK_taken (a := a) (b := b) hq1 hle, HPAR.out] at hf
                  simp only [Bool.and_eq_true, beq_iff_eq, Bool.not_eq_true'] at hf
                  exact ⟨by omega, hf.2⟩
                obtain ⟨d1, d2, d3⟩ := draw_take hI.out hle hbo.1 hbo.2
                have HC := Lib.hid (draw_choose (l := m) HR.out (by omega) d2 d3)
                have HD := Lib.hid d1
                clear hI d1 d2 d3 hbo
                go_wp2_with (first | (go_at_call 12; refine (choose_any (a : Int) (b : Int) _ m c xs 70001 k _ (by omega) (by omega) (HS.out.on (by ((try simp only [World.junk_junk, Array.append_assoc]); (repeat (first | with_reducible exact Junk.refl _ | with_reducible exact Junk.app _ _ _ _ _ | with_reducible exact Junk.app2 _ _ _ _ _ _ | with_reducible exact Junk.app3 _ _ _ _ _ _ _ | with_reducible exact Junk.app4 _ _ _ _ _ _ _ _ | with_reducible exact Junk.app5 _ _ _ _ _ _ _ _ _ | with_reducible apply Junk.alloc | with_reducible apply Junk.junk | with_reducible apply Junk.drew | with_reducible apply Junk.drewN)))))).mono ?_; rintro e w' ⟨rfl, ⟨osj2, dj2, rfl⟩⟩; rw [HC.out]))
                exact ⟨⟨k + 1, q + 1, by go_num, by go_num, by ((try simp only [World.junk_junk, Array.append_assoc]); (repeat (first | with_reducible exact Junk.refl _ | with_reducible exact Junk.app _ _ _ _ _ | with_reducible exact Junk.app2 _ _ _ _ _ _ | with_reducible exact Junk.app3 _ _ _ _ _ _ _ | with_reducible exact Junk.app4 _ _ _ _ _ _ _ _ | with_reducible exact Junk.app5 _ _ _ _ _ _ _ _ _ | with_reducible apply Junk.alloc | with_reducible apply Junk.junk | with_reducible apply Junk.drew | with_reducible apply Junk.drewN))), HD, by omega, by omega, by omega⟩, by simp [intOf]; omega⟩
        · have hle2 : ¬ (q : Int) ≤ (b : Int) := by omega
          go_wp2
          go_ret
          exact ⟨ret_bool rfl, by ((try simp only [World.junk_junk, Array.append_assoc]); (repeat (first | with_reducible exact Junk.refl _ | with_reducible exact Junk.app _ _ _ _ _ | with_reducible exact Junk.app2 _ _ _ _ _ _ | with_reducible exact Junk.app3 _ _ _ _ _ _ _ | with_reducible exact Junk.app4 _ _ _ _ _ _ _ _ | with_reducible exact Junk.app5 _ _ _ _ _ _ _ _ _ | with_reducible apply Junk.alloc | with_reducible apply Junk.junk | with_reducible apply Junk.drew | with_reducible apply Junk.drewN)))⟩
  · obtain rfl : m = 60 := by omega
    clear hmin hm m2
    cases odd with
    | false =>
      go_enter Try.func5, Try.ntmps5
      go_wp2_with (first | (go_at_call 10; refine (awake16_any _).mono ?_; rintro e w' ⟨rfl, ⟨osj, dj, rfl⟩⟩))
      go_loopw [12, 13] (fun n i wr => ∃ k q : Nat, n = .int .i64 (k : Int) ∧ i = .int .i64 (q : Int) ∧ Junk w wr ∧ Hid (DrawInv (takenB a b xs 60) b (firstP a 70000) 70000 k q) ∧ a ≤ q ∧ q ≤ b + 1 ∧ k ≤ q) (fun _ i _ => b + 2 - (intOf i).toNat)
      case atStart => exact ⟨0, a, rfl, rfl, by ((try simp only [World.junk_junk, Array.append_assoc]); (repeat (first | with_reducible exact Junk.refl _ | with_reducible exact Junk.app _ _ _ _ _ | with_reducible exact Junk.app2 _ _ _ _ _ _ | with_reducible exact Junk.app3 _ _ _ _ _ _ _ | with_reducible exact Junk.app4 _ _ _ _ _ _ _ _ | with_reducible exact Junk.app5 _ _ _ _ _ _ _ _ _ | with_reducible apply Junk.alloc | with_reducible apply Junk.junk | with_reducible apply Junk.drew | with_reducible apply Junk.drewN))), Lib.hid (draw_start _ _ _ _), by omega, by omega, by omega⟩
      case round =>
        obtain ⟨k, q, rfl, rfl, ⟨os, d, rfl⟩, hI, hq1, hq2, hkq⟩ := hrel
        by_cases hle : q ≤ b
        · have hle2 : (q : Int) ≤ (b : Int) := by omega
          obtain ⟨par, hpar⟩ : ∃ par, par = ((q : Int) % 2 == 0) := ⟨_, rfl⟩
          have hp2 : ((q : Int) % 2 == 0) = par := hpar.symm
          have HPAR := Lib.hid hpar
          clear hpar
          go_wp2
          go_loopw [14, 15] (fun f i wr => ∃ j : Nat, f = .bool (freeK par xs q j) ∧ i = .int .i64 (j : Int) ∧ wr = w.junk os d ∧ j ≤ 60) (fun _ i _ => 60 + 1 - (intOf i).toNat)
          case atStart => exact ⟨0, by simp [freeK], rfl, by first | rfl | trivial, by omega⟩
          case round =>
            obtain ⟨j, rfl, rfl, rfl, hj⟩ := hrel
            by_cases hjm : j < 60
            · have hj2 : (j : Int) < (60 : Int) := by omega
              obtain ⟨bb, off, rfl, hblk, hc⟩ := HS.out j hjm
              have hk := freeK_succ par xs q j
              cases hf : freeK par xs q j with
              | false =>
                rw [hf] at hk
                go_wp2
                exact ⟨⟨j + 1, by rw [hk]; rfl, by go_num, by first | rfl | trivial, by omega⟩, by simp [intOf]; omega⟩
              | true =>
                rw [hf] at hk
                go_wp2
                exact ⟨⟨j + 1, by rw [hk]; simp, by go_num, by first | rfl | trivial, by omega⟩, by simp [intOf]; omega⟩
            · have hj2 : ¬ (j : Int) < (60 : Int) := by omega
              obtain rfl : j = 60 := by omega
              cases hf : freeK par xs q 60 with
              | false =>
                have HSK := Lib.hid (show DrawInv (takenB a b xs 60) b (firstP a 70000) 70000 k (q + 1) by
                  refine draw_skip hI.out hle ?_
                  rw [freeK_taken (a := a) (b := b) hq1 hle, HPAR.out] at hf
                  by_cases hp : (q : Int) % 2 = (70000 : Int) % 2
                  · right
                    have : ((q : Int) % 2 == 0) = true := by simp; omega
                    rw [this] at hf
                    simpa using hf
                  · exact .inl hp)
                clear hI
                go_wp2
                exact ⟨⟨k, q + 1, rfl, by go_num, by ((try simp only [World.junk_junk, Array.append_assoc]); (repeat (first | with_reducible exact Junk.refl _ | with_reducible exact Junk.app _ _ _ _ _ | with_reducible exact Junk.app2 _ _ _ _ _ _ | with_reducible exact Junk.app3 _ _ _ _ _ _ _ | with_reducible exact Junk.app4 _ _ _ _ _ _ _ _ | with_reducible exact Junk.app5 _ _ _ _ _ _ _ _ _ | with_reducible apply Junk.alloc | with_reducible apply Junk.junk | with_reducible apply Junk.drew | with_reducible apply Junk.drewN))), HSK, by omega, by omega, by omega⟩, by simp [intOf]; omega⟩
              | true =>
                have hbo : (q : Int) % 2 = (70000 : Int) % 2 ∧ takenB a b xs 60 q = false := by
                  rw [freeK_taken (a := a) (b := b) hq1 hle, HPAR.out] at hf
                  simp only [Bool.and_eq_true, beq_iff_eq, Bool.not_eq_true'] at hf
                  exact ⟨by omega, hf.2⟩
                obtain ⟨d1, d2, d3⟩ := draw_take hI.out hle hbo.1 hbo.2
                have HC := Lib.hid (draw_choose (l := 60) HR.out (by omega) d2 d3)
                have HD := Lib.hid d1
                clear hI d1 d2 d3 hbo
                go_wp2_with (first | (go_at_call 12; refine (choose_any (a : Int) (b : Int) _ 60 c xs 70000 k _ (by omega) (by omega) (HS.out.on (by ((try simp only [World.junk_junk, Array.append_assoc]); (repeat (first | with_reducible exact Junk.refl _ | with_reducible exact Junk.app _ _ _ _ _ | with_reducible exact Junk.app2 _ _ _ _ _ _ | with_reducible exact Junk.app3 _ _ _ _ _ _ _ | with_reducible exact Junk.app4 _ _ _ _ _ _ _ _ | with_reducible exact Junk.app5 _ _ _ _ _ _ _ _ _ | with_reducible apply Junk.alloc | with_reducible apply Junk.junk | with_reducible apply Junk.drew | with_reducible apply Junk.drewN)))))).mono ?_; rintro e w' ⟨rfl, ⟨osj2, dj2, rfl⟩⟩; rw [HC.out]))
                exact ⟨⟨k + 1, q + 1, by go_num, by go_num, by ((try simp only [World.junk_junk, Array.append_assoc]); (repeat (first | with_reducible exact Junk.refl _ | with_reducible exact Junk.app _ _ _ _ _ | with_reducible exact Junk.app2 _ _ _ _ _ _ | with_reducible exact Junk.app3 _ _ _ _ _ _ _ | with_reducible exact Junk.app4 _ _ _ _ _ _ _ _ | with_reducible exact Junk.app5 _ _ _ _ _ _ _ _ _ | with_reducible apply Junk.alloc | with_reducible apply Junk.junk | with_reducible apply Junk.drew | with_reducible apply Junk.drewN))), HD, by omega, by omega, by omega⟩, by simp [intOf]; omega⟩
        · have hle2 : ¬ (q : Int) ≤ (b : Int) := by omega
          go_wp2
          go_ret
          exact ⟨ret_bool rfl, by ((try simp only [World.junk_junk, Array.append_assoc]); (repeat (first | with_reducible exact Junk.refl _ | with_reducible exact Junk.app _ _ _ _ _ | with_reducible exact Junk.app2 _ _ _ _ _ _ | with_reducible exact Junk.app3 _ _ _ _ _ _ _ | with_reducible exact Junk.app4 _ _ _ _ _ _ _ _ | with_reducible exact Junk.app5 _ _ _ _ _ _ _ _ _ | with_reducible apply Junk.alloc | with_reducible apply Junk.junk | with_reducible apply Junk.drew | with_reducible apply Junk.drewN)))⟩
    | true =>
      go_enter Try.func5, Try.ntmps5
      go_wp2_with (first | (go_at_call 10; refine (awake16_any _).mono ?_; rintro e w' ⟨rfl, ⟨osj, dj, rfl⟩⟩))
      go_loopw [12, 13] (fun n i wr => ∃ k q : Nat, n = .int .i64 (k : Int) ∧ i = .int .i64 (q : Int) ∧ Junk w wr ∧ Hid (DrawInv (takenB a b xs 60) b (firstP a 70001) 70001 k q) ∧ a ≤ q ∧ q ≤ b + 1 ∧ k ≤ q) (fun _ i _ => b + 2 - (intOf i).toNat)
      case atStart => exact ⟨0, a, rfl, rfl, by ((try simp only [World.junk_junk, Array.append_assoc]); (repeat (first | with_reducible exact Junk.refl _ | with_reducible exact Junk.app _ _ _ _ _ | with_reducible exact Junk.app2 _ _ _ _ _ _ | with_reducible exact Junk.app3 _ _ _ _ _ _ _ | with_reducible exact Junk.app4 _ _ _ _ _ _ _ _ | with_reducible exact Junk.app5 _ _ _ _ _ _ _ _ _ | with_reducible apply Junk.alloc | with_reducible apply Junk.junk | with_reducible apply Junk.drew | with_reducible apply Junk.drewN))), Lib.hid (draw_start _ _ _ _), by omega, by omega, by omega⟩
      case round =>
        obtain ⟨k, q, rfl, rfl, ⟨os, d, rfl⟩, hI, hq1, hq2, hkq⟩ := hrel
        by_cases hle : q ≤ b
        · have hle2 : (q : Int) ≤ (b : Int) := by omega
          obtain ⟨par, hpar⟩ : ∃ par, par = ((q : Int) % 2 == 1) := ⟨_, rfl⟩
          have hp2 : ((q : Int) % 2 == 1) = par := hpar.symm
          have HPAR := Lib.hid hpar
          clear hpar
          go_wp2
          go_loopw [14, 15] (fun f i wr => ∃ j : Nat, f = .bool (freeK par xs q j) ∧ i = .int .i64 (j : Int) ∧ wr = w.junk os d ∧ j ≤ 60) (fun _ i _ => 60 + 1 - (intOf i).toNat)
          case atStart => exact ⟨0, by simp [freeK], rfl, by first | rfl | trivial, by omega⟩
          case round =>
            obtain ⟨j, rfl, rfl, rfl, hj⟩ := hrel
            by_cases hjm : j < 60
            · have hj2 : (j : Int) < (60 : Int) := by omega
              obtain ⟨bb, off, rfl, hblk, hc⟩ := HS.out j hjm
              have hk := freeK_succ par xs q j
              cases hf : freeK par xs q j with
              | false =>
                rw [hf] at hk
                go_wp2
                exact ⟨⟨j + 1, by rw [hk]; rfl, by go_num, by first | rfl | trivial, by omega⟩, by simp [intOf]; omega⟩
              | true =>
                rw [hf] at hk
                go_wp2
                exact ⟨⟨j + 1, by rw [hk]; simp, by go_num, by first | rfl | trivial, by omega⟩, by simp [intOf]; omega⟩
            · have hj2 : ¬ (j : Int) < (60 : Int) := by omega
              obtain rfl : j = 60 := by omega
              cases hf : freeK par xs q 60 with
              | false =>
                have HSK := Lib.hid (show DrawInv (takenB a b xs 60) b (firstP a 70001) 70001 k (q + 1) by
                  refine draw_skip hI.out hle ?_
                  rw [freeK_taken (a := a) (b := b) hq1 hle, HPAR.out] at hf
                  by_cases hp : (q : Int) % 2 = (70001 : Int) % 2
                  · right
                    have : ((q : Int) % 2 == 1) = true := by simp; omega
                    rw [this] at hf
                    simpa using hf
                  · exact .inl hp)
                clear hI
                go_wp2
                exact ⟨⟨k, q + 1, rfl, by go_num, by ((try simp only [World.junk_junk, Array.append_assoc]); (repeat (first | with_reducible exact Junk.refl _ | with_reducible exact Junk.app _ _ _ _ _ | with_reducible exact Junk.app2 _ _ _ _ _ _ | with_reducible exact Junk.app3 _ _ _ _ _ _ _ | with_reducible exact Junk.app4 _ _ _ _ _ _ _ _ | with_reducible exact Junk.app5 _ _ _ _ _ _ _ _ _ | with_reducible apply Junk.alloc | with_reducible apply Junk.junk | with_reducible apply Junk.drew | with_reducible apply Junk.drewN))), HSK, by omega, by omega, by omega⟩, by simp [intOf]; omega⟩
              | true =>
                have hbo : (q : Int) % 2 = (70001 : Int) % 2 ∧ takenB a b xs 60 q = false := by
                  rw [freeK_taken (a := a) (b := b) hq1 hle, HPAR.out] at hf
                  simp only [Bool.and_eq_true, beq_iff_eq, Bool.not_eq_true'] at hf
                  exact ⟨by omega, hf.2⟩
                obtain ⟨d1, d2, d3⟩ := draw_take hI.out hle hbo.1 hbo.2
                have HC := Lib.hid (draw_choose (l := 60) HR.out (by omega) d2 d3)
                have HD := Lib.hid d1
                clear hI d1 d2 d3 hbo
                go_wp2_with (first | (go_at_call 12; refine (choose_any (a : Int) (b : Int) _ 60 c xs 70001 k _ (by omega) (by omega) (HS.out.on (by ((try simp only [World.junk_junk, Array.append_assoc]); (repeat (first | with_reducible exact Junk.refl _ | with_reducible exact Junk.app _ _ _ _ _ | with_reducible exact Junk.app2 _ _ _ _ _ _ | with_reducible exact Junk.app3 _ _ _ _ _ _ _ | with_reducible exact Junk.app4 _ _ _ _ _ _ _ _ | with_reducible exact Junk.app5 _ _ _ _ _ _ _ _ _ | with_reducible apply Junk.alloc | with_reducible apply Junk.junk | with_reducible apply Junk.drew | with_reducible apply Junk.drewN)))))).mono ?_; rintro e w' ⟨rfl, ⟨osj2, dj2, rfl⟩⟩; rw [HC.out]))
                exact ⟨⟨k + 1, q + 1, by go_num, by go_num, by ((try simp only [World.junk_junk, Array.append_assoc]); (repeat (first | with_reducible exact Junk.refl _ | with_reducible exact Junk.app _ _ _ _ _ | with_reducible exact Junk.app2 _ _ _ _ _ _ | with_reducible exact Junk.app3 _ _ _ _ _ _ _ | with_reducible exact Junk.app4 _ _ _ _ _ _ _ _ | with_reducible exact Junk.app5 _ _ _ _ _ _ _ _ _ | with_reducible apply Junk.alloc | with_reducible apply Junk.junk | with_reducible apply Junk.drew | with_reducible apply Junk.drewN))), HD, by omega, by omega, by omega⟩, by simp [intOf]; omega⟩
        · have hle2 : ¬ (q : Int) ≤ (b : Int) := by omega
          go_wp2
          go_ret
          exact ⟨ret_bool rfl, by ((try simp only [World.junk_junk, Array.append_assoc]); (repeat (first | with_reducible exact Junk.refl _ | with_reducible exact Junk.app _ _ _ _ _ | with_reducible exact Junk.app2 _ _ _ _ _ _ | with_reducible exact Junk.app3 _ _ _ _ _ _ _ | with_reducible exact Junk.app4 _ _ _ _ _ _ _ _ | with_reducible exact Junk.app5 _ _ _ _ _ _ _ _ _ | with_reducible apply Junk.alloc | with_reducible apply Junk.junk | with_reducible apply Junk.drew | with_reducible apply Junk.drewN)))⟩

theorem poolDraws_core (W : World) (base : Nat) (v0 v1 v2 v3 : Value) (a0 : Arg Try.prog W base 32 v0) (a1 : Arg Try.prog W base 5 v1) (a2 : Arg Try.prog W base 22 v2) (a3 : Arg Try.prog W base 4 v3) :
    Calls Try.prog 5 #[v0, v1, v2, v3] W fun e W' => e = .returned (.bool true) ∧ Junk W W' := by
  obtain ⟨lo, rfl, w_lo⟩ := a0.int Try.underlying32
  obtain ⟨size, rfl, w_size⟩ := a1.int Try.underlying5
  have f_taken := a2.slice Try.underlying22
  obtain ⟨taken_a, taken_l, taken_c, taken, e_taken, lc_taken, cm_taken, S_taken, w_taken⟩ := f_taken.ints Try.underlying22 Try.underlying3 (by kernel_rfl); cases e_taken
  obtain ⟨odd, rfl⟩ := a3.bool Try.underlying4
  have hlm : maxLen = 9223372036854775807 := rfl
  exact draws_walk lo size taken_a taken_l taken_c taken odd (min taken_l 60) W (bounds_u16 w_lo) (bounds_u8 w_size) S_taken lc_taken (by omega) (by omega) (by omega) (by omega)
set_option maxRecDepth 100000 in
theorem poolDraws_lifted (os : Os) (started : os.Started) (H : Type) (enc : TypeId × Value → H) :
    ReturnsInHanded {} Try.checked os 5 .any (Rows.poolDrawsSpec.pre6 enc Try.prog Try.f5 Rows.poolDrawsRow.domain false) (Rows.poolDrawsSpec.post enc Try.prog Try.f5 false true false false) := by
  refine returnsInHanded_of_change (C := Try.checked) (by kernel_rfl) started (by kernel_rfl) Try.func5
    (ChangeSpec.witness6 (enc := enc) (C := Try.checked) false ⟨#[], #[.int .u16 0, .int .u8 0, .slice none 0 0, .bool false], []⟩ 8 (by kernel_rfl) (by kernel_rfl) (by kernel_rfl) (by kernel_rfl)) ?_
  intro W base args ds gs before hval hW _ _
  obtain ⟨p, q, hA, _, _, _, _⟩ := id hW
  have hargs : Args Try.prog W base Try.f5.params.toList args.toList := args_of (fun j t v h1 h2 => hval j t v (by simpa using h1) (by simpa using h2)) hA
  rw [Try.params5] at hargs
  obtain ⟨v0, l0, e0, a0, r0⟩ := args_cons hargs
  obtain ⟨v1, l1, e1, a1, r1⟩ := args_cons r0
  obtain ⟨v2, l2, e2, a2, r2⟩ := args_cons r1
  obtain ⟨v3, l3, e3, a3, r3⟩ := args_cons r2
  have hn := args_nil r3
  have he : args = #[v0, v1, v2, v3] := by
    apply Array.ext'
    simp only [e0, e1, e2, e3, hn]
  subst he
  exact (poolDraws_core W base v0 v1 v2 v3 a0 a1 a2 a3).mono fun e W' ⟨he, hj⟩ => ⟨_, he, post_true (tb := 4) (by kernel_rfl) (by kernel_rfl) rfl (by kernel_rfl) rfl hW (fun hg hl => by
    subst hg
    match ds, hl with
    | [_, _, _, _], _ => exact ⟨rfl, rfl, rfl⟩) hj⟩
theorem poolDraws_holds : Rows.PoolDrawsSaid :=
  OpenClaim.holds_of_wide 5 Try.f5 rfl rfl rfl rfl rfl rfl rfl ⟨rfl, rfl, rfl, rfl, rfl⟩ rfl rfl rfl rfl rfl (by kernel_rfl) Try.func5 (by kernel_rfl)
    (of_decide_eq_true (by kernel_rfl)) (by unfold Func.isWrapper; rw [if_neg (of_decide_eq_false (by kernel_rfl))]; exact ⟨rfl, rfl⟩)
    (fun os started H enc _ => poolDraws_lifted os started H enc)

end Go.Proofs.Ytambpmbgfjefcaa
