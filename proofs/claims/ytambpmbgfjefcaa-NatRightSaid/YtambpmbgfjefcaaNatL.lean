/- The reference of layer 17. -/
import Derived.Test.YtambpmbgfjefcaaNatK
import Derived.Laws.StructEq
set_option linter.unusedVariables false
set_option maxRecDepth 100000
set_option linter.unusedSimpArgs false
namespace Go.Proofs.Ytambpmbgfjefcaa
open Go.RowKit
theorem and_le {a b : Prop} [Decidable a] [Decidable b] : decide (a ∧ b) = (decide a && decide b) := by simp
theorem rgood_any (x : Ln) (w : World) : Calls Try.prog 41 #[x.val] w fun e w' => e = .returned (.bool (namedB x)) ∧ Junk w w' := by
  obtain ⟨xp, xi, xn, xo, xt⟩ := x
  by_cases h1 : 0 ≤ xp
  case neg =>
    go_enter Try.func41, Try.ntmps41
    go_wp2
    go_ret
    exact ⟨ret_bool (by simp [namedB, withinB]; omega), by (repeat (first | with_reducible exact Junk.refl _ | with_reducible exact Junk.app _ _ _ _ _ | with_reducible apply Junk.alloc | with_reducible apply Junk.junk | with_reducible apply Junk.drew | with_reducible apply Junk.drewN))⟩
  by_cases h2 : xp ≤ 255
  case neg =>
    have h2' : ¬ xp < 256 := by omega
    go_enter Try.func41, Try.ntmps41
    go_wp2
    go_ret
    exact ⟨ret_bool (by simp [namedB, withinB]; omega), by (repeat (first | with_reducible exact Junk.refl _ | with_reducible exact Junk.app _ _ _ _ _ | with_reducible apply Junk.alloc | with_reducible apply Junk.junk | with_reducible apply Junk.drew | with_reducible apply Junk.drewN))⟩
  have h2' : xp < 256 := by omega
  by_cases h3 : 0 ≤ xn
  case neg =>
    go_enter Try.func41, Try.ntmps41
    go_wp2
    go_ret
    exact ⟨ret_bool (by simp [namedB, withinB]; omega), by (repeat (first | with_reducible exact Junk.refl _ | with_reducible exact Junk.app _ _ _ _ _ | with_reducible apply Junk.alloc | with_reducible apply Junk.junk | with_reducible apply Junk.drew | with_reducible apply Junk.drewN))⟩
  by_cases h4 : xn ≤ 65535
  case neg =>
    have h4' : ¬ xn < 65536 := by omega
    go_enter Try.func41, Try.ntmps41
    go_wp2
    go_ret
    exact ⟨ret_bool (by simp [namedB, withinB]; omega), by (repeat (first | with_reducible exact Junk.refl _ | with_reducible exact Junk.app _ _ _ _ _ | with_reducible apply Junk.alloc | with_reducible apply Junk.junk | with_reducible apply Junk.drew | with_reducible apply Junk.drewN))⟩
  have h4' : xn < 65536 := by omega
  by_cases h5 : 0 ≤ xt
  case neg =>
    go_enter Try.func41, Try.ntmps41
    go_wp2
    go_ret
    exact ⟨ret_bool (by simp [namedB, withinB]; omega), by (repeat (first | with_reducible exact Junk.refl _ | with_reducible exact Junk.app _ _ _ _ _ | with_reducible apply Junk.alloc | with_reducible apply Junk.junk | with_reducible apply Junk.drew | with_reducible apply Junk.drewN))⟩
  go_enter Try.func41, Try.ntmps41
  go_wp2
  go_ret
  exact ⟨ret_bool (by simp [namedB, withinB, h1, h2, h3, h4, h5]), by (repeat (first | with_reducible exact Junk.refl _ | with_reducible exact Junk.app _ _ _ _ _ | with_reducible apply Junk.alloc | with_reducible apply Junk.junk | with_reducible apply Junk.drew | with_reducible apply Junk.drewN))⟩
theorem ln_guard : Try.prog.eqGuardType Try.prog.depth 39 = false := by kernel_rfl
theorem ln_equalIn (x y : Ln) (w : World) : (Op.equalIn 10000 39 x.val y.val).run Try.prog w = .ok (decide (x = y)) w := by
  have u3 := Try.underlying3
  have a3 := Try.isAgg3
  have z3 := Try.sizeOf3
  have u4 := Try.underlying23
  have a4 := Try.isAgg23
  have z4 := Try.sizeOf23
  have hS : Try.prog.underlying 39 = some (.struct (Try.prog.fieldsOf 39)) := by kernel_rfl
  have hp : Try.prog.stoodInHeld 39 = false := by kernel_rfl
  rw [show (10000 : Nat) = 9999 + 1 from rfl, run_equalIn_agg w 9999 39 _ _ hS hp]
  simp only [Program.fieldsOf, Try.underlying39]
  obtain ⟨xp, xi, xn, xo, xt⟩ := x
  obtain ⟨yp, yi, yn, yo, yt⟩ := y
  go_simp
  by_cases h1 : xp = yp <;> by_cases h2 : xi = yi <;> by_cases h3 : xn = yn <;> by_cases h4 : xo = yo <;> by_cases h5 : xt = yt <;> simp [h1, h2, h3, h4, h5]
theorem ln_eql (x y : Ln) (w : World) : (binOp .eql 39 x.val y.val).run Try.prog w = .ok (.bool (decide (x = y))) w := by
  rw [run_eql_struct, ln_equalIn]; rfl
theorem ln_neq (x y : Ln) (w : World) : (binOp .neq 39 x.val y.val).run Try.prog w = .ok (.bool (!decide (x = y))) w := by
  rw [run_neq_struct, ln_equalIn]; rfl
set_option maxHeartbeats 1000000 in
theorem rsameL_any (oa ob : Option Addr) (l c m d : Nat) (L M : List Ln) (w : World) (hl : l ≤ 1000000) (hm : m ≤ 1000000) (hL : L.length = l) (hM : M.length = m) (hS : LsAt w oa L) (hT : LsAt w ob M) :
    Calls Try.prog 23 #[.slice oa l c, .slice ob m d] w fun e w' => e = .returned (.bool (decide (L = M))) ∧ Junk w w' := by
  have HS := Lib.hid hS
  have HT := Lib.hid hT
  have HL := Lib.hid hL
  have HM := Lib.hid hM
  clear hS hT hL hM
  obtain ⟨R, hR⟩ : ∃ R, R = decide (L = M) := ⟨_, rfl⟩
  rw [← hR]
  have HR := Lib.hid hR
  clear hR
  by_cases hlm : l = m
  case neg =>
    have HE := Lib.hid (show R = false by rw [HR.out]; simp; intro h; apply hlm; rw [← HL.out, ← HM.out, h])
    have hne : ((l : Int) == (m : Int)) = false := by simp; omega
    go_enter Try.func23, Try.ntmps23
    go_wp2
    go_ret
    exact ⟨by rw [HE.out]; rfl, by ((try simp only [World.junk_junk, Array.append_assoc]); (repeat (first | with_reducible exact Junk.refl _ | with_reducible exact Junk.app _ _ _ _ _ | with_reducible exact Junk.app2 _ _ _ _ _ _ | with_reducible exact Junk.app3 _ _ _ _ _ _ _ | with_reducible exact Junk.app4 _ _ _ _ _ _ _ _ | with_reducible exact Junk.app5 _ _ _ _ _ _ _ _ _ | with_reducible apply Junk.alloc | with_reducible apply Junk.junk | with_reducible apply Junk.drew | with_reducible apply Junk.drewN)))⟩
  subst hlm
  go_enter Try.func23, Try.ntmps23
  go_wp2
  go_loopw [5] (fun i wr => ∃ k : Nat, i = .int .i64 (k : Int) ∧ Junk w wr ∧ k ≤ l ∧ Hid (L.take k = M.take k)) (fun i _ => l + 1 - (intOf i).toNat)
  case atStart => exact ⟨0, rfl, by ((try simp only [World.junk_junk, Array.append_assoc]); (repeat (first | with_reducible exact Junk.refl _ | with_reducible exact Junk.app _ _ _ _ _ | with_reducible exact Junk.app2 _ _ _ _ _ _ | with_reducible exact Junk.app3 _ _ _ _ _ _ _ | with_reducible exact Junk.app4 _ _ _ _ _ _ _ _ | with_reducible exact Junk.app5 _ _ _ _ _ _ _ _ _ | with_reducible apply Junk.alloc | with_reducible apply Junk.junk | with_reducible apply Junk.drew | with_reducible apply Junk.drewN))), by omega, Lib.hid rfl⟩
  case round =>
    obtain ⟨k, rfl, ⟨os, dd, rfl⟩, hk, hI⟩ := hrel
    by_cases hkl : k < l
    · have hk2 : (k : Int) < (l : Int) := by omega
      obtain ⟨x, hx⟩ : ∃ x, L[k]? = some x := ⟨_, List.getElem?_eq_getElem (by rw [HL.out]; exact hkl)⟩
      obtain ⟨y, hy⟩ : ∃ y, M[k]? = some y := ⟨_, List.getElem?_eq_getElem (by rw [HM.out]; exact hkl)⟩
      obtain ⟨b, off, rfl, hb, c0, c1, c2, c3, c4⟩ := HS.out k x hx
      obtain ⟨b2, off2, rfl, hb2, e0, e1, e2, e3, e4⟩ := HT.out k y hy
      have HX := Lib.hid hx
      have HY := Lib.hid hy
      clear hx hy
      have hg := ln_guard
      by_cases hxy : x = y
      · have HI2 := Lib.hid (show L.take (k + 1) = M.take (k + 1) by rw [take_succ' HX.out, take_succ' HY.out, hI.out, hxy])
        have hq : ∀ w, (binOp .neq 39 (.agg #[.int .i64 x.proto, .int .u32 x.inn, .int .i64 x.inport, .int .i64 x.port, .int .i64 x.till]) (.agg #[.int .i64 y.proto, .int .u32 y.inn, .int .i64 y.inport, .int .i64 y.port, .int .i64 y.till])).run Try.prog w = .ok (.bool false) w := fun w => by have := ln_neq x y w; rw [decide_eq_true hxy] at this; exact this
        clear hxy
        go_wp2
        refine wp_region_junk (by kernel_rfl) (by kernel_rfl) ?_; (repeat (refine wpQuiet_step (fun K hK => ?_); (go_simp; try go_bits); first | (refine hK _ ?_; clear hK K) | (apply Exists.intro; refine ⟨fun _ => ?_, hK _ ?_⟩; (first | fail); clear hK K))); refine wpQuiet_nil ?_; rintro _ ⟨⟨osq, dq⟩, rfl⟩
        go_wp2
        exact ⟨⟨k + 1, by go_num, by ((try simp only [World.junk_junk, Array.append_assoc]); (repeat (first | with_reducible exact Junk.refl _ | with_reducible exact Junk.app _ _ _ _ _ | with_reducible exact Junk.app2 _ _ _ _ _ _ | with_reducible exact Junk.app3 _ _ _ _ _ _ _ | with_reducible exact Junk.app4 _ _ _ _ _ _ _ _ | with_reducible exact Junk.app5 _ _ _ _ _ _ _ _ _ | with_reducible apply Junk.alloc | with_reducible apply Junk.junk | with_reducible apply Junk.drew | with_reducible apply Junk.drewN))), by omega, HI2⟩, by simp [intOf]; omega⟩
      · have HE := Lib.hid (show R = false by rw [HR.out]; simp only [decide_eq_false_iff_not]; intro h; apply hxy; have h1 := HX.out; rw [h, HY.out] at h1; simpa using h1.symm)
        have hq : ∀ w, (binOp .neq 39 (.agg #[.int .i64 x.proto, .int .u32 x.inn, .int .i64 x.inport, .int .i64 x.port, .int .i64 x.till]) (.agg #[.int .i64 y.proto, .int .u32 y.inn, .int .i64 y.inport, .int .i64 y.port, .int .i64 y.till])).run Try.prog w = .ok (.bool true) w := fun w => by have := ln_neq x y w; rw [decide_eq_false hxy] at this; exact this
        clear hxy
        go_wp2
        refine wp_region_junk (by kernel_rfl) (by kernel_rfl) ?_; (repeat (refine wpQuiet_step (fun K hK => ?_); (go_simp; try go_bits); first | (refine hK _ ?_; clear hK K) | (apply Exists.intro; refine ⟨fun _ => ?_, hK _ ?_⟩; (first | fail); clear hK K))); refine wpQuiet_nil ?_; rintro _ ⟨⟨osq, dq⟩, rfl⟩
        go_wp2
        go_ret
        exact ⟨by rw [HE.out]; rfl, by ((try simp only [World.junk_junk, Array.append_assoc]); (repeat (first | with_reducible exact Junk.refl _ | with_reducible exact Junk.app _ _ _ _ _ | with_reducible exact Junk.app2 _ _ _ _ _ _ | with_reducible exact Junk.app3 _ _ _ _ _ _ _ | with_reducible exact Junk.app4 _ _ _ _ _ _ _ _ | with_reducible exact Junk.app5 _ _ _ _ _ _ _ _ _ | with_reducible apply Junk.alloc | with_reducible apply Junk.junk | with_reducible apply Junk.drew | with_reducible apply Junk.drewN)))⟩
    · have hk2 : ¬ (k : Int) < (l : Int) := by omega
      obtain rfl : k = l := by omega
      have HE := Lib.hid (show R = true by rw [HR.out]; have := hI.out; rw [← HL.out, List.take_length, HL.out, ← HM.out, List.take_length] at this; simp [this])
      go_wp2
      go_ret
      exact ⟨by rw [HE.out]; rfl, by ((try simp only [World.junk_junk, Array.append_assoc]); (repeat (first | with_reducible exact Junk.refl _ | with_reducible exact Junk.app _ _ _ _ _ | with_reducible exact Junk.app2 _ _ _ _ _ _ | with_reducible exact Junk.app3 _ _ _ _ _ _ _ | with_reducible exact Junk.app4 _ _ _ _ _ _ _ _ | with_reducible exact Junk.app5 _ _ _ _ _ _ _ _ _ | with_reducible apply Junk.alloc | with_reducible apply Junk.junk | with_reducible apply Junk.drew | with_reducible apply Junk.drewN)))⟩
end Go.Proofs.Ytambpmbgfjefcaa
