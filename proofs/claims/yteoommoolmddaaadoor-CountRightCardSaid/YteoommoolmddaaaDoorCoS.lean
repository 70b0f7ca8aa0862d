/- The reference's Same. -/
import Derived.Test.YteoommoolmddaaaDoorCoQ
import Derived.Test.YteoommoolmddaaaDoorCoC
import Derived.Laws.StructEq
set_option linter.unusedVariables false
set_option maxRecDepth 100000
set_option linter.unusedSimpArgs false
namespace Go.Proofs.YteoommoolmddaaaDoor
open Go.RowKit
theorem tl_guard : Tryd.prog.eqGuardType Tryd.prog.depth 28 = false := by kernel_rfl
theorem tl_equalIn (x y : Tl) (w : World) : (Op.equalIn 10000 28 x.val y.val).run Tryd.prog w = .ok (decide (x = y)) w := by
  have u3 := Tryd.underlying3
  have a3 := Tryd.isAgg3
  have z3 := Tryd.sizeOf3
  have u4 := Tryd.underlying22
  have a4 := Tryd.isAgg22
  have z4 := Tryd.sizeOf22
  have hS : Tryd.prog.underlying 28 = some (.struct (Tryd.prog.fieldsOf 28)) := by kernel_rfl
  have hp : Tryd.prog.stoodInHeld 28 = false := by kernel_rfl
  rw [show (10000 : Nat) = 9999 + 1 from rfl, run_equalIn_agg w 9999 28 _ _ hS hp]
  simp only [Program.fieldsOf, Tryd.underlying28]
  obtain ⟨xp, xi, xn, xo⟩ := x
  obtain ⟨yp, yi, yn, yo⟩ := y
  go_simp
  by_cases h1 : xp = yp <;> by_cases h2 : xi = yi <;> by_cases h3 : xn = yn <;> by_cases h4 : xo = yo <;> simp [h1, h2, h3, h4]
theorem tl_eql (x y : Tl) (w : World) : (binOp .eql 28 x.val y.val).run Tryd.prog w = .ok (.bool (decide (x = y))) w := by
  rw [run_eql_struct, tl_equalIn]; rfl
theorem tl_neq (x y : Tl) (w : World) : (binOp .neq 28 x.val y.val).run Tryd.prog w = .ok (.bool (!decide (x = y))) w := by
  rw [run_neq_struct, tl_equalIn]; rfl
set_option maxHeartbeats 1000000 in
theorem rsame_any (oa ob : Option Addr) (l c m d : Nat) (L M : List Tl) (w : World) (hl : l ≤ 1000000) (hm : m ≤ 1000000) (hL : L.length = l) (hM : M.length = m) (hS : TsAt w oa L) (hT : TsAt w ob M) :
    Calls Tryd.prog 14 #[.slice oa l c, .slice ob m d] w fun e w' => e = .returned (.bool (decide (L = M))) ∧ Junk w w' := by
  have HS := Lib.hid hS
  have HT := Lib.hid hT
  have HL := Lib.hid hL
  have HM := Lib.hid hM
  clear hS hT hL hM
  obtain ⟨R, hR⟩ : ∃ R, R = decide (L = M) := ⟨_, rfl⟩
  rw [← hR]
  have HR := Lib.hid hR
  clear hR
  by_cases hlm : l = m
  case neg =>
    have HE := Lib.hid (show R = false by rw [HR.out]; simp; intro h; apply hlm; rw [← HL.out, ← HM.out, h])
    have hne : ((l : Int) == (m : Int)) = false := by simp; omega
    go_enter Tryd.func14, Tryd.ntmps14
    go_wp2
    go_ret
    exact ⟨by rw [HE.out]; rfl, by (first | ((repeat (first | with_reducible exact Junk.refl _ | with_reducible exact Junk.app _ _ _ _ _ | with_reducible apply Junk.alloc | with_reducible apply Junk.junk | with_reducible apply Junk.drew | with_reducible apply Junk.drewN)); done) | ((try simp only [World.junk_junk, Array.append_assoc]); (repeat (first | with_reducible exact Junk.refl _ | with_reducible exact Junk.app _ _ _ _ _ | with_reducible exact Junk.app2 _ _ _ _ _ _ | with_reducible exact Junk.app3 _ _ _ _ _ _ _ | with_reducible exact Junk.app4 _ _ _ _ _ _ _ _ | with_reducible exact Junk.app5 _ _ _ _ _ _ _ _ _ | with_reducible apply Junk.alloc | with_reducible apply Junk.junk | with_reducible apply Junk.drew | with_reducible apply Junk.drewN))))⟩
  subst hlm
  go_enter Tryd.func14, Tryd.ntmps14
  go_wp2
  go_loopw [5] (fun i wr => ∃ k : Nat, i = .int .i64 (k : Int) ∧ Junk w wr ∧ k ≤ l ∧ Hid (L.take k = M.take k)) (fun i _ => l + 1 - (intOf i).toNat)
  case atStart => exact ⟨0, rfl, by (first | ((repeat (first | with_reducible exact Junk.refl _ | with_reducible exact Junk.app _ _ _ _ _ | with_reducible apply Junk.alloc | with_reducible apply Junk.junk | with_reducible apply Junk.drew | with_reducible apply Junk.drewN)); done) | ((try simp only [World.junk_junk, Array.append_assoc]); (repeat (first | with_reducible exact Junk.refl _ | with_reducible exact Junk.app _ _ _ _ _ | with_reducible exact Junk.app2 _ _ _ _ _ _ | with_reducible exact Junk.app3 _ _ _ _ _ _ _ | with_reducible exact Junk.app4 _ _ _ _ _ _ _ _ | with_reducible exact Junk.app5 _ _ _ _ _ _ _ _ _ | with_reducible apply Junk.alloc | with_reducible apply Junk.junk | with_reducible apply Junk.drew | with_reducible apply Junk.drewN)))), by omega, Lib.hid rfl⟩
  case round =>
    obtain ⟨k, rfl, ⟨os, dd, rfl⟩, hk, hI⟩ := hrel
    by_cases hkl : k < l
    · have hk2 : (k : Int) < (l : Int) := by omega
      obtain ⟨x, hx⟩ : ∃ x, L[k]? = some x := ⟨_, List.getElem?_eq_getElem (by rw [HL.out]; exact hkl)⟩
      obtain ⟨y, hy⟩ : ∃ y, M[k]? = some y := ⟨_, List.getElem?_eq_getElem (by rw [HM.out]; exact hkl)⟩
      obtain ⟨b, off, rfl, hb, c0, c1, c2, c3⟩ := HS.out k x hx
      obtain ⟨b2, off2, rfl, hb2, e0, e1, e2, e3⟩ := HT.out k y hy
      have HX := Lib.hid hx
      have HY := Lib.hid hy
      clear hx hy
      have hg := tl_guard
      by_cases hxy : x = y
      · have HI2 := Lib.hid (show L.take (k + 1) = M.take (k + 1) by rw [take_one HX.out, take_one HY.out, hI.out, hxy])
        have hq : ∀ w, (binOp .neq 28 (.agg #[.int .i64 x.zone, .int .i64 x.ver, .int .i64 x.n, .int .i64 x.b]) (.agg #[.int .i64 y.zone, .int .i64 y.ver, .int .i64 y.n, .int .i64 y.b])).run Tryd.prog w = .ok (.bool false) w := fun w => by have := tl_neq x y w; rw [decide_eq_true hxy] at this; exact this
        clear hxy
        go_wp2
        refine wp_region_junk (by kernel_rfl) (by kernel_rfl) ?_; (repeat (go_big_quiet_step (first | fail))); refine wpQuiet_nil ?_; rintro _ ⟨⟨osq, dq⟩, rfl⟩
        go_wp2
        exact ⟨⟨k + 1, by go_num, by (first | ((repeat (first | with_reducible exact Junk.refl _ | with_reducible exact Junk.app _ _ _ _ _ | with_reducible apply Junk.alloc | with_reducible apply Junk.junk | with_reducible apply Junk.drew | with_reducible apply Junk.drewN)); done) | ((try simp only [World.junk_junk, Array.append_assoc]); (repeat (first | with_reducible exact Junk.refl _ | with_reducible exact Junk.app _ _ _ _ _ | with_reducible exact Junk.app2 _ _ _ _ _ _ | with_reducible exact Junk.app3 _ _ _ _ _ _ _ | with_reducible exact Junk.app4 _ _ _ _ _ _ _ _ | with_reducible exact Junk.app5 _ _ _ _ _ _ _ _ _ | with_reducible apply Junk.alloc | with_reducible apply Junk.junk | with_reducible apply Junk.drew | with_reducible apply Junk.drewN)))), by omega, HI2⟩, by simp [intOf]; omega⟩
      · have HE := Lib.hid (show R = false by rw [HR.out]; simp only [decide_eq_false_iff_not]; intro h; apply hxy; have h1 := HX.out; rw [h, HY.out] at h1; simpa using h1.symm)
        have hq : ∀ w, (binOp .neq 28 (.agg #[.int .i64 x.zone, .int .i64 x.ver, .int .i64 x.n, .int .i64 x.b]) (.agg #[.int .i64 y.zone, .int .i64 y.ver, .int .i64 y.n, .int .i64 y.b])).run Tryd.prog w = .ok (.bool true) w := fun w => by have := tl_neq x y w; rw [decide_eq_false hxy] at this; exact this
        clear hxy
        go_wp2
        refine wp_region_junk (by kernel_rfl) (by kernel_rfl) ?_; (repeat (go_big_quiet_step (first | fail))); refine wpQuiet_nil ?_; rintro _ ⟨⟨osq, dq⟩, rfl⟩
        go_wp2
        go_ret
        exact ⟨by rw [HE.out]; rfl, by (first | ((repeat (first | with_reducible exact Junk.refl _ | with_reducible exact Junk.app _ _ _ _ _ | with_reducible apply Junk.alloc | with_reducible apply Junk.junk | with_reducible apply Junk.drew | with_reducible apply Junk.drewN)); done) | ((try simp only [World.junk_junk, Array.append_assoc]); (repeat (first | with_reducible exact Junk.refl _ | with_reducible exact Junk.app _ _ _ _ _ | with_reducible exact Junk.app2 _ _ _ _ _ _ | with_reducible exact Junk.app3 _ _ _ _ _ _ _ | with_reducible exact Junk.app4 _ _ _ _ _ _ _ _ | with_reducible exact Junk.app5 _ _ _ _ _ _ _ _ _ | with_reducible apply Junk.alloc | with_reducible apply Junk.junk | with_reducible apply Junk.drew | with_reducible apply Junk.drewN))))⟩
    · have hk2 : ¬ (k : Int) < (l : Int) := by omega
      obtain rfl : k = l := by omega
      have HE := Lib.hid (show R = true by rw [HR.out]; have := hI.out; rw [← HL.out, List.take_length, HL.out, ← HM.out, List.take_length] at this; simp [this])
      go_wp2
      go_ret
      exact ⟨by rw [HE.out]; rfl, by (first | ((repeat (first | with_reducible exact Junk.refl _ | with_reducible exact Junk.app _ _ _ _ _ | with_reducible apply Junk.alloc | with_reducible apply Junk.junk | with_reducible apply Junk.drew | with_reducible apply Junk.drewN)); done) | ((try simp only [World.junk_junk, Array.append_assoc]); (repeat (first | with_reducible exact Junk.refl _ | with_reducible exact Junk.app _ _ _ _ _ | with_reducible exact Junk.app2 _ _ _ _ _ _ | with_reducible exact Junk.app3 _ _ _ _ _ _ _ | with_reducible exact Junk.app4 _ _ _ _ _ _ _ _ | with_reducible exact Junk.app5 _ _ _ _ _ _ _ _ _ | with_reducible apply Junk.alloc | with_reducible apply Junk.junk | with_reducible apply Junk.drew | with_reducible apply Junk.drewN))))⟩
end Go.Proofs.YteoommoolmddaaaDoor
