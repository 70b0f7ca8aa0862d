/- slices.Equal over routes, rules, forwards. -/
import Derived.Test.YtcnhlbkdhhjmiaaGreatDoorCfZ0
import Derived.Laws.StructEq
set_option linter.unusedVariables false
set_option maxRecDepth 100000
set_option linter.unusedSimpArgs false
namespace Go.Proofs.YtcnhlbkdhhjmiaaGreatDoor
open Go.RowKit
variable {L L' : Nat → Prop} {w w' w'' : World}
theorem take_suc {α : Type} {l : List α} {k : Nat} {x : α} (h : l[k]? = some x) : l.take (k + 1) = l.take k ++ [x] := by rw [List.take_add_one, h]; rfl
theorem ro_guard : Tryz.prog.eqGuardType Tryz.prog.depth 49 = false := by kernel_rfl
theorem ro_equalIn (x y : Ro) (w : World) : (Op.equalIn 10000 49 (.agg #[.int .u32 x.net, .int .i64 x.bits, .int .i64 x.zone, .int .i64 x.mtu]) (.agg #[.int .u32 y.net, .int .i64 y.bits, .int .i64 y.zone, .int .i64 y.mtu])).run Tryz.prog w = .ok (decide (x = y)) w := by
  have u3 := Tryz.underlying3
  have a3 := Tryz.isAgg3
  have z3 := Tryz.sizeOf3
  have u4 := Tryz.underlying24
  have a4 := Tryz.isAgg24
  have z4 := Tryz.sizeOf24
  have u5 := Tryz.underlying4
  have a5 := Tryz.isAgg4
  have z5 := Tryz.sizeOf4
  have hS : Tryz.prog.underlying 49 = some (.struct (Tryz.prog.fieldsOf 49)) := by kernel_rfl
  have hp : Tryz.prog.stoodInHeld 49 = false := by kernel_rfl
  rw [show (10000 : Nat) = 9999 + 1 from rfl, run_equalIn_agg w 9999 49 _ _ hS hp]
  simp only [Program.fieldsOf, Tryz.underlying49]
  obtain ⟨x0, x1, x2, x3⟩ := x
  obtain ⟨y0, y1, y2, y3⟩ := y
  go_simp
  by_cases h0 : x0 = y0
  case neg => simp [h0, show ¬ ((x0 : Nat) : Int) = ((y0 : Nat) : Int) by omega]
  by_cases h1 : x1 = y1
  case neg => simp [h0, h1]
  by_cases h2 : x2 = y2
  case neg => simp [h0, h1, h2]
  by_cases h3 : x3 = y3
  case neg => simp [h0, h1, h2, h3]
  simp [h0, h1, h2, h3]
theorem ro_neq (x y : Ro) (w : World) : (binOp .neq 49 (.agg #[.int .u32 x.net, .int .i64 x.bits, .int .i64 x.zone, .int .i64 x.mtu]) (.agg #[.int .u32 y.net, .int .i64 y.bits, .int .i64 y.zone, .int .i64 y.mtu])).run Tryz.prog w = .ok (.bool (!decide (x = y))) w := by
  rw [run_neq_struct, ro_equalIn]; rfl
set_option maxHeartbeats 1000000 in
theorem ro_equal (oa ob : Option Addr) (l c m d : Nat) (L M : List Ro) (w : World) (hl : l ≤ 1000000) (hm : m ≤ 1000000) (hL : L.length = l) (hM : M.length = m) (hS : RosAt w oa L) (hT : RosAt w ob M) :
    Calls Tryz.prog 21 #[.slice oa l c, .slice ob m d] w fun e w' => e = .returned (.bool (decide (L = M))) ∧ Junk w w' := by
  have HS := Lib.hid hS
  have HT := Lib.hid hT
  have HL := Lib.hid hL
  have HM := Lib.hid hM
  clear hS hT hL hM
  obtain ⟨R, hR⟩ : ∃ R, R = decide (L = M) := ⟨_, rfl⟩
  rw [← hR]
  have HR := Lib.hid hR
  clear hR
  by_cases hlm : l = m
  case neg =>
    have HE := Lib.hid (show R = false by rw [HR.out]; simp; intro h; apply hlm; rw [← HL.out, ← HM.out, h])
    have hne : ((l : Int) == (m : Int)) = false := by simp; omega
    go_enter Tryz.func21, Tryz.ntmps21
    go_wp2
    go_ret
    exact ⟨by rw [HE.out]; rfl, by (exact jkc)⟩
  subst hlm
  go_enter Tryz.func21, Tryz.ntmps21
  go_wp2
  go_loopw [5, 13] (fun _ i wr => ∃ k : Nat, i = .int .i64 (k : Int) ∧ Junk w wr ∧ k ≤ l ∧ Hid (L.take k = M.take k)) (fun _ i _ => l + 1 - (intOf i).toNat)
  case atStart => exact ⟨0, rfl, by (exact jkc), by omega, Lib.hid rfl⟩
  case round =>
    obtain ⟨k, rfl, ⟨os, dd, rfl⟩, hk, hI⟩ := hrel
    by_cases hkl : k < l
    · have hk2 : (k : Int) < (l : Int) := by omega
      obtain ⟨x, hx⟩ : ∃ x, L[k]? = some x := ⟨_, List.getElem?_eq_getElem (by rw [HL.out]; exact hkl)⟩
      obtain ⟨y, hy⟩ : ∃ y, M[k]? = some y := ⟨_, List.getElem?_eq_getElem (by rw [HM.out]; exact hkl)⟩
      obtain ⟨b, off, rfl, hb, c0, c1, c2, c3⟩ := HS.out k x hx
      obtain ⟨b2, off2, rfl, hb2, e0, e1, e2, e3⟩ := HT.out k y hy
      have HX := Lib.hid hx
      have HY := Lib.hid hy
      clear hx hy
      have hg := ro_guard
      by_cases hxy : x = y
      · have HI2 := Lib.hid (show L.take (k + 1) = M.take (k + 1) by rw [take_suc HX.out, take_suc HY.out, hI.out, hxy])
        have hq : ∀ w, (binOp .neq 49 (.agg #[.int .u32 x.net, .int .i64 x.bits, .int .i64 x.zone, .int .i64 x.mtu]) (.agg #[.int .u32 y.net, .int .i64 y.bits, .int .i64 y.zone, .int .i64 y.mtu])).run Tryz.prog w = .ok (.bool false) w := fun w => by have := ro_neq x y w; rw [decide_eq_true hxy] at this; exact this
        clear hxy
        go_wp2
        refine wp_region_junk (by kernel_rfl) (by kernel_rfl) ?_; (repeat (go_big_quiet_step (first | fail))); refine wpQuiet_nil ?_; rintro _ ⟨⟨osq, dq⟩, rfl⟩
        go_wp2
        exact ⟨⟨k + 1, by go_num, by (exact jkc), by omega, HI2⟩, by simp [intOf]; omega⟩
      · have HE := Lib.hid (show R = false by rw [HR.out]; simp only [decide_eq_false_iff_not]; intro h; apply hxy; have h1 := HX.out; rw [h, HY.out] at h1; simpa using h1.symm)
        have hq : ∀ w, (binOp .neq 49 (.agg #[.int .u32 x.net, .int .i64 x.bits, .int .i64 x.zone, .int .i64 x.mtu]) (.agg #[.int .u32 y.net, .int .i64 y.bits, .int .i64 y.zone, .int .i64 y.mtu])).run Tryz.prog w = .ok (.bool true) w := fun w => by have := ro_neq x y w; rw [decide_eq_false hxy] at this; exact this
        clear hxy
        go_wp2
        refine wp_region_junk (by kernel_rfl) (by kernel_rfl) ?_; (repeat (go_big_quiet_step (first | fail))); refine wpQuiet_nil ?_; rintro _ ⟨⟨osq, dq⟩, rfl⟩
        go_wp2
        go_ret
        exact ⟨by rw [HE.out]; rfl, by (exact jkc)⟩
    · have hk2 : ¬ (k : Int) < (l : Int) := by omega
      obtain rfl : k = l := by omega
      have HE := Lib.hid (show R = true by rw [HR.out]; have := hI.out; rw [← HL.out, List.take_length, HL.out, ← HM.out, List.take_length] at this; simp [this])
      go_wp2
      go_ret
      exact ⟨by rw [HE.out]; rfl, by (exact jkc)⟩
theorem ru_guard : Tryz.prog.eqGuardType Tryz.prog.depth 54 = false := by kernel_rfl
theorem ru_equalIn (x y : Ru) (w : World) : (Op.equalIn 10000 54 (.agg #[.int .i64 x.fr, .int .i64 x.tt, .int .i64 x.proto, .int .u32 x.src, .int .u32 x.dst, .int .i64 x.srcBits, .int .i64 x.dstBits, .int .i64 x.lo, .int .i64 x.hi, .int .i64 x.action]) (.agg #[.int .i64 y.fr, .int .i64 y.tt, .int .i64 y.proto, .int .u32 y.src, .int .u32 y.dst, .int .i64 y.srcBits, .int .i64 y.dstBits, .int .i64 y.lo, .int .i64 y.hi, .int .i64 y.action])).run Tryz.prog w = .ok (decide (x = y)) w := by
  have u3 := Tryz.underlying3
  have a3 := Tryz.isAgg3
  have z3 := Tryz.sizeOf3
  have u4 := Tryz.underlying24
  have a4 := Tryz.isAgg24
  have z4 := Tryz.sizeOf24
  have u5 := Tryz.underlying4
  have a5 := Tryz.isAgg4
  have z5 := Tryz.sizeOf4
  have hS : Tryz.prog.underlying 54 = some (.struct (Tryz.prog.fieldsOf 54)) := by kernel_rfl
  have hp : Tryz.prog.stoodInHeld 54 = false := by kernel_rfl
  rw [show (10000 : Nat) = 9999 + 1 from rfl, run_equalIn_agg w 9999 54 _ _ hS hp]
  simp only [Program.fieldsOf, Tryz.underlying54]
  obtain ⟨x0, x1, x2, x3, x4, x5, x6, x7, x8, x9⟩ := x
  obtain ⟨y0, y1, y2, y3, y4, y5, y6, y7, y8, y9⟩ := y
  go_simp
  by_cases h0 : x0 = y0
  case neg => simp [h0]
  by_cases h1 : x1 = y1
  case neg => simp [h0, h1]
  by_cases h2 : x2 = y2
  case neg => simp [h0, h1, h2]
  by_cases h3 : x3 = y3
  case neg => simp [h0, h1, h2, h3, show ¬ ((x3 : Nat) : Int) = ((y3 : Nat) : Int) by omega]
  by_cases h4 : x4 = y4
  case neg => simp [h0, h1, h2, h3, h4, show ¬ ((x4 : Nat) : Int) = ((y4 : Nat) : Int) by omega]
  by_cases h5 : x5 = y5
  case neg => simp [h0, h1, h2, h3, h4, h5]
  by_cases h6 : x6 = y6
  case neg => simp [h0, h1, h2, h3, h4, h5, h6]
  by_cases h7 : x7 = y7
  case neg => simp [h0, h1, h2, h3, h4, h5, h6, h7]
  by_cases h8 : x8 = y8
  case neg => simp [h0, h1, h2, h3, h4, h5, h6, h7, h8]
  by_cases h9 : x9 = y9
  case neg => simp [h0, h1, h2, h3, h4, h5, h6, h7, h8, h9]
  simp [h0, h1, h2, h3, h4, h5, h6, h7, h8, h9]
theorem ru_neq (x y : Ru) (w : World) : (binOp .neq 54 (.agg #[.int .i64 x.fr, .int .i64 x.tt, .int .i64 x.proto, .int .u32 x.src, .int .u32 x.dst, .int .i64 x.srcBits, .int .i64 x.dstBits, .int .i64 x.lo, .int .i64 x.hi, .int .i64 x.action]) (.agg #[.int .i64 y.fr, .int .i64 y.tt, .int .i64 y.proto, .int .u32 y.src, .int .u32 y.dst, .int .i64 y.srcBits, .int .i64 y.dstBits, .int .i64 y.lo, .int .i64 y.hi, .int .i64 y.action])).run Tryz.prog w = .ok (.bool (!decide (x = y))) w := by
  rw [run_neq_struct, ru_equalIn]; rfl
set_option maxHeartbeats 1000000 in
theorem ru_equal (oa ob : Option Addr) (l c m d : Nat) (L M : List Ru) (w : World) (hl : l ≤ 1000000) (hm : m ≤ 1000000) (hL : L.length = l) (hM : M.length = m) (hS : RusAt w oa L) (hT : RusAt w ob M) :
    Calls Tryz.prog 22 #[.slice oa l c, .slice ob m d] w fun e w' => e = .returned (.bool (decide (L = M))) ∧ Junk w w' := by
  have HS := Lib.hid hS
  have HT := Lib.hid hT
  have HL := Lib.hid hL
  have HM := Lib.hid hM
  clear hS hT hL hM
  obtain ⟨R, hR⟩ : ∃ R, R = decide (L = M) := ⟨_, rfl⟩
  rw [← hR]
  have HR := Lib.hid hR
  clear hR
  by_cases hlm : l = m
  case neg =>
    have HE := Lib.hid (show R = false by rw [HR.out]; simp; intro h; apply hlm; rw [← HL.out, ← HM.out, h])
    have hne : ((l : Int) == (m : Int)) = false := by simp; omega
    go_enter Tryz.func22, Tryz.ntmps22
    go_wp2
    go_ret
    exact ⟨by rw [HE.out]; rfl, by (exact jkc)⟩
  subst hlm
  go_enter Tryz.func22, Tryz.ntmps22
  go_wp2
  go_loopw [5, 13] (fun _ i wr => ∃ k : Nat, i = .int .i64 (k : Int) ∧ Junk w wr ∧ k ≤ l ∧ Hid (L.take k = M.take k)) (fun _ i _ => l + 1 - (intOf i).toNat)
  case atStart => exact ⟨0, rfl, by (exact jkc), by omega, Lib.hid rfl⟩
  case round =>
    obtain ⟨k, rfl, ⟨os, dd, rfl⟩, hk, hI⟩ := hrel
    by_cases hkl : k < l
    · have hk2 : (k : Int) < (l : Int) := by omega
      obtain ⟨x, hx⟩ : ∃ x, L[k]? = some x := ⟨_, List.getElem?_eq_getElem (by rw [HL.out]; exact hkl)⟩
      obtain ⟨y, hy⟩ : ∃ y, M[k]? = some y := ⟨_, List.getElem?_eq_getElem (by rw [HM.out]; exact hkl)⟩
      obtain ⟨b, off, rfl, hb, c0, c1, c2, c3, c4, c5, c6, c7, c8, c9⟩ := HS.out k x hx
      obtain ⟨b2, off2, rfl, hb2, e0, e1, e2, e3, e4, e5, e6, e7, e8, e9⟩ := HT.out k y hy
      have HX := Lib.hid hx
      have HY := Lib.hid hy
      clear hx hy
      have hg := ru_guard
      by_cases hxy : x = y
      · have HI2 := Lib.hid (show L.take (k + 1) = M.take (k + 1) by rw [take_suc HX.out, take_suc HY.out, hI.out, hxy])
        have hq : ∀ w, (binOp .neq 54 (.agg #[.int .i64 x.fr, .int .i64 x.tt, .int .i64 x.proto, .int .u32 x.src, .int .u32 x.dst, .int .i64 x.srcBits, .int .i64 x.dstBits, .int .i64 x.lo, .int .i64 x.hi, .int .i64 x.action]) (.agg #[.int .i64 y.fr, .int .i64 y.tt, .int .i64 y.proto, .int .u32 y.src, .int .u32 y.dst, .int .i64 y.srcBits, .int .i64 y.dstBits, .int .i64 y.lo, .int .i64 y.hi, .int .i64 y.action])).run Tryz.prog w = .ok (.bool false) w := fun w => by have := ru_neq x y w; rw [decide_eq_true hxy] at this; exact this
        clear hxy
        go_wp2
        refine wp_region_junk (by kernel_rfl) (by kernel_rfl) ?_; (repeat (go_big_quiet_step (first | fail))); refine wpQuiet_nil ?_; rintro _ ⟨⟨osq, dq⟩, rfl⟩
        go_wp2
        exact ⟨⟨k + 1, by go_num, by (exact jkc), by omega, HI2⟩, by simp [intOf]; omega⟩
      · have HE := Lib.hid (show R = false by rw [HR.out]; simp only [decide_eq_false_iff_not]; intro h; apply hxy; have h1 := HX.out; rw [h, HY.out] at h1; simpa using h1.symm)
        have hq : ∀ w, (binOp .neq 54 (.agg #[.int .i64 x.fr, .int .i64 x.tt, .int .i64 x.proto, .int .u32 x.src, .int .u32 x.dst, .int .i64 x.srcBits, .int .i64 x.dstBits, .int .i64 x.lo, .int .i64 x.hi, .int .i64 x.action]) (.agg #[.int .i64 y.fr, .int .i64 y.tt, .int .i64 y.proto, .int .u32 y.src, .int .u32 y.dst, .int .i64 y.srcBits, .int .i64 y.dstBits, .int .i64 y.lo, .int .i64 y.hi, .int .i64 y.action])).run Tryz.prog w = .ok (.bool true) w := fun w => by have := ru_neq x y w; rw [decide_eq_false hxy] at this; exact this
        clear hxy
        go_wp2
        refine wp_region_junk (by kernel_rfl) (by kernel_rfl) ?_; (repeat (go_big_quiet_step (first | fail))); refine wpQuiet_nil ?_; rintro _ ⟨⟨osq, dq⟩, rfl⟩
        go_wp2
        go_ret
        exact ⟨by rw [HE.out]; rfl, by (exact jkc)⟩
    · have hk2 : ¬ (k : Int) < (l : Int) := by omega
      obtain rfl : k = l := by omega
      have HE := Lib.hid (show R = true by rw [HR.out]; have := hI.out; rw [← HL.out, List.take_length, HL.out, ← HM.out, List.take_length] at this; simp [this])
      go_wp2
      go_ret
      exact ⟨by rw [HE.out]; rfl, by (exact jkc)⟩
theorem fo_guard : Tryz.prog.eqGuardType Tryz.prog.depth 40 = false := by kernel_rfl
theorem fo_equalIn (x y : Fo) (w : World) : (Op.equalIn 10000 40 (.agg #[.int .i64 x.proto, .int .i64 x.port, .int .u32 x.addr, .int .i64 x.tt, .bool x.proxy]) (.agg #[.int .i64 y.proto, .int .i64 y.port, .int .u32 y.addr, .int .i64 y.tt, .bool y.proxy])).run Tryz.prog w = .ok (decide (x = y)) w := by
  have u3 := Tryz.underlying3
  have a3 := Tryz.isAgg3
  have z3 := Tryz.sizeOf3
  have u4 := Tryz.underlying24
  have a4 := Tryz.isAgg24
  have z4 := Tryz.sizeOf24
  have u5 := Tryz.underlying4
  have a5 := Tryz.isAgg4
  have z5 := Tryz.sizeOf4
  have hS : Tryz.prog.underlying 40 = some (.struct (Tryz.prog.fieldsOf 40)) := by kernel_rfl
  have hp : Tryz.prog.stoodInHeld 40 = false := by kernel_rfl
  rw [show (10000 : Nat) = 9999 + 1 from rfl, run_equalIn_agg w 9999 40 _ _ hS hp]
  simp only [Program.fieldsOf, Tryz.underlying40]
  obtain ⟨x0, x1, x2, x3, x4⟩ := x
  obtain ⟨y0, y1, y2, y3, y4⟩ := y
  go_simp
  by_cases h0 : x0 = y0
  case neg => simp [h0]
  by_cases h1 : x1 = y1
  case neg => simp [h0, h1]
  by_cases h2 : x2 = y2
  case neg => simp [h0, h1, h2, show ¬ ((x2 : Nat) : Int) = ((y2 : Nat) : Int) by omega]
  by_cases h3 : x3 = y3
  case neg => simp [h0, h1, h2, h3]
  by_cases h4 : x4 = y4
  case neg => simp [h0, h1, h2, h3, h4]
  simp [h0, h1, h2, h3, h4]
theorem fo_neq (x y : Fo) (w : World) : (binOp .neq 40 (.agg #[.int .i64 x.proto, .int .i64 x.port, .int .u32 x.addr, .int .i64 x.tt, .bool x.proxy]) (.agg #[.int .i64 y.proto, .int .i64 y.port, .int .u32 y.addr, .int .i64 y.tt, .bool y.proxy])).run Tryz.prog w = .ok (.bool (!decide (x = y))) w := by
  rw [run_neq_struct, fo_equalIn]; rfl
set_option maxHeartbeats 1000000 in
theorem fo_equal (oa ob : Option Addr) (l c m d : Nat) (L M : List Fo) (w : World) (hl : l ≤ 1000000) (hm : m ≤ 1000000) (hL : L.length = l) (hM : M.length = m) (hS : FosAt w oa L) (hT : FosAt w ob M) :
    Calls Tryz.prog 23 #[.slice oa l c, .slice ob m d] w fun e w' => e = .returned (.bool (decide (L = M))) ∧ Junk w w' := by
  have HS := Lib.hid hS
  have HT := Lib.hid hT
  have HL := Lib.hid hL
  have HM := Lib.hid hM
  clear hS hT hL hM
  obtain ⟨R, hR⟩ : ∃ R, R = decide (L = M) := ⟨_, rfl⟩
  rw [← hR]
  have HR := Lib.hid hR
  clear hR
  by_cases hlm : l = m
  case neg =>
    have HE := Lib.hid (show R = false by rw [HR.out]; simp; intro h; apply hlm; rw [← HL.out, ← HM.out, h])
    have hne : ((l : Int) == (m : Int)) = false := by simp; omega
    go_enter Tryz.func23, Tryz.ntmps23
    go_wp2
    go_ret
    exact ⟨by rw [HE.out]; rfl, by (exact jkc)⟩
  subst hlm
  go_enter Tryz.func23, Tryz.ntmps23
  go_wp2
  go_loopw [5, 13] (fun _ i wr => ∃ k : Nat, i = .int .i64 (k : Int) ∧ Junk w wr ∧ k ≤ l ∧ Hid (L.take k = M.take k)) (fun _ i _ => l + 1 - (intOf i).toNat)
  case atStart => exact ⟨0, rfl, by (exact jkc), by omega, Lib.hid rfl⟩
  case round =>
    obtain ⟨k, rfl, ⟨os, dd, rfl⟩, hk, hI⟩ := hrel
    by_cases hkl : k < l
    · have hk2 : (k : Int) < (l : Int) := by omega
      obtain ⟨x, hx⟩ : ∃ x, L[k]? = some x := ⟨_, List.getElem?_eq_getElem (by rw [HL.out]; exact hkl)⟩
      obtain ⟨y, hy⟩ : ∃ y, M[k]? = some y := ⟨_, List.getElem?_eq_getElem (by rw [HM.out]; exact hkl)⟩
      obtain ⟨b, off, rfl, hb, c0, c1, c2, c3, c4⟩ := HS.out k x hx
      obtain ⟨b2, off2, rfl, hb2, e0, e1, e2, e3, e4⟩ := HT.out k y hy
      have HX := Lib.hid hx
      have HY := Lib.hid hy
      clear hx hy
      have hg := fo_guard
      by_cases hxy : x = y
      · have HI2 := Lib.hid (show L.take (k + 1) = M.take (k + 1) by rw [take_suc HX.out, take_suc HY.out, hI.out, hxy])
        have hq : ∀ w, (binOp .neq 40 (.agg #[.int .i64 x.proto, .int .i64 x.port, .int .u32 x.addr, .int .i64 x.tt, .bool x.proxy]) (.agg #[.int .i64 y.proto, .int .i64 y.port, .int .u32 y.addr, .int .i64 y.tt, .bool y.proxy])).run Tryz.prog w = .ok (.bool false) w := fun w => by have := fo_neq x y w; rw [decide_eq_true hxy] at this; exact this
        clear hxy
        go_wp2
        refine wp_region_junk (by kernel_rfl) (by kernel_rfl) ?_; (repeat (go_big_quiet_step (first | fail))); refine wpQuiet_nil ?_; rintro _ ⟨⟨osq, dq⟩, rfl⟩
        go_wp2
        exact ⟨⟨k + 1, by go_num, by (exact jkc), by omega, HI2⟩, by simp [intOf]; omega⟩
      · have HE := Lib.hid (show R = false by rw [HR.out]; simp only [decide_eq_false_iff_not]; intro h; apply hxy; have h1 := HX.out; rw [h, HY.out] at h1; simpa using h1.symm)
        have hq : ∀ w, (binOp .neq 40 (.agg #[.int .i64 x.proto, .int .i64 x.port, .int .u32 x.addr, .int .i64 x.tt, .bool x.proxy]) (.agg #[.int .i64 y.proto, .int .i64 y.port, .int .u32 y.addr, .int .i64 y.tt, .bool y.proxy])).run Tryz.prog w = .ok (.bool true) w := fun w => by have := fo_neq x y w; rw [decide_eq_false hxy] at this; exact this
        clear hxy
        go_wp2
        refine wp_region_junk (by kernel_rfl) (by kernel_rfl) ?_; (repeat (go_big_quiet_step (first | fail))); refine wpQuiet_nil ?_; rintro _ ⟨⟨osq, dq⟩, rfl⟩
        go_wp2
        go_ret
        exact ⟨by rw [HE.out]; rfl, by (exact jkc)⟩
    · have hk2 : ¬ (k : Int) < (l : Int) := by omega
      obtain rfl : k = l := by omega
      have HE := Lib.hid (show R = true by rw [HR.out]; have := hI.out; rw [← HL.out, List.take_length, HL.out, ← HM.out, List.take_length] at this; simp [this])
      go_wp2
      go_ret
      exact ⟨by rw [HE.out]; rfl, by (exact jkc)⟩
end Go.Proofs.YtcnhlbkdhhjmiaaGreatDoor
