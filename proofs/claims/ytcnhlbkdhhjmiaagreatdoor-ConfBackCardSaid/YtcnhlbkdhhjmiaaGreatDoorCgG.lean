/- The law ConfBack: what it computes. -/
import Derived.Test.YtcnhlbkdhhjmiaaGreatDoorCgF
import Derived.Deep.DeepCutAuto
set_option linter.unusedVariables false
set_option maxRecDepth 100000
set_option linter.unusedSimpArgs false
namespace Go.Proofs.YtcnhlbkdhhjmiaaGreatDoor
open Go.RowKit
variable {L L' : Nat → Prop} {w w' w'' : World}
set_option maxHeartbeats 8000000 in
theorem confBack_walk (X : List Ro) (Y : List Ru) (Z : List Fo) (o0 : Option Addr) (n0 c0 : Nat) (o1 : Option Addr) (n1 c1 : Nat) (ou : Int) (pu : Nat) (lo hi : Int) (o6 : Option Addr) (n6 c6 : Nat) (tc ot bu : Int) (text : ByteArray) (w : World)
    (hX : X.length = n0) (hY : Y.length = n1) (hZ : Z.length = n6) (h0 : RosAt w o0 X) (h1 : RusAt w o1 Y) (h6 : FosAt w o6 Z) (l0 : n0 ≤ c0) (l1 : n1 ≤ c1) (l6 : n6 ≤ c6) (hE : Env w) (hty : tyC ⟨X, Y, ou, pu, lo, hi, Z, tc, ot, bu⟩) (hn : text.size ≤ 9223372036854775807) :
    Calls Tryz.prog 3 #[.agg #[.slice o0 n0 c0, .slice o1 n1 c1, .int .i64 ou, .int .u32 pu, .int .i64 lo, .int .i64 hi, .slice o6 n6 c6, .int .i64 tc, .int .i64 ot, .int .i64 bu], .string text] w fun e w' => e = .returned (.bool true) ∧ Junk w w' := by
  have HE := Lib.hid (fun w1 (hj : Junk w w1) => hE.junk hj)
  have HAW := Lib.hid (fun w1 (hj : Junk w w1) => awake15_any w1 (hE.junk hj))
  have HSH := Lib.hid (fun w1 => short_any o0 n0 c0 o1 n1 c1 ou pu lo hi o6 n6 c6 tc ot bu w1)
  by_cases hs : n0 ≤ 80 ∧ n1 ≤ 80 ∧ n6 ≤ 50
  case neg =>
    rw [decide_eq_false hs] at HSH
    clear hE hty h0 h1 h6 hX hY hZ hs
    go_enter Tryz.func3, Tryz.ntmps3
    go_upto_region 3 with (first | (go_at_call 5; (with_reducible refine (HAW.out _ (by (exact jkc))).mono ?_); rintro e w' ⟨rfl, ⟨osj, dj, rfl⟩⟩))
    go_upto_region 4 with (fail)
    go_wp2_with (first | (go_at_call 6; (with_reducible refine (HSH.out _).mono ?_); rintro e w' ⟨rfl, ⟨osj, dj, rfl⟩⟩))
    go_ret
    exact ⟨rfl, by (exact jkc)⟩
  rw [decide_eq_true hs] at HSH
  have hC : CfIn w ⟨X, Y, ou, pu, lo, hi, Z, tc, ot, bu⟩ o0 c0 o1 c1 o6 c6 := ⟨h0, h1, h6, by simp only; omega, by simp only; omega, by simp only; omega⟩
  have HC := Lib.hid (fun w1 (hj : Junk w w1) => hC.on hj)
  have HX := Lib.hid hX
  have HY := Lib.hid hY
  have HZ := Lib.hid hZ
  have HTY := Lib.hid hty
  clear hE hty h0 h1 h6 hX hY hZ hs hC
  go_enter Tryz.func3, Tryz.ntmps3
  go_upto_region 4 with (first | (go_at_call 5; (with_reducible refine (HAW.out _ (by (exact jkc))).mono ?_); rintro e w' ⟨rfl, ⟨osj, dj, rfl⟩⟩))
  have hts : (text.extract 0 (min (text.size : Int) 4000).toNat).size ≤ 4000 := by rw [ByteArray.size_extract]; omega
  generalize text.extract 0 (min (text.size : Int) 4000).toNat = T at hts ⊢
  generalize (min (text.size : Int) 4000) = mt
  have hj1 : Junk w ((w.alloc (.cells #[.slice o0 n0 c0, .slice o1 n1 c1, .int .i64 ou, .int .u32 pu, .int .i64 lo, .int .i64 hi, .slice o6 n6 c6, .int .i64 tc, .int .i64 ot, .int .i64 bu] 27)).junk osj dj) := by (exact jkc)
  have hb1 : Box ((w.alloc (.cells #[.slice o0 n0 c0, .slice o1 n1 c1, .int .i64 ou, .int .u32 pu, .int .i64 lo, .int .i64 hi, .slice o6 n6 c6, .int .i64 tc, .int .i64 ot, .int .i64 bu] 27)).junk osj dj) w.heap.size 27 (#[.slice o0 n0 c0, .slice o1 n1 c1, .int .i64 ou, .int .u32 pu, .int .i64 lo, .int .i64 hi, .slice o6 n6 c6, .int .i64 tc, .int .i64 ot, .int .i64 bu]).toList := Box.on (box_new w #[.slice o0 n0 c0, .slice o1 n1 c1, .int .i64 ou, .int .u32 pu, .int .i64 lo, .int .i64 hi, .slice o6 n6 c6, .int .i64 tc, .int .i64 ot, .int .i64 bu] 27) ⟨_, _, rfl⟩
  generalize ((w.alloc (.cells #[.slice o0 n0 c0, .slice o1 n1 c1, .int .i64 ou, .int .u32 pu, .int .i64 lo, .int .i64 hi, .slice o6 n6 c6, .int .i64 tc, .int .i64 ot, .int .i64 bu] 27)).junk osj dj) = V at hj1 hb1 ⊢
  have HBX := Lib.hid (fun w1 (hj : Junk V w1) => hb1.on hj)
  have hla := hb1.lt
  have r0 := hb1.cell (j := 0) rfl
  have r1 := hb1.cell (j := 1) rfl
  have r2 := hb1.cell (j := 2) rfl
  have r3 := hb1.cell (j := 3) rfl
  have r4 := hb1.cell (j := 4) rfl
  have r5 := hb1.cell (j := 5) rfl
  have r6 := hb1.cell (j := 6) rfl
  have r7 := hb1.cell (j := 7) rfl
  have r8 := hb1.cell (j := 8) rfl
  have r9 := hb1.cell (j := 9) rfl
  have HJ1 := Lib.hid hj1
  clear hb1 hj1
  go_upto_region 6 with (go_at_call 6; (with_reducible refine (HSH.out _).mono ?_); rintro e w' ⟨rfl, ⟨osB, dB, rfl⟩⟩)
  by_cases hr : rightC ⟨X, Y, ou, pu, lo, hi, Z, tc, ot, bu⟩
  case' pos =>
    have HSG := Lib.hid (fun w1 (hj : Junk w w1) => show_good X Y Z o0 n0 c0 o1 n1 c1 ou pu lo hi o6 n6 c6 tc ot bu w1 HX.out HY.out HZ.out (HC.out w1 hj) (HE.out w1 hj) hr HTY.out)
    have HPG := Lib.hid (fun w1 (hj : Junk w w1) => parse_good X Y Z n0 n1 n6 ou pu lo hi tc ot bu w1 HX.out HY.out HZ.out (HE.out w1 hj) (mkS (showT ⟨X, Y, ou, pu, lo, hi, Z, tc, ot, bu⟩)) (by rw [mkS_size]; have := show_len _ hr HTY.out; omega) (reads_show _ hr HTY.out) hr)
    generalize mkS (showT ⟨X, Y, ou, pu, lo, hi, Z, tc, ot, bu⟩) = S at HSG HPG
    go_upto_region 9 with (first
      | (go_at_call 7; (with_reducible refine (HSG.out _ (HJ1.out.trans (by (exact jkc)))).mono ?_); rintro e w' ⟨rfl, ⟨osC, dC, rfl⟩⟩)
      | (go_at_call 8; refine (HPG.out _ (HJ1.out.trans (by (exact jkc)))).mono ?_; rintro e w1 ⟨p0, d0, p1, d1, p6, d6, rfl, hc1, hj1⟩; have HC1 := Lib.hid hc1; have HJ2 := Lib.hid (show Junk V w1 from Junk.trans (by (exact jkc)) hj1); clear hc1 hj1))
    have hbp : Box (w1.alloc (.cells #[.slice p0 n0 d0, .slice p1 n1 d1, .int .i64 ou, .int .u32 pu, .int .i64 lo, .int .i64 hi, .slice p6 n6 d6, .int .i64 tc, .int .i64 ot, .int .i64 bu] 27)) w1.heap.size 27 (#[.slice p0 n0 d0, .slice p1 n1 d1, .int .i64 ou, .int .u32 pu, .int .i64 lo, .int .i64 hi, .slice p6 n6 d6, .int .i64 tc, .int .i64 ot, .int .i64 bu]).toList := box_new w1 #[.slice p0 n0 d0, .slice p1 n1 d1, .int .i64 ou, .int .u32 pu, .int .i64 lo, .int .i64 hi, .slice p6 n6 d6, .int .i64 tc, .int .i64 ot, .int .i64 bu] 27
    have hj4 : Junk V (w1.alloc (.cells #[.slice p0 n0 d0, .slice p1 n1 d1, .int .i64 ou, .int .u32 pu, .int .i64 lo, .int .i64 hi, .slice p6 n6 d6, .int .i64 tc, .int .i64 ot, .int .i64 bu] 27)) := HJ2.out.alloc _
    have HSA := Lib.hid (same_any X Y Z o0 n0 c0 o1 n1 c1 ou pu lo hi o6 n6 c6 tc ot bu p0 p1 p6 d0 d1 d6 (w1.alloc (.cells #[.slice p0 n0 d0, .slice p1 n1 d1, .int .i64 ou, .int .u32 pu, .int .i64 lo, .int .i64 hi, .slice p6 n6 d6, .int .i64 tc, .int .i64 ot, .int .i64 bu] 27)) HX.out HY.out HZ.out (HC.out _ (HJ1.out.trans hj4)) (HC1.out.on ((Junk.refl w1).alloc _)))
    generalize (w1.alloc (.cells #[.slice p0 n0 d0, .slice p1 n1 d1, .int .i64 ou, .int .u32 pu, .int .i64 lo, .int .i64 hi, .slice p6 n6 d6, .int .i64 tc, .int .i64 ot, .int .i64 bu] 27)) = V2 at hbp hj4 HSA ⊢
    generalize w1.heap.size = ap at hbp ⊢
    have hb2 := HBX.out _ hj4
    have s0 := hbp.cell (j := 0) rfl
    have s1 := hbp.cell (j := 1) rfl
    have s2 := hbp.cell (j := 2) rfl
    have s3 := hbp.cell (j := 3) rfl
    have s4 := hbp.cell (j := 4) rfl
    have s5 := hbp.cell (j := 5) rfl
    have s6 := hbp.cell (j := 6) rfl
    have s7 := hbp.cell (j := 7) rfl
    have s8 := hbp.cell (j := 8) rfl
    have s9 := hbp.cell (j := 9) rfl
    have t0 := hb2.cell (j := 0) rfl
    have t1 := hb2.cell (j := 1) rfl
    have t2 := hb2.cell (j := 2) rfl
    have t3 := hb2.cell (j := 3) rfl
    have t4 := hb2.cell (j := 4) rfl
    have t5 := hb2.cell (j := 5) rfl
    have t6 := hb2.cell (j := 6) rfl
    have t7 := hb2.cell (j := 7) rfl
    have t8 := hb2.cell (j := 8) rfl
    have t9 := hb2.cell (j := 9) rfl
    have hj5 : Junk w V2 := HJ1.out.trans hj4
    have HJ5 := Lib.hid hj5
    clear hbp hb2 hj4 hj5
    go_upto_region 11 with (first | (go_at_call 9; (with_reducible refine (HSA.out).mono ?_); rintro e w' ⟨rfl, ⟨osj, dj, rfl⟩⟩))
    have hj6 : Junk w (V2.junk osj dj) := HJ5.out.trans ⟨_, _, rfl⟩
    generalize V2.junk osj dj = V3 at hj6 ⊢
    have HJ3 := Lib.hid hj6
    clear hj6 HSA s0 s1 s2 s3 s4 s5 s6 s7 s8 s9 t0 t1 t2 t3 t4 t5 t6 t7 t8 t9 HSG HPG HC1 HJ2 HJ5
  case' neg =>
    have HSB := Lib.hid (fun w1 (hj : Junk w w1) => show_bad X Y Z o0 n0 c0 o1 n1 c1 ou pu lo hi o6 n6 c6 tc ot bu w1 HX.out HY.out HZ.out (HC.out w1 hj) hr)
    go_upto_region 11 with (go_at_call 7; (with_reducible refine (HSB.out _ (HJ1.out.trans (by (exact jkc)))).mono ?_); rintro e w' ⟨rfl, ⟨osC, dC, rfl⟩⟩)
    have hj6 : Junk w (V.junk (osB ++ osC) dC) := HJ1.out.trans ⟨_, _, rfl⟩
    generalize V.junk (osB ++ osC) dC = V3 at hj6 ⊢
    have HJ3 := Lib.hid hj6
    clear hj6 HSB
  all_goals
    by_cases hg : ∃ f, readsT T = some f ∧ rightC f
    case neg =>
      have HPB := Lib.hid (parse_bad V3 (HE.out _ HJ3.out) T (by omega) (fun f h1 h2 => hg ⟨f, h1, h2⟩))
      clear hg
      go_upto_region 12 with (go_at_call 8; refine HPB.out.mono ?_; rintro e w1 ⟨k, t, hk, rfl, hj1⟩)
      have hk2 : (k == 0) = false := by rw [beq_eq_false_iff_ne]; exact hk
      have HJ4 := Lib.hid hj1
      clear hj1
      go_wp2
      go_ret
      exact ⟨ret_bool (by simp), HJ3.out.trans (HJ4.out.trans (by (exact jkc)))⟩
    obtain ⟨⟨X2, Y2, wu, vu, wl, wh, Z2, wt, wo, wb⟩, hg1, hg2⟩ := hg
    obtain ⟨m0, hm0⟩ : ∃ n, X2.length = n := ⟨_, rfl⟩
    obtain ⟨m1, hm1⟩ : ∃ n, Y2.length = n := ⟨_, rfl⟩
    obtain ⟨m6, hm6⟩ : ∃ n, Z2.length = n := ⟨_, rfl⟩
    have hty2 := reads_ty hg1
    have HPG := Lib.hid (parse_good X2 Y2 Z2 m0 m1 m6 wu vu wl wh wt wo wb V3 hm0 hm1 hm6 (HE.out _ HJ3.out) T (by omega) hg1 hg2)
    have HSG := Lib.hid (fun w1 (hj : Junk V3 w1) qa ea qb eb qc ec (hc : CfIn w1 ⟨X2, Y2, wu, vu, wl, wh, Z2, wt, wo, wb⟩ qa ea qb eb qc ec) => show_good X2 Y2 Z2 qa m0 ea qb m1 eb wu vu wl wh qc m6 ec wt wo wb w1 hm0 hm1 hm6 hc (HE.out _ (HJ3.out.trans hj)) hg2 hty2)
    have HRG := Lib.hid (fun w1 qa ea qb eb qc ec (hc : CfIn w1 ⟨X2, Y2, wu, vu, wl, wh, Z2, wt, wo, wb⟩ qa ea qb eb qc ec) => propB_true hg2 ▸ cright_any X2 Y2 Z2 qa m0 ea qb m1 eb wu vu wl wh qc m6 ec wt wo wb w1 hm0 hm1 hm6 hc)
    have HP2 := Lib.hid (fun w1 (hj : Junk V3 w1) => parse_good X2 Y2 Z2 m0 m1 m6 wu vu wl wh wt wo wb w1 hm0 hm1 hm6 (HE.out _ (HJ3.out.trans hj)) (mkS (showT ⟨X2, Y2, wu, vu, wl, wh, Z2, wt, wo, wb⟩)) (by rw [mkS_size]; have := show_len _ hg2 hty2; omega) (reads_show _ hg2 hty2) hg2)
    have HSA := Lib.hid (fun w1 qa ea qb eb qc ec ra fa rb fb rc fc (hc : CfIn w1 ⟨X2, Y2, wu, vu, wl, wh, Z2, wt, wo, wb⟩ qa ea qb eb qc ec) (hd : CfIn w1 ⟨X2, Y2, wu, vu, wl, wh, Z2, wt, wo, wb⟩ ra fa rb fb rc fc) => same_any X2 Y2 Z2 qa m0 ea qb m1 eb wu vu wl wh qc m6 ec wt wo wb ra rb rc fa fb fc w1 hm0 hm1 hm6 hc hd)
    generalize mkS (showT ⟨X2, Y2, wu, vu, wl, wh, Z2, wt, wo, wb⟩) = S2 at HSG HP2
    clear hg1 hg2 hty2 hm0 hm1 hm6
    go_upto_region 12 with (go_at_call 8; refine HPG.out.mono ?_; rintro e w1 ⟨qa, ea, qb, eb, qc, ec, rfl, hc1, hj1⟩)
    have hjd : Junk V3 (w1.alloc (.cells #[.slice qa m0 ea, .slice qb m1 eb, .int .i64 wu, .int .u32 vu, .int .i64 wl, .int .i64 wh, .slice qc m6 ec, .int .i64 wt, .int .i64 wo, .int .i64 wb] 27)) := hj1.alloc _
    have hcd := hc1.on (show Junk w1 (w1.alloc (.cells #[.slice qa m0 ea, .slice qb m1 eb, .int .i64 wu, .int .u32 vu, .int .i64 wl, .int .i64 wh, .slice qc m6 ec, .int .i64 wt, .int .i64 wo, .int .i64 wb] 27)) from (Junk.refl w1).alloc _)
    have hbd : Box (w1.alloc (.cells #[.slice qa m0 ea, .slice qb m1 eb, .int .i64 wu, .int .u32 vu, .int .i64 wl, .int .i64 wh, .slice qc m6 ec, .int .i64 wt, .int .i64 wo, .int .i64 wb] 27)) w1.heap.size 27 (#[.slice qa m0 ea, .slice qb m1 eb, .int .i64 wu, .int .u32 vu, .int .i64 wl, .int .i64 wh, .slice qc m6 ec, .int .i64 wt, .int .i64 wo, .int .i64 wb]).toList := box_new w1 #[.slice qa m0 ea, .slice qb m1 eb, .int .i64 wu, .int .u32 vu, .int .i64 wl, .int .i64 wh, .slice qc m6 ec, .int .i64 wt, .int .i64 wo, .int .i64 wb] 27
    generalize (w1.alloc (.cells #[.slice qa m0 ea, .slice qb m1 eb, .int .i64 wu, .int .u32 vu, .int .i64 wl, .int .i64 wh, .slice qc m6 ec, .int .i64 wt, .int .i64 wo, .int .i64 wb] 27)) = V4 at hjd hcd hbd ⊢
    generalize w1.heap.size = ad at hbd ⊢
    have HC4 := Lib.hid (fun w2 (hj : Junk V4 w2) => hcd.on hj)
    have HB4 := Lib.hid (fun w2 (hj : Junk V4 w2) => hbd.on hj)
    have HJ4 := Lib.hid hjd
    have s0 := hbd.cell (j := 0) rfl
    have s1 := hbd.cell (j := 1) rfl
    have s2 := hbd.cell (j := 2) rfl
    have s3 := hbd.cell (j := 3) rfl
    have s4 := hbd.cell (j := 4) rfl
    have s5 := hbd.cell (j := 5) rfl
    have s6 := hbd.cell (j := 6) rfl
    have s7 := hbd.cell (j := 7) rfl
    have s8 := hbd.cell (j := 8) rfl
    have s9 := hbd.cell (j := 9) rfl
    have sl := hbd.lt
    clear hc1 hj1 hjd hcd hbd HPG
    go_upto_region 16 with (first
      | (go_at_call 7; (refine (HSG.out _ (HJ4.out.trans (by (exact jkc))) _ _ _ _ _ _ (HC4.out _ (by (exact jkc)))).mono ?_); rintro e w' ⟨rfl, ⟨osD, dD, rfl⟩⟩)
      | (go_at_call 8; refine (HP2.out _ (HJ4.out.trans (by (exact jkc)))).mono ?_; rintro e w2 ⟨ra, fa, rb, fb, rc, fc, rfl, hc2, hj2⟩; have HC2 := Lib.hid hc2; have HJ6 := Lib.hid (show Junk V4 w2 from Junk.trans (by (exact jkc)) hj2); clear hc2 hj2))
    have hj7 : Junk V4 (w2.alloc (.cells #[.slice ra m0 fa, .slice rb m1 fb, .int .i64 wu, .int .u32 vu, .int .i64 wl, .int .i64 wh, .slice rc m6 fc, .int .i64 wt, .int .i64 wo, .int .i64 wb] 27)) := HJ6.out.alloc _
    have hc7 := HC2.out.on (show Junk w2 (w2.alloc (.cells #[.slice ra m0 fa, .slice rb m1 fb, .int .i64 wu, .int .u32 vu, .int .i64 wl, .int .i64 wh, .slice rc m6 fc, .int .i64 wt, .int .i64 wo, .int .i64 wb] 27)) from (Junk.refl w2).alloc _)
    have hb7 : Box (w2.alloc (.cells #[.slice ra m0 fa, .slice rb m1 fb, .int .i64 wu, .int .u32 vu, .int .i64 wl, .int .i64 wh, .slice rc m6 fc, .int .i64 wt, .int .i64 wo, .int .i64 wb] 27)) w2.heap.size 27 (#[.slice ra m0 fa, .slice rb m1 fb, .int .i64 wu, .int .u32 vu, .int .i64 wl, .int .i64 wh, .slice rc m6 fc, .int .i64 wt, .int .i64 wo, .int .i64 wb]).toList := box_new w2 #[.slice ra m0 fa, .slice rb m1 fb, .int .i64 wu, .int .u32 vu, .int .i64 wl, .int .i64 wh, .slice rc m6 fc, .int .i64 wt, .int .i64 wo, .int .i64 wb] 27
    generalize (w2.alloc (.cells #[.slice ra m0 fa, .slice rb m1 fb, .int .i64 wu, .int .u32 vu, .int .i64 wl, .int .i64 wh, .slice rc m6 fc, .int .i64 wt, .int .i64 wo, .int .i64 wb] 27)) = V7 at hj7 hc7 hb7 ⊢
    generalize w2.heap.size = ag at hb7 ⊢
    have HC7 := Lib.hid (fun w2 (hj : Junk V7 w2) => hc7.on hj)
    have HC8 := Lib.hid (fun w2 (hj : Junk V7 w2) => HC4.out w2 (hj7.trans hj))
    have hb8 := HB4.out _ hj7
    have u0 := hb7.cell (j := 0) rfl
    have u1 := hb7.cell (j := 1) rfl
    have u2 := hb7.cell (j := 2) rfl
    have u3 := hb7.cell (j := 3) rfl
    have u4 := hb7.cell (j := 4) rfl
    have u5 := hb7.cell (j := 5) rfl
    have u6 := hb7.cell (j := 6) rfl
    have u7 := hb7.cell (j := 7) rfl
    have u8 := hb7.cell (j := 8) rfl
    have u9 := hb7.cell (j := 9) rfl
    have ul := hb7.lt
    have v0 := hb8.cell (j := 0) rfl
    have v1 := hb8.cell (j := 1) rfl
    have v2 := hb8.cell (j := 2) rfl
    have v3 := hb8.cell (j := 3) rfl
    have v4 := hb8.cell (j := 4) rfl
    have v5 := hb8.cell (j := 5) rfl
    have v6 := hb8.cell (j := 6) rfl
    have v7 := hb8.cell (j := 7) rfl
    have v8 := hb8.cell (j := 8) rfl
    have v9 := hb8.cell (j := 9) rfl
    have vl := hb8.lt
    have HJ9 := Lib.hid (HJ3.out.trans (HJ4.out.trans hj7))
    clear hj7 hc7 hb7 hb8 HC2 HJ6 HB4 HC4 s0 s1 s2 s3 s4 s5 s6 s7 s8 s9
    go_wp2_with (first
      | (go_at_call 10; (refine (HRG.out _ _ _ _ _ _ _ (HC8.out _ (by (exact jkc)))).mono ?_); rintro e w' ⟨rfl, ⟨osE, dE, rfl⟩⟩)
      | (go_at_call 9; (refine (HSA.out _ _ _ _ _ _ _ _ _ _ _ _ _ (HC8.out _ (by (exact jkc))) (HC7.out _ (by (exact jkc)))).mono ?_); rintro e w' ⟨rfl, ⟨osF, dF, rfl⟩⟩))
    go_ret
    exact ⟨rfl, HJ9.out.trans (by (exact jkc))⟩
end Go.Proofs.YtcnhlbkdhhjmiaaGreatDoor
