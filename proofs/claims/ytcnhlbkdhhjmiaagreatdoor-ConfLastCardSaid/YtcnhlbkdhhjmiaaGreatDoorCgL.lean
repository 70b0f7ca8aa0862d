/- The law ConfLast: what it computes. -/
import Derived.Test.YtcnhlbkdhhjmiaaGreatDoorCgF
set_option linter.unusedVariables false
set_option maxRecDepth 100000
set_option linter.unusedSimpArgs false
namespace Go.Proofs.YtcnhlbkdhhjmiaaGreatDoor
open Go.RowKit
variable {L L' : Nat → Prop} {w w' w'' : World}
section
variable {o0 o1 o6 : Option Addr} {n0 c0 n1 c1 n6 c6 pu : Nat} {ou lo hi tc ot bu : Int}
theorem vals_at {W : World} {a : Nat} (hb : Box W a 27 (#[.slice o0 n0 c0, .slice o1 n1 c1, .int .i64 ou, .int .u32 pu, .int .i64 lo, .int .i64 hi, .slice o6 n6 c6, .int .i64 tc, .int .i64 ot, .int .i64 bu] : Array Value).toList) {k : Nat} {v : Value} (h : W.cell? ⟨a, k, none⟩ = some v) : (#[.slice o0 n0 c0, .slice o1 n1 c1, .int .i64 ou, .int .u32 pu, .int .i64 lo, .int .i64 hi, .slice o6 n6 c6, .int .i64 tc, .int .i64 ot, .int .i64 bu] : Array Value)[k]? = some v := by
  have h1 : W.heap[a]? = some (.cells (#[.slice o0 n0 c0, .slice o1 n1 c1, .int .i64 ou, .int .u32 pu, .int .i64 lo, .int .i64 hi, .slice o6 n6 c6, .int .i64 tc, .int .i64 ot, .int .i64 bu] : Array Value).toList.toArray 27 (0, 0)) := hb
  rw [Lib.cell_of_heap h1] at h
  exact h
theorem vals_u32 {k : Nat} {n : Int} (h : (#[.slice o0 n0 c0, .slice o1 n1 c1, .int .i64 ou, .int .u32 pu, .int .i64 lo, .int .i64 hi, .slice o6 n6 c6, .int .i64 tc, .int .i64 ot, .int .i64 bu] : Array Value)[k]? = some (.int .u32 n)) : k = 3 := by
  rcases k with _ | _ | _ | _ | _ | _ | _ | _ | _ | _ | k
  all_goals first | rfl | (simp at h; done)
theorem vals_bool {k : Nat} {x : Bool} (h : (#[.slice o0 n0 c0, .slice o1 n1 c1, .int .i64 ou, .int .u32 pu, .int .i64 lo, .int .i64 hi, .slice o6 n6 c6, .int .i64 tc, .int .i64 ot, .int .i64 bu] : Array Value)[k]? = some (.bool x)) : False := by
  rcases k with _ | _ | _ | _ | _ | _ | _ | _ | _ | _ | k
  all_goals (simp at h; done)
/-- A store into the law's own configuration changes nothing of another one. -/
theorem in_set {W : World} {a : Nat} (hb : Box W a 27 (#[.slice o0 n0 c0, .slice o1 n1 c1, .int .i64 ou, .int .u32 pu, .int .i64 lo, .int .i64 hi, .slice o6 n6 c6, .int .i64 tc, .int .i64 ot, .int .i64 bu] : Array Value).toList) {f : Cf} {p0 p1 p6 : Option Addr} {d0 d1 d6 : Nat} (h : CfIn W f p0 d0 p1 d1 p6 d6) (j : Nat) (v : Value) : CfIn (W.setCell ⟨a, j, none⟩ v) f p0 d0 p1 d1 p6 d6 := by
  refine ⟨fun i x hx => ?_, fun i x hx => ?_, fun i x hx => ?_, h.l0, h.l1, h.l6⟩
  · obtain ⟨b, off, he, hlt, h0, h1, h2, h3⟩ := h.s0 i x hx
    have hne : b ≠ a := fun e => by
      subst e
      have e0 := vals_u32 (vals_at hb h0)
      have e3 := vals_at hb h3
      rw [e0] at e3
      simp at e3
    refine ⟨b, off, he, by simpa [World.setCell] using hlt, ?_, ?_, ?_, ?_⟩
    all_goals (rw [World.cell?_setCell_other _ _ _ _ (by simp [Ne.symm hne])]; assumption)
  · obtain ⟨b, off, he, hlt, h0, h1, h2, h3, h4, h5, h6, h7, h8, h9⟩ := h.s1 i x hx
    have hne : b ≠ a := fun e => by
      subst e
      have e3 := vals_u32 (vals_at hb h3)
      have e4 := vals_u32 (vals_at hb h4)
      omega
    refine ⟨b, off, he, by simpa [World.setCell] using hlt, ?_, ?_, ?_, ?_, ?_, ?_, ?_, ?_, ?_, ?_⟩
    all_goals (rw [World.cell?_setCell_other _ _ _ _ (by simp [Ne.symm hne])]; assumption)
  · obtain ⟨b, off, he, hlt, h0, h1, h2, h3, h4⟩ := h.s6 i x hx
    have hne : b ≠ a := fun e => by
      subst e
      exact vals_bool (vals_at hb h4)
    refine ⟨b, off, he, by simpa [World.setCell] using hlt, ?_, ?_, ?_, ?_, ?_⟩
    all_goals (rw [World.cell?_setCell_other _ _ _ _ (by simp [Ne.symm hne])]; assumption)
end
theorem cat_last (a : Cf) (n : Int) : (⟨#[35, 32, 120, 10, 10, 32, 32, 98, 117, 100, 103, 101, 116, 32, 32, 55, 10]⟩ : ByteArray) ++ mkS (showT a) ++ ⟨#[32, 32, 32, 10, 32, 98, 117, 100, 103, 101, 116, 32]⟩ ++ itoaS n ++ ⟨#[32, 32]⟩ = mkS (preT ++ showT a ++ postT n) := by
  apply ByteArray.ext
  unfold mkS itoaS mkS preT postT
  simp
set_option maxHeartbeats 8000000 in
theorem confLast_walk (X : List Ro) (Y : List Ru) (Z : List Fo) (o0 : Option Addr) (n0 c0 : Nat) (o1 : Option Addr) (n1 c1 : Nat) (ou : Int) (pu : Nat) (lo hi : Int) (o6 : Option Addr) (n6 c6 : Nat) (tc ot bu : Int) (bn : Nat) (w : World)
    (hX : X.length = n0) (hY : Y.length = n1) (hZ : Z.length = n6) (h0 : RosAt w o0 X) (h1 : RusAt w o1 Y) (h6 : FosAt w o6 Z) (l0 : n0 ≤ c0) (l1 : n1 ≤ c1) (l6 : n6 ≤ c6) (hE : Env w) (hty : tyC ⟨X, Y, ou, pu, lo, hi, Z, tc, ot, bu⟩) (hbn : bn ≤ 255) :
    Calls Tryz.prog 4 #[.agg #[.slice o0 n0 c0, .slice o1 n1 c1, .int .i64 ou, .int .u32 pu, .int .i64 lo, .int .i64 hi, .slice o6 n6 c6, .int .i64 tc, .int .i64 ot, .int .i64 bu], .int .u8 (bn : Int)] w fun e w' => e = .returned (.bool true) ∧ Junk w w' := by
  have HE := Lib.hid (fun w1 (hj : Junk w w1) => hE.junk hj)
  have HAW := Lib.hid (fun w1 (hj : Junk w w1) => awake15_any w1 (hE.junk hj))
  have HSH := Lib.hid (fun w1 => short_any o0 n0 c0 o1 n1 c1 ou pu lo hi o6 n6 c6 tc ot bu w1)
  by_cases hs : n0 ≤ 80 ∧ n1 ≤ 80 ∧ n6 ≤ 50
  case neg =>
    rw [decide_eq_false hs] at HSH
    clear hE hty h0 h1 h6 hX hY hZ hs
    go_enter Tryz.func4, Tryz.ntmps4
    go_wp2_with (first | (go_at_call 5; (with_reducible refine (HAW.out _ (by (exact jkc))).mono ?_); rintro e w' ⟨rfl, ⟨osj, dj, rfl⟩⟩) | (go_at_call 6; (with_reducible refine (HSH.out _).mono ?_); rintro e w' ⟨rfl, ⟨osj, dj, rfl⟩⟩))
    go_ret
    exact ⟨rfl, by (exact jkc)⟩
  rw [decide_eq_true hs] at HSH
  have hC : CfIn w ⟨X, Y, ou, pu, lo, hi, Z, tc, ot, bu⟩ o0 c0 o1 c1 o6 c6 := ⟨h0, h1, h6, by simp only; omega, by simp only; omega, by simp only; omega⟩
  have hCN : CfIn w ⟨X, Y, ou, pu, lo, hi, Z, tc, ot, (bn : Int)⟩ o0 c0 o1 c1 o6 c6 := ⟨h0, h1, h6, by simp only; omega, by simp only; omega, by simp only; omega⟩
  have HC := Lib.hid (fun w1 (hj : Junk w w1) => hC.on hj)
  have HCN := Lib.hid (fun w1 (hj : Junk w w1) => hCN.on hj)
  have HX := Lib.hid hX
  have HY := Lib.hid hY
  have HZ := Lib.hid hZ
  have HTY := Lib.hid hty
  clear hE hty h0 h1 h6 hX hY hZ hs hC hCN
  by_cases hr : rightC ⟨X, Y, ou, pu, lo, hi, Z, tc, ot, bu⟩
  case neg =>
    have HSB := Lib.hid (fun w1 (hj : Junk w w1) => show_bad X Y Z o0 n0 c0 o1 n1 c1 ou pu lo hi o6 n6 c6 tc ot bu w1 HX.out HY.out HZ.out (HC.out w1 hj) hr)
    go_enter Tryz.func4, Tryz.ntmps4
    go_wp2_with (first | (go_at_call 5; (with_reducible refine (HAW.out _ (by (exact jkc))).mono ?_); rintro e w' ⟨rfl, ⟨osj, dj, rfl⟩⟩) | (go_at_call 6; (with_reducible refine (HSH.out _).mono ?_); rintro e w' ⟨rfl, ⟨osj, dj, rfl⟩⟩) | (go_at_call 7; (with_reducible refine (HSB.out _ (by (exact jkc))).mono ?_); rintro e w' ⟨rfl, ⟨osj, dj, rfl⟩⟩))
    go_ret
    exact ⟨rfl, by (exact jkc)⟩
  have hlen := show_len _ hr HTY.out
  have hcat := cat_last ⟨X, Y, ou, pu, lo, hi, Z, tc, ot, bu⟩ (bn : Int)
  have hrl := reads_last ⟨X, Y, ou, pu, lo, hi, Z, tc, ot, bu⟩ (bn : Int) hr HTY.out (by omega)
  rw [← hcat] at hrl
  have hN : (itoaS (bn : Int)).size ≤ 20 := by unfold itoaS; rw [mkS_size]; exact itoa_len _ 18 (by omega)
  have hS : (mkS (showT ⟨X, Y, ou, pu, lo, hi, Z, tc, ot, bu⟩)).size ≤ 60000 := by rw [mkS_size]; exact hlen
  have HSG := Lib.hid (fun w1 (hj : Junk w w1) => show_good X Y Z o0 n0 c0 o1 n1 c1 ou pu lo hi o6 n6 c6 tc ot bu w1 HX.out HY.out HZ.out (HC.out w1 hj) (HE.out w1 hj) hr HTY.out)
  have HNU := Lib.hid (fun w1 => num_any15 bn (by omega) w1)
  have hrn : rightC ⟨X, Y, ou, pu, lo, hi, Z, tc, ot, (bn : Int)⟩ := right_bud ⟨X, Y, ou, pu, lo, hi, Z, tc, ot, bu⟩ (bn : Int) hr (by omega)
  have HPG := Lib.hid (fun w1 (hj : Junk w w1) (hs : ((⟨#[35, 32, 120, 10, 10, 32, 32, 98, 117, 100, 103, 101, 116, 32, 32, 55, 10]⟩ : ByteArray) ++ mkS (showT ⟨X, Y, ou, pu, lo, hi, Z, tc, ot, bu⟩) ++ ⟨#[32, 32, 32, 10, 32, 98, 117, 100, 103, 101, 116, 32]⟩ ++ itoaS (bn : Int) ++ ⟨#[32, 32]⟩).size ≤ 1000000) => parse_good X Y Z n0 n1 n6 ou pu lo hi tc ot (bn : Int) w1 HX.out HY.out HZ.out (HE.out w1 hj) _ hs hrl hrn)
  generalize mkS (showT ⟨X, Y, ou, pu, lo, hi, Z, tc, ot, bu⟩) = S at HSG HPG hS
  generalize itoaS (bn : Int) = N at HNU HPG hN
  have z1 : ¬ 9223372036854775807 < 17 + S.size := by omega
  have z2 : ¬ 9223372036854775807 < 17 + S.size + 12 := by omega
  have z3 : ¬ 9223372036854775807 < 17 + S.size + 12 + N.size := by omega
  have z4 : ¬ 9223372036854775807 < 17 + S.size + 12 + N.size + 2 := by omega
  have HPN := Lib.hid (fun w1 (hj : Junk w w1) => HPG.out w1 hj (by simp only [ByteArray.size_append]; show 17 + S.size + 12 + N.size + 2 ≤ 1000000; omega))
  clear hcat hrl hlen HPG hr hrn
  go_enter Tryz.func4, Tryz.ntmps4
  go_upto_region 5 with (first
    | (go_at_call 5; (with_reducible refine (HAW.out _ (by (exact jkc))).mono ?_); rintro e w' ⟨rfl, ⟨osA, dA, rfl⟩⟩)
    | (go_at_call 6; (with_reducible refine (HSH.out _).mono ?_); rintro e w' ⟨rfl, ⟨osB, dB, rfl⟩⟩))
  have hj1 : Junk w ((w.alloc (.cells #[.slice o0 n0 c0, .slice o1 n1 c1, .int .i64 ou, .int .u32 pu, .int .i64 lo, .int .i64 hi, .slice o6 n6 c6, .int .i64 tc, .int .i64 ot, .int .i64 bu] 27)).junk (osA ++ osB) dB) := by (exact jkc)
  have hb1 : Box ((w.alloc (.cells #[.slice o0 n0 c0, .slice o1 n1 c1, .int .i64 ou, .int .u32 pu, .int .i64 lo, .int .i64 hi, .slice o6 n6 c6, .int .i64 tc, .int .i64 ot, .int .i64 bu] 27)).junk (osA ++ osB) dB) w.heap.size 27 (#[.slice o0 n0 c0, .slice o1 n1 c1, .int .i64 ou, .int .u32 pu, .int .i64 lo, .int .i64 hi, .slice o6 n6 c6, .int .i64 tc, .int .i64 ot, .int .i64 bu]).toList := Box.on (box_new w #[.slice o0 n0 c0, .slice o1 n1 c1, .int .i64 ou, .int .u32 pu, .int .i64 lo, .int .i64 hi, .slice o6 n6 c6, .int .i64 tc, .int .i64 ot, .int .i64 bu] 27) ⟨_, _, rfl⟩
  generalize ((w.alloc (.cells #[.slice o0 n0 c0, .slice o1 n1 c1, .int .i64 ou, .int .u32 pu, .int .i64 lo, .int .i64 hi, .slice o6 n6 c6, .int .i64 tc, .int .i64 ot, .int .i64 bu] 27)).junk (osA ++ osB) dB) = V at hj1 hb1 ⊢
  have HBX := Lib.hid (fun w1 (hj : Junk V w1) => hb1.on hj)
  have r0 := hb1.cell (j := 0) rfl
  have r1 := hb1.cell (j := 1) rfl
  have r2 := hb1.cell (j := 2) rfl
  have r3 := hb1.cell (j := 3) rfl
  have r4 := hb1.cell (j := 4) rfl
  have r5 := hb1.cell (j := 5) rfl
  have r6 := hb1.cell (j := 6) rfl
  have r7 := hb1.cell (j := 7) rfl
  have r8 := hb1.cell (j := 8) rfl
  have r9 := hb1.cell (j := 9) rfl
  have hla := hb1.lt
  have HJ1 := Lib.hid hj1
  clear hb1 hj1
  go_upto_region 9 with (first
    | (go_at_call 7; (with_reducible refine (HSG.out _ (HJ1.out.trans (by (exact jkc)))).mono ?_); rintro e w' ⟨rfl, ⟨osC, dC, rfl⟩⟩)
    | (go_at_call 11; (with_reducible refine (HNU.out _).mono ?_); rintro e w' ⟨rfl, ⟨osD, dD, rfl⟩⟩)
    | (go_at_call 8; refine (HPN.out _ (HJ1.out.trans (by (exact jkc)))).mono ?_; rintro e w1 ⟨p0, d0, p1, d1, p6, d6, rfl, hc1, hj1⟩; have HC1 := Lib.hid hc1; have HJ2 := Lib.hid (show Junk V w1 from Junk.trans (by (exact jkc)) hj1); clear hc1 hj1))
  have hj4 : Junk V (w1.alloc (.cells #[.slice p0 n0 d0, .slice p1 n1 d1, .int .i64 ou, .int .u32 pu, .int .i64 lo, .int .i64 hi, .slice p6 n6 d6, .int .i64 tc, .int .i64 ot, .int .i64 (bn : Int)] 27)) := HJ2.out.alloc _
  have hcp := HC1.out.on (show Junk w1 (w1.alloc (.cells #[.slice p0 n0 d0, .slice p1 n1 d1, .int .i64 ou, .int .u32 pu, .int .i64 lo, .int .i64 hi, .slice p6 n6 d6, .int .i64 tc, .int .i64 ot, .int .i64 (bn : Int)] 27)) from (Junk.refl w1).alloc _)
  have hbp : Box (w1.alloc (.cells #[.slice p0 n0 d0, .slice p1 n1 d1, .int .i64 ou, .int .u32 pu, .int .i64 lo, .int .i64 hi, .slice p6 n6 d6, .int .i64 tc, .int .i64 ot, .int .i64 (bn : Int)] 27)) w1.heap.size 27 (#[.slice p0 n0 d0, .slice p1 n1 d1, .int .i64 ou, .int .u32 pu, .int .i64 lo, .int .i64 hi, .slice p6 n6 d6, .int .i64 tc, .int .i64 ot, .int .i64 (bn : Int)]).toList := box_new w1 #[.slice p0 n0 d0, .slice p1 n1 d1, .int .i64 ou, .int .u32 pu, .int .i64 lo, .int .i64 hi, .slice p6 n6 d6, .int .i64 tc, .int .i64 ot, .int .i64 (bn : Int)] 27
  have hap : w.heap.size ≠ w1.heap.size := by have := HJ2.out.size; omega
  generalize (w1.alloc (.cells #[.slice p0 n0 d0, .slice p1 n1 d1, .int .i64 ou, .int .u32 pu, .int .i64 lo, .int .i64 hi, .slice p6 n6 d6, .int .i64 tc, .int .i64 ot, .int .i64 (bn : Int)] 27)) = V2 at hj4 hcp hbp ⊢
  generalize w1.heap.size = ap at hbp hap ⊢
  have hb2 := HBX.out _ hj4
  have hcp2 := in_set hb2 hcp 9 (.int .i64 (bn : Int))
  have hj5 : Junk w (V2.setCell ⟨w.heap.size, 9, none⟩ (.int .i64 (bn : Int))) := Junk.of_below (((HJ1.out.trans hj4).below (Nat.le_refl _)).setCell (p := ⟨w.heap.size, 9, none⟩) (Nat.le_refl _) _)
  have hb3 := hb2.set 9 (.int .i64 (bn : Int))
  have hbq := hbp.far (a := ⟨w.heap.size, 9, none⟩) hap (.int .i64 (bn : Int))
  have HV := Lib.hid (show Box (V2.setCell ⟨w.heap.size, 9, none⟩ (.int .i64 (bn : Int))) w.heap.size 27 (#[.slice o0 n0 c0, .slice o1 n1 c1, .int .i64 ou, .int .u32 pu, .int .i64 lo, .int .i64 hi, .slice o6 n6 c6, .int .i64 tc, .int .i64 ot, .int .i64 (bn : Int)] : Array Value).toList from hb3)
  have s9 := hb2.cell (j := 9) rfl
  have sf := hb2.frozen
  have HSA := Lib.hid (same_any X Y Z o0 n0 c0 o1 n1 c1 ou pu lo hi o6 n6 c6 tc ot (bn : Int) p0 p1 p6 d0 d1 d6 (V2.setCell ⟨w.heap.size, 9, none⟩ (.int .i64 (bn : Int))) HX.out HY.out HZ.out (HCN.out _ hj5) hcp2)
  have HJ5 := Lib.hid hj5
  have HBQ := Lib.hid hbq
  clear hj4 hcp hbp hb2 hcp2 hj5 hb3 hbq HC1 HJ2
  go_upto_region 10 with (fail)
  generalize (V2.setCell ⟨w.heap.size, 9, none⟩ (.int .i64 (bn : Int))) = V3 at HSA HJ5 HBQ HV ⊢
  have t0 := HV.out.cell (j := 0) rfl
  have t1 := HV.out.cell (j := 1) rfl
  have t2 := HV.out.cell (j := 2) rfl
  have t3 := HV.out.cell (j := 3) rfl
  have t4 := HV.out.cell (j := 4) rfl
  have t5 := HV.out.cell (j := 5) rfl
  have t6 := HV.out.cell (j := 6) rfl
  have t7 := HV.out.cell (j := 7) rfl
  have t8 := HV.out.cell (j := 8) rfl
  have t9 := HV.out.cell (j := 9) rfl
  have u0 := HBQ.out.cell (j := 0) rfl
  have u1 := HBQ.out.cell (j := 1) rfl
  have u2 := HBQ.out.cell (j := 2) rfl
  have u3 := HBQ.out.cell (j := 3) rfl
  have u4 := HBQ.out.cell (j := 4) rfl
  have u5 := HBQ.out.cell (j := 5) rfl
  have u6 := HBQ.out.cell (j := 6) rfl
  have u7 := HBQ.out.cell (j := 7) rfl
  have u8 := HBQ.out.cell (j := 8) rfl
  have u9 := HBQ.out.cell (j := 9) rfl
  have tl := HV.out.lt
  have ul := HBQ.out.lt
  go_wp2_with (go_at_call 9; (with_reducible refine HSA.out.mono ?_); rintro e w' ⟨rfl, ⟨osF, dF, rfl⟩⟩)
  go_ret
  exact ⟨rfl, HJ5.out.trans (by (exact jkc))⟩
end Go.Proofs.YtcnhlbkdhhjmiaaGreatDoor
