/- The line rule. -/
import Derived.Test.YtcnhlbkdhhjmiaaGreatDoorCfH
set_option linter.unusedVariables false
set_option maxRecDepth 100000
set_option linter.unusedSimpArgs false
namespace Go.Proofs.YtcnhlbkdhhjmiaaGreatDoor
open Go.RowKit
variable {L L' : Nat → Prop} {w w' w'' : World}
theorem ShortW.drop {ws : List ByteArray} (h : ShortW ws) (k : Nat) : ShortW (ws.drop k) := fun x hx => h x (List.mem_of_mem_drop hx)
theorem cf_rules {c B R : Nat} {f : Cf} {o0 o1 o6 oz : Option Addr} {c0 c1 c6 cz : Nat} {x : Ru} {Wb w9 : World} (hge : 8 ≤ c) (hlt : c < B) (hR : R ≤ w9.heap.size) (hO : CfOwn Wb B R f o0 c0 o1 c1 o6 c6) (hg : Wb.grownBy w9 (rowOf o1))
    (hb : Box w9 c 27 (cfVals f o0 c0 o1 c1 o6 c6)) (hx : Own B w9 54 10 oz cz (f.rules.length + 1) (rusL f.rules ++ x.cells)) :
    CfAt (w9.setCell ⟨c, 1, none⟩ (.slice oz (f.rules.length + 1) cz)) c B w9.heap.size { f with rules := f.rules ++ [x] } := by
  have hs : (w9.setCell ⟨c, 1, none⟩ (.slice oz (f.rules.length + 1) cz)).heap.size = w9.heap.size := by simp [World.setCell]
  have hnew : Own B (w9.setCell ⟨c, 1, none⟩ (.slice oz (f.rules.length + 1) cz)) 54 10 oz cz (f.rules ++ [x]).length (rusL (f.rules ++ [x])) := by
    have := own_set hx hlt 1 (.slice oz (f.rules.length + 1) cz)
    simpa [rusL] using this
  refine ⟨hge, hlt, o0, c0, oz, cz, o6, c6, ?_, ?_⟩
  · have := hb.set 1 (.slice oz (f.rules.length + 1) cz)
    simpa [cfVals] using this
  · exact ⟨own_set (own_kept hO.r0 hO.r1 (by decide) hg) hlt _ _, hnew, own_set (own_kept hO.r6 hO.r1 (by decide) hg) hlt _ _, fun g hg1 => by have := hO.b0 g hg1; omega, own_lt hx, fun g hg1 => by have := hO.b6 g hg1; omega⟩
set_option maxHeartbeats 8000000 in
theorem rule_m (r c B R : Nat) (ws : List ByteArray) (f : Cf) (h : LinePre w r c B R ws f) (hlen : f.rules.length ≤ 1000) :
    Calls Tryz.prog 36 #[.pointer (some ⟨r, 0, none⟩), .pointer (some ⟨c, 0, none⟩)] w fun e w' => e = .returned (.tuple #[]) ∧ Tch (LC c B) w w' ∧ LineR (lineW f wRule (w8s ws)) r c B R w' := by
  have HP := Lib.hid h
  have hc : c < R := by have := h.cf.lt; have := h.hR; omega
  have hcr : c ≠ r := by have := h.row.kr; omega
  obtain ⟨N, hN⟩ : ∃ N, N = w.heap.size := ⟨_, rfl⟩
  have hrN : r < N := by rw [hN]; exact h.row.lt
  have hNr : N ≠ r := by omega
  have hRr : R ≤ r := h.row.kr
  have HE := Lib.hid (fun (w1 : World) (t : Tch (LX r N) w w1) => h.env.on t (fun k hk => by have := h.row.ge; rcases hk with rfl | hk <;> omega))
  have HSD := Lib.hid (fun k => h.short.drop k)
  obtain ⟨o0, c0, o1, c1, o6, c6, hb, ho⟩ := h.cf.box
  have hj0 : Junk w (w.alloc (.cells #[.int .i64 0, .int .i64 0, .int .i64 0, .int .u32 0, .int .u32 0, .int .i64 0, .int .i64 0, .int .i64 0, .int .i64 0, .int .i64 0] 54)) := (Junk.refl w).alloc _
  have hbx := box_new w #[.int .i64 0, .int .i64 0, .int .i64 0, .int .u32 0, .int .u32 0, .int .i64 0, .int .i64 0, .int .i64 0, .int .i64 0, .int .i64 0] 54
  rw [← hN] at hbx
  have HT0 := Lib.hid (show Tch (LX r N) w (w.alloc (.cells #[.int .i64 0, .int .i64 0, .int .i64 0, .int .u32 0, .int .u32 0, .int .i64 0, .int .i64 0, .int .i64 0, .int .i64 0, .int .i64 0] 54)) from Tch.of_junk hj0)
  have HR0 := Lib.hid (show RowAt (w.alloc (.cells #[.int .i64 0, .int .i64 0, .int .i64 0, .int .u32 0, .int .u32 0, .int .i64 0, .int .i64 0, .int .i64 0, .int .i64 0, .int .i64 0] 54)) R r (ws.drop 0) false from h.row.on hj0)
  have HB0 := Lib.hid (hb.on hj0)
  have HBX := Lib.hid hbx
  have HO := Lib.hid ho
  have HNN := Lib.hid hN
  have HLEN := Lib.hid hlen
  have hNN : N ≤ N := Nat.le_refl _
  clear h hb ho hj0 hbx hlen
  go_enter Tryz.func36, Tryz.ntmps36
  go_upto_region 1 with (fail)
  rw [← hN]
  clear hN
  generalize w.alloc (.cells #[.int .i64 0, .int .i64 0, .int .i64 0, .int .u32 0, .int .u32 0, .int .i64 0, .int .i64 0, .int .i64 0, .int .i64 0, .int .i64 0] 54) = w0 at *
  go_upto_region 2 with (go_at_call 57; (refine (num_any (HE.out _ HT0.out) r (ws.drop 0) _ (HSD.out 0) HR0.out).mono ?_; rintro e w_0 ⟨x0, rfl, hv, hn2, hR, hT⟩); rw [tail_drop] at hR; have hB := box_row HBX.out hT hNr; have p0 := hB.lt; have p1 := hB.frozen; have p3 := hB.cell (j := 0) rfl; have HC1 := Lib.hid ((box_row HB0.out hT hcr).far (a := ⟨N, 0, none⟩) (by show N ≠ c; omega) (.int .i64 x0)); have HR1 := Lib.hid (hR.setX hrN 0 (.int .i64 x0)); have HT1 := Lib.hid ((HT0.out.trans (LX.r hT)).setX hNN 0 (.int .i64 x0)); have HB1 := Lib.hid (hB.set 0 (.int .i64 x0)); have HV1 := Lib.hid hv; clear hR hT hB hv)
  generalize (w_0.setCell ⟨N, 0, none⟩ (.int .i64 x0)) = V1 at *
  clear p0 p1 p3 hn2
  go_upto_region 3 with (go_at_call 57; (refine (num_any (HE.out _ HT1.out) r (ws.drop 1) _ (HSD.out 1) HR1.out).mono ?_; rintro e w_1 ⟨x1, rfl, hv, hn2, hR, hT⟩); rw [tail_drop] at hR; have hB := box_row HB1.out hT hNr; have p0 := hB.lt; have p1 := hB.frozen; have p4 := hB.cell (j := 1) rfl; have HC2 := Lib.hid ((box_row HC1.out hT hcr).far (a := ⟨N, 1, none⟩) (by show N ≠ c; omega) (.int .i64 x1)); have HR2 := Lib.hid (hR.setX hrN 1 (.int .i64 x1)); have HT2 := Lib.hid ((HT1.out.trans (LX.r hT)).setX hNN 1 (.int .i64 x1)); have HB2 := Lib.hid (hB.set 1 (.int .i64 x1)); have HV2 := Lib.hid hv; clear hR hT hB hv)
  generalize (w_1.setCell ⟨N, 1, none⟩ (.int .i64 x1)) = V2 at *
  clear p0 p1 p4 hn2
  go_upto_region 4 with (go_at_call 57; (refine (num_any (HE.out _ HT2.out) r (ws.drop 2) _ (HSD.out 2) HR2.out).mono ?_; rintro e w_2 ⟨x2, rfl, hv, hn2, hR, hT⟩); rw [tail_drop] at hR; have hB := box_row HB2.out hT hNr; have p0 := hB.lt; have p1 := hB.frozen; have p5 := hB.cell (j := 2) rfl; have HC3 := Lib.hid ((box_row HC2.out hT hcr).far (a := ⟨N, 2, none⟩) (by show N ≠ c; omega) (.int .i64 x2)); have HR3 := Lib.hid (hR.setX hrN 2 (.int .i64 x2)); have HT3 := Lib.hid ((HT2.out.trans (LX.r hT)).setX hNN 2 (.int .i64 x2)); have HB3 := Lib.hid (hB.set 2 (.int .i64 x2)); have HV3 := Lib.hid hv; clear hR hT hB hv)
  generalize (w_2.setCell ⟨N, 2, none⟩ (.int .i64 x2)) = V3 at *
  clear p0 p1 p5 hn2
  go_upto_region 5 with (go_at_call 56; (refine (net_any (HE.out _ HT3.out) r (ws.drop 3) _ (HSD.out 3) HR3.out).mono ?_; rintro e w_3 ⟨x3, x5, rfl, hv, hn2, hR, hT⟩); rw [tail_drop] at hR; have hB := box_row HB3.out hT hNr; have p0 := hB.lt; have p1 := hB.frozen; have p6 := hB.cell (j := 3) rfl; have p8 := hB.cell (j := 5) rfl; have HC4 := Lib.hid (((box_row HC3.out hT hcr).far (a := ⟨N, 3, none⟩) (by show N ≠ c; omega) (.int .u32 x3)).far (a := ⟨N, 5, none⟩) (by show N ≠ c; omega) (.int .i64 x5)); have HR4 := Lib.hid ((hR.setX hrN 3 (.int .u32 x3)).setX hrN 5 (.int .i64 x5)); have HT4 := Lib.hid (((HT3.out.trans (LX.r hT)).setX hNN 3 (.int .u32 x3)).setX hNN 5 (.int .i64 x5)); have HB4 := Lib.hid ((hB.set 3 (.int .u32 x3)).set 5 (.int .i64 x5)); have HV4 := Lib.hid hv; clear hR hT hB hv)
  generalize ((w_3.setCell ⟨N, 3, none⟩ (.int .u32 x3)).setCell ⟨N, 5, none⟩ (.int .i64 x5)) = V4 at *
  clear p0 p1 p6 p8 hn2
  go_upto_region 6 with (go_at_call 56; (refine (net_any (HE.out _ HT4.out) r (ws.drop 4) _ (HSD.out 4) HR4.out).mono ?_; rintro e w_4 ⟨x4, x6, rfl, hv, hn2, hR, hT⟩); rw [tail_drop] at hR; have hB := box_row HB4.out hT hNr; have p0 := hB.lt; have p1 := hB.frozen; have p7 := hB.cell (j := 4) rfl; have p9 := hB.cell (j := 6) rfl; have HC5 := Lib.hid (((box_row HC4.out hT hcr).far (a := ⟨N, 4, none⟩) (by show N ≠ c; omega) (.int .u32 x4)).far (a := ⟨N, 6, none⟩) (by show N ≠ c; omega) (.int .i64 x6)); have HR5 := Lib.hid ((hR.setX hrN 4 (.int .u32 x4)).setX hrN 6 (.int .i64 x6)); have HT5 := Lib.hid (((HT4.out.trans (LX.r hT)).setX hNN 4 (.int .u32 x4)).setX hNN 6 (.int .i64 x6)); have HB5 := Lib.hid ((hB.set 4 (.int .u32 x4)).set 6 (.int .i64 x6)); have HV5 := Lib.hid hv; clear hR hT hB hv)
  generalize ((w_4.setCell ⟨N, 4, none⟩ (.int .u32 x4)).setCell ⟨N, 6, none⟩ (.int .i64 x6)) = V5 at *
  clear p0 p1 p7 p9 hn2
  go_upto_region 7 with (go_at_call 57; (refine (num_any (HE.out _ HT5.out) r (ws.drop 5) _ (HSD.out 5) HR5.out).mono ?_; rintro e w_5 ⟨x7, rfl, hv, hn2, hR, hT⟩); rw [tail_drop] at hR; have hB := box_row HB5.out hT hNr; have p0 := hB.lt; have p1 := hB.frozen; have p10 := hB.cell (j := 7) rfl; have HC6 := Lib.hid ((box_row HC5.out hT hcr).far (a := ⟨N, 7, none⟩) (by show N ≠ c; omega) (.int .i64 x7)); have HR6 := Lib.hid (hR.setX hrN 7 (.int .i64 x7)); have HT6 := Lib.hid ((HT5.out.trans (LX.r hT)).setX hNN 7 (.int .i64 x7)); have HB6 := Lib.hid (hB.set 7 (.int .i64 x7)); have HV6 := Lib.hid hv; clear hR hT hB hv)
  generalize (w_5.setCell ⟨N, 7, none⟩ (.int .i64 x7)) = V6 at *
  clear p0 p1 p10 hn2
  go_upto_region 8 with (go_at_call 57; (refine (num_any (HE.out _ HT6.out) r (ws.drop 6) _ (HSD.out 6) HR6.out).mono ?_; rintro e w_6 ⟨x8, rfl, hv, hn2, hR, hT⟩); rw [tail_drop] at hR; have hB := box_row HB6.out hT hNr; have p0 := hB.lt; have p1 := hB.frozen; have p11 := hB.cell (j := 8) rfl; have HC7 := Lib.hid ((box_row HC6.out hT hcr).far (a := ⟨N, 8, none⟩) (by show N ≠ c; omega) (.int .i64 x8)); have HR7 := Lib.hid (hR.setX hrN 8 (.int .i64 x8)); have HT7 := Lib.hid ((HT6.out.trans (LX.r hT)).setX hNN 8 (.int .i64 x8)); have HB7 := Lib.hid (hB.set 8 (.int .i64 x8)); have HV7 := Lib.hid hv; clear hR hT hB hv)
  generalize (w_6.setCell ⟨N, 8, none⟩ (.int .i64 x8)) = V7 at *
  clear p0 p1 p11 hn2
  go_upto_region 9 with (go_at_call 58; (refine (action_any r (ws.drop 7) _ HR7.out).mono ?_; rintro e w_7 ⟨x9, rfl, hv, hn2, hR, hT⟩); rw [tail_drop] at hR; have hB := box_row HB7.out hT hNr; have p0 := hB.lt; have p1 := hB.frozen; have p12 := hB.cell (j := 9) rfl; have HC8 := Lib.hid ((box_row HC7.out hT hcr).far (a := ⟨N, 9, none⟩) (by show N ≠ c; omega) (.int .i64 x9)); have HR8 := Lib.hid (hR.setX hrN 9 (.int .i64 x9)); have HT8 := Lib.hid ((HT7.out.trans (LX.r hT)).setX hNN 9 (.int .i64 x9)); have HB8 := Lib.hid (hB.set 9 (.int .i64 x9)); have HV8 := Lib.hid hv; clear hR hT hB hv)
  generalize (w_7.setCell ⟨N, 9, none⟩ (.int .i64 x9)) = V8 at *
  clear p0 p1 p12 hn2
  have HO3 := Lib.hid (HO.out.tch HT8.out (fun k h1 h2 e => by have := HP.out.row.kr; rcases e with e | e <;> omega))
  have HF := Lib.hid (show TwoB c N 54 (cfVals f o0 c0 o1 c1 o6 c6) [.int .i64 x0, .int .i64 x1, .int .i64 x2, .int .u32 x3, .int .u32 x4, .int .i64 x5, .int .i64 x6, .int .i64 x7, .int .i64 x8, .int .i64 x9] V8 from ⟨HC8.out, HB8.out⟩)
  have HBV := Lib.hid (show B ≤ V8.heap.size from by have := HT8.out.size; have := HNN.out; have := HP.out.hR; omega)
  have hBR := HP.out.hR
  have HC0 := Lib.hid (row_ne HO3.out.r1 (g := c) (.inl HP.out.cf.lt) HO3.out.b1)
  have HX0 := Lib.hid (row_ne HO3.out.r1 (g := N) (.inr (show R ≤ N by omega)) HO3.out.b1)
  haveI hne : Nonempty (PW (TwoB c N 54 (cfVals f o0 c0 o1 c1 o6 c6) [.int .i64 x0, .int .i64 x1, .int .i64 x2, .int .u32 x3, .int .u32 x4, .int .i64 x5, .int .i64 x6, .int .i64 x7, .int .i64 x8, .int .i64 x9])) := ⟨⟨V8, HF.out⟩⟩
  have k0 : ∀ x : PW (TwoB c N 54 (cfVals f o0 c0 o1 c1 o6 c6) [.int .i64 x0, .int .i64 x1, .int .i64 x2, .int .u32 x3, .int .u32 x4, .int .i64 x5, .int .i64 x6, .int .i64 x7, .int .i64 x8, .int .i64 x9]), x.V.cell? ⟨c, 1, none⟩ = some (.slice o1 f.rules.length c1) := fun x => x.h.1.cell rfl
  have y0 : ∀ x : PW (TwoB c N 54 (cfVals f o0 c0 o1 c1 o6 c6) [.int .i64 x0, .int .i64 x1, .int .i64 x2, .int .u32 x3, .int .u32 x4, .int .i64 x5, .int .i64 x6, .int .i64 x7, .int .i64 x8, .int .i64 x9]), x.V.cell? ⟨N, 0, none⟩ = some (.int .i64 x0) := fun x => x.h.2.cell rfl
  have y1 : ∀ x : PW (TwoB c N 54 (cfVals f o0 c0 o1 c1 o6 c6) [.int .i64 x0, .int .i64 x1, .int .i64 x2, .int .u32 x3, .int .u32 x4, .int .i64 x5, .int .i64 x6, .int .i64 x7, .int .i64 x8, .int .i64 x9]), x.V.cell? ⟨N, 1, none⟩ = some (.int .i64 x1) := fun x => x.h.2.cell rfl
  have y2 : ∀ x : PW (TwoB c N 54 (cfVals f o0 c0 o1 c1 o6 c6) [.int .i64 x0, .int .i64 x1, .int .i64 x2, .int .u32 x3, .int .u32 x4, .int .i64 x5, .int .i64 x6, .int .i64 x7, .int .i64 x8, .int .i64 x9]), x.V.cell? ⟨N, 2, none⟩ = some (.int .i64 x2) := fun x => x.h.2.cell rfl
  have y3 : ∀ x : PW (TwoB c N 54 (cfVals f o0 c0 o1 c1 o6 c6) [.int .i64 x0, .int .i64 x1, .int .i64 x2, .int .u32 x3, .int .u32 x4, .int .i64 x5, .int .i64 x6, .int .i64 x7, .int .i64 x8, .int .i64 x9]), x.V.cell? ⟨N, 3, none⟩ = some (.int .u32 x3) := fun x => x.h.2.cell rfl
  have y4 : ∀ x : PW (TwoB c N 54 (cfVals f o0 c0 o1 c1 o6 c6) [.int .i64 x0, .int .i64 x1, .int .i64 x2, .int .u32 x3, .int .u32 x4, .int .i64 x5, .int .i64 x6, .int .i64 x7, .int .i64 x8, .int .i64 x9]), x.V.cell? ⟨N, 4, none⟩ = some (.int .u32 x4) := fun x => x.h.2.cell rfl
  have y5 : ∀ x : PW (TwoB c N 54 (cfVals f o0 c0 o1 c1 o6 c6) [.int .i64 x0, .int .i64 x1, .int .i64 x2, .int .u32 x3, .int .u32 x4, .int .i64 x5, .int .i64 x6, .int .i64 x7, .int .i64 x8, .int .i64 x9]), x.V.cell? ⟨N, 5, none⟩ = some (.int .i64 x5) := fun x => x.h.2.cell rfl
  have y6 : ∀ x : PW (TwoB c N 54 (cfVals f o0 c0 o1 c1 o6 c6) [.int .i64 x0, .int .i64 x1, .int .i64 x2, .int .u32 x3, .int .u32 x4, .int .i64 x5, .int .i64 x6, .int .i64 x7, .int .i64 x8, .int .i64 x9]), x.V.cell? ⟨N, 6, none⟩ = some (.int .i64 x6) := fun x => x.h.2.cell rfl
  have y7 : ∀ x : PW (TwoB c N 54 (cfVals f o0 c0 o1 c1 o6 c6) [.int .i64 x0, .int .i64 x1, .int .i64 x2, .int .u32 x3, .int .u32 x4, .int .i64 x5, .int .i64 x6, .int .i64 x7, .int .i64 x8, .int .i64 x9]), x.V.cell? ⟨N, 7, none⟩ = some (.int .i64 x7) := fun x => x.h.2.cell rfl
  have y8 : ∀ x : PW (TwoB c N 54 (cfVals f o0 c0 o1 c1 o6 c6) [.int .i64 x0, .int .i64 x1, .int .i64 x2, .int .u32 x3, .int .u32 x4, .int .i64 x5, .int .i64 x6, .int .i64 x7, .int .i64 x8, .int .i64 x9]), x.V.cell? ⟨N, 8, none⟩ = some (.int .i64 x8) := fun x => x.h.2.cell rfl
  have y9 : ∀ x : PW (TwoB c N 54 (cfVals f o0 c0 o1 c1 o6 c6) [.int .i64 x0, .int .i64 x1, .int .i64 x2, .int .u32 x3, .int .u32 x4, .int .i64 x5, .int .i64 x6, .int .i64 x7, .int .i64 x8, .int .i64 x9]), x.V.cell? ⟨N, 9, none⟩ = some (.int .i64 x9) := fun x => x.h.2.cell rfl
  refine wp_region_mixq (TwoB c N 54 (cfVals f o0 c0 o1 c1 o6 c6) [.int .i64 x0, .int .i64 x1, .int .i64 x2, .int .u32 x3, .int .u32 x4, .int .i64 x5, .int .i64 x6, .int .i64 x7, .int .i64 x8, .int .i64 x9]) (fun _ _ h hj => h.on hj) 10 [(0, true), (1, true), (2, true), (3, true), (4, true), (5, true), (6, false), (7, false), (8, true), (9, true), (10, false)] (by kernel_rfl) (by kernel_rfl) (HF.out) ?_; (iterate 6 (refine wpMixL_q rfl (fun K hK => ?_); (go_simp; try go_bits); (refine hK _ ?_; clear hK K))); refine wpMixL_e rfl (fun osm9_0 dm9_0 K hK => ?_); (go_simp; try go_bits); refine hK _ _ (⟨⟨_, by first | exact HF9.out | exact HF.out.on (Junk.alloc ⟨_, _, rfl⟩ _)⟩, rfl⟩) ?_; clear hK K; refine wpMixL_e1 rfl rfl (fun osm9_1 dm9_1 K hK => ?_); (refine ap_gr_wp _ _ 23 rfl 54 (.agg #[.int .i64 0, .int .i64 0, .int .i64 0, .int .u32 0, .int .u32 0, .int .i64 0, .int .i64 0, .int .i64 0, .int .i64 0, .int .i64 0]) 10 72 (by kernel_rfl) rfl (by decide) Tryz.underlying23 B (Nat.le_trans HBV.out (Junk.size (by (exact jkc)))) o1 c1 f.rules.length (rusL f.rules) rfl (HO3.out.r1.on (by (exact jkc))) ⟨_, 0, none⟩ 1 1 rfl [.int .i64 x0, .int .i64 x1, .int .i64 x2, .int .u32 x3, .int .u32 x4, .int .i64 x5, .int .i64 x6, .int .i64 x7, .int .i64 x8, .int .i64 x9] rfl (built_cells_m (by simp) _ rfl) (by simp [Value.oneCell']) (by have := HLEN.out; simp only [maxLen]; omega) (by have := HLEN.out; omega) (by decide) ?_; intro oz cz w9 ho9 hg9 hz9; have HO9 := Lib.hid ho9; have HG9 := Lib.hid hg9; have HF9 := Lib.hid (TwoB.grown (hg := hg9) (h := HF.out.on (by (exact jkc))) HC0.out HX0.out); have t0 := HF9.out.1.lt; have t1 := HF9.out.1.frozen; have t2 := HF9.out.1.cell (j := 1) rfl; clear ho9 hg9 hz9); refine hK _ _ (⟨⟨_, by first | exact HF9.out | exact HF.out.on (Junk.alloc ⟨_, _, rfl⟩ _)⟩, rfl⟩) ?_; clear hK K; (iterate 2 (refine wpMixL_q rfl (fun K hK => ?_); (go_simp; try go_bits); (refine hK _ ?_; clear hK K))); refine wpMixL_last rfl (fun osm9_2 dm9_2 K hK => ?_); (go_simp; try go_bits); skip; refine hK _ _ ?_; clear hK K; refine wpMixL_nil (fun osm dm => ?_)
  go_returns
  obtain ⟨Wb, hWb⟩ : ∃ Wb, ((V8.junk osm9_0 dm9_0).alloc (.cells #[.int .i64 x0, .int .i64 x1, .int .i64 x2, .int .u32 x3, .int .u32 x4, .int .i64 x5, .int .i64 x6, .int .i64 x7, .int .i64 x8, .int .i64 x9] 54)).junk osm9_1 dm9_1 = Wb := ⟨_, rfl⟩
  have hjb : Junk V8 Wb := by rw [← hWb]; exact (Junk.alloc ⟨_, _, rfl⟩ _).junk _ _
  have hg9 := HG9.out
  rw [hWb] at hg9
  clear k0 y0 y1 y2 y3 y4 y5 y6 y7 y8 y9
  have hRw : R ≤ w9.heap.size := by have := HT8.out.size; have := HNN.out; have := hjb.size; have := hg9.size; omega
  have hRV : R ≤ V8.heap.size := by have := HT8.out.size; have := HNN.out; omega
  have hOb := HO3.out.tch (L := fun _ => False) (Tch.of_junk hjb) (fun _ _ _ e => e)
  refine ⟨rfl, ?_, ?_⟩
  · have t1 : Tch (LC c B) w V8 := LX.lc HT8.out (by omega) (by omega)
    have t2 : Tch (LC c B) V8 w9 := tch_grown hjb hg9 (fun k hk => .inr (row_lt hOb.r1 hOb.b1 k hk).1)
    exact ((t1.trans t2).set 1 (.slice oz (f.rules.length + 1) cz)).junk (by (exact jkc))
  · have hr9 := RowAt.far HR8.out (tch_grown (L := fun k => k < R) hjb hg9 (fun k hk => (row_lt hOb.r1 hOb.b1 k hk).2)) (fun k h1 h2 => by omega)
    refine ⟨_, _, (hr9.setC (B := B) hc 1 (.slice oz (f.rules.length + 1) cz)).on (by (exact jkc)), ?_⟩
    have hl : lineW f wRule (w8s ws) = (if ws.drop 8 = [] then (match numW (hdW (ws.drop 0)), numW (hdW (ws.drop 1)), numW (hdW (ws.drop 2)), netW (hdW (ws.drop 3)), netW (hdW (ws.drop 4)), numW (hdW (ws.drop 5)), numW (hdW (ws.drop 6)), actW (hdW (ws.drop 7)) with | some f0, some t, some p, some s, some d, some lo, some hi, some a => some { f with rules := f.rules ++ [⟨f0, t, p, s.1, d.1, s.2, d.2, lo, hi, a⟩] } | _, _, _, _, _, _, _, _ => none) else none) := by
      unfold lineW ruleW
      rw [if_neg (by decide), if_pos rfl, w8s_drop, w8s_get, w8s_get, w8s_get, w8s_get, w8s_get, w8s_get, w8s_get, w8s_get]
      simp only [w8s_nil]
      generalize hdW (ws.drop 0) = q0
      generalize hdW (ws.drop 1) = q1
      generalize hdW (ws.drop 2) = q2
      generalize hdW (ws.drop 3) = q3
      generalize hdW (ws.drop 4) = q4
      generalize hdW (ws.drop 5) = q5
      generalize hdW (ws.drop 6) = q6
      generalize hdW (ws.drop 7) = q7
      cases numW q0 with
      | none => rfl
      | some _ => cases numW q1 with
        | none => rfl
        | some _ => cases numW q2 with
          | none => rfl
          | some _ => cases netW q3 with
            | none => rfl
            | some _ => cases netW q4 with
              | none => rfl
              | some _ => cases numW q5 with
                | none => rfl
                | some _ => cases numW q6 with
                  | none => rfl
                  | some _ => cases actW q7 with
                    | none => rfl
                    | some _ => rfl
    rw [hl]
    by_cases hd : ws.drop 8 = []
    · rw [if_pos hd]
      cases h0 : numW (hdW (ws.drop 0)) with
      | none => exact .inl (by simp)
      | some z0 =>
        cases h1 : numW (hdW (ws.drop 1)) with
        | none => exact .inl (by simp)
        | some z1 =>
          cases h2 : numW (hdW (ws.drop 2)) with
          | none => exact .inl (by simp)
          | some z2 =>
            cases h3 : netW (hdW (ws.drop 3)) with
            | none => exact .inl (by simp)
            | some z3 =>
              cases h4 : netW (hdW (ws.drop 4)) with
              | none => exact .inl (by simp)
              | some z4 =>
                cases h5 : numW (hdW (ws.drop 5)) with
                | none => exact .inl (by simp)
                | some z7 =>
                  cases h6 : numW (hdW (ws.drop 6)) with
                  | none => exact .inl (by simp)
                  | some z8 =>
                    cases h7 : actW (hdW (ws.drop 7)) with
                    | none => exact .inl (by simp)
                    | some z9 =>
                      have e0 := HV1.out z0 h0
                      have e1 := HV2.out z1 h1
                      have e2 := HV3.out z2 h2
                      obtain ⟨e3, g3⟩ := HV4.out z3.1 z3.2 h3
                      obtain ⟨e4, g4⟩ := HV5.out z4.1 z4.2 h4
                      have e5 := HV6.out z7 h5
                      have e6 := HV7.out z8 h6
                      have e7 := HV8.out z9 h7
                      subst e0 e1 e2 e3 g3 e4 g4 e5 e6 e7
                      refine ⟨by simp, hd, w9.heap.size, hRw, ?_⟩
                      have hA := cf_rules (x := ⟨x0, x1, x2, z3.1, z4.1, z3.2, z4.2, x7, x8, x9⟩) HP.out.cf.ge HP.out.cf.lt hRw hOb hg9 HF9.out.1 HO9.out
                      exact hA.on (by (exact jkc)) (by omega)
    · rw [if_neg hd]
      exact .inr hd
end Go.Proofs.YtcnhlbkdhhjmiaaGreatDoor
