/- The line forward. -/
import Derived.Test.YtcnhlbkdhhjmiaaGreatDoorCfI
set_option linter.unusedVariables false
set_option maxRecDepth 100000
set_option linter.unusedSimpArgs false
namespace Go.Proofs.YtcnhlbkdhhjmiaaGreatDoor
open Go.RowKit
variable {L L' : Nat → Prop} {w w' w'' : World}
theorem cf_fwds {c B R : Nat} {f : Cf} {o0 o1 o6 oz : Option Addr} {c0 c1 c6 cz : Nat} {x : Fo} {Wb w9 : World} (hge : 8 ≤ c) (hlt : c < B) (hR : R ≤ w9.heap.size) (hO : CfOwn Wb B R f o0 c0 o1 c1 o6 c6) (hg : Wb.grownBy w9 (rowOf o6))
    (hb : Box w9 c 27 (cfVals f o0 c0 o1 c1 o6 c6)) (hx : Own B w9 40 5 oz cz (f.fwds.length + 1) (fosL f.fwds ++ x.cells)) :
    CfAt (w9.setCell ⟨c, 6, none⟩ (.slice oz (f.fwds.length + 1) cz)) c B w9.heap.size { f with fwds := f.fwds ++ [x] } := by
  have hs : (w9.setCell ⟨c, 6, none⟩ (.slice oz (f.fwds.length + 1) cz)).heap.size = w9.heap.size := by simp [World.setCell]
  have hnew : Own B (w9.setCell ⟨c, 6, none⟩ (.slice oz (f.fwds.length + 1) cz)) 40 5 oz cz (f.fwds ++ [x]).length (fosL (f.fwds ++ [x])) := by
    have := own_set hx hlt 6 (.slice oz (f.fwds.length + 1) cz)
    simpa [fosL] using this
  refine ⟨hge, hlt, o0, c0, o1, c1, oz, cz, ?_, ?_⟩
  · have := hb.set 6 (.slice oz (f.fwds.length + 1) cz)
    simpa [cfVals] using this
  · exact ⟨own_set (own_kept hO.r0 hO.r6 (by decide) hg) hlt _ _, own_set (own_kept hO.r1 hO.r6 (by decide) hg) hlt _ _, hnew, fun g hg1 => by have := hO.b0 g hg1; omega, fun g hg1 => by have := hO.b1 g hg1; omega, own_lt hx⟩
set_option maxHeartbeats 8000000 in
theorem forward_m (r c B R : Nat) (ws : List ByteArray) (f : Cf) (h : LinePre w r c B R ws f) (hlen : f.fwds.length ≤ 1000) :
    Calls Tryz.prog 39 #[.pointer (some ⟨r, 0, none⟩), .pointer (some ⟨c, 0, none⟩)] w fun e w' => e = .returned (.tuple #[]) ∧ Tch (LC c B) w w' ∧ LineR (lineW f wForward (w8s ws)) r c B R w' := by
  have HP := Lib.hid h
  have hc : c < R := by have := h.cf.lt; have := h.hR; omega
  have hcr : c ≠ r := by have := h.row.kr; omega
  obtain ⟨N, hN⟩ : ∃ N, N = w.heap.size := ⟨_, rfl⟩
  have hrN : r < N := by rw [hN]; exact h.row.lt
  have hNr : N ≠ r := by omega
  have hRr : R ≤ r := h.row.kr
  have HE := Lib.hid (fun (w1 : World) (t : Tch (LX r N) w w1) => h.env.on t (fun k hk => by have := h.row.ge; rcases hk with rfl | hk <;> omega))
  have HSD := Lib.hid (fun k => h.short.drop k)
  obtain ⟨o0, c0, o1, c1, o6, c6, hb, ho⟩ := h.cf.box
  have hj0 : Junk w (w.alloc (.cells #[.int .i64 0, .int .i64 0, .int .u32 0, .int .i64 0, .bool false] 40)) := (Junk.refl w).alloc _
  have hbx := box_new w #[.int .i64 0, .int .i64 0, .int .u32 0, .int .i64 0, .bool false] 40
  rw [← hN] at hbx
  have HT0 := Lib.hid (show Tch (LX r N) w (w.alloc (.cells #[.int .i64 0, .int .i64 0, .int .u32 0, .int .i64 0, .bool false] 40)) from Tch.of_junk hj0)
  have HR0 := Lib.hid (show RowAt (w.alloc (.cells #[.int .i64 0, .int .i64 0, .int .u32 0, .int .i64 0, .bool false] 40)) R r (ws.drop 0) false from h.row.on hj0)
  have HB0 := Lib.hid (hb.on hj0)
  have HBX := Lib.hid hbx
  have HO := Lib.hid ho
  have HNN := Lib.hid hN
  have HLEN := Lib.hid hlen
  have hNN : N ≤ N := Nat.le_refl _
  clear h hb ho hj0 hbx hlen
  go_enter Tryz.func39, Tryz.ntmps39
  go_upto_region 1 with (fail)
  rw [← hN]
  clear hN
  generalize w.alloc (.cells #[.int .i64 0, .int .i64 0, .int .u32 0, .int .i64 0, .bool false] 40) = w0 at *
  go_upto_region 2 with (go_at_call 57; (refine (num_any (HE.out _ HT0.out) r (ws.drop 0) _ (HSD.out 0) HR0.out).mono ?_; rintro e w_0 ⟨x0, rfl, hv, hn2, hR, hT⟩); rw [tail_drop] at hR; have hB := box_row HBX.out hT hNr; have p0 := hB.lt; have p1 := hB.frozen; have p3 := hB.cell (j := 0) rfl; have HC1 := Lib.hid ((box_row HB0.out hT hcr).far (a := ⟨N, 0, none⟩) (by show N ≠ c; omega) (.int .i64 x0)); have HR1 := Lib.hid (hR.setX hrN 0 (.int .i64 x0)); have HT1 := Lib.hid ((HT0.out.trans (LX.r hT)).setX hNN 0 (.int .i64 x0)); have HB1 := Lib.hid (hB.set 0 (.int .i64 x0)); have HV1 := Lib.hid hv; clear hR hT hB hv)
  generalize (w_0.setCell ⟨N, 0, none⟩ (.int .i64 x0)) = V1 at *
  clear p0 p1 p3 hn2
  go_upto_region 3 with (go_at_call 57; (refine (num_any (HE.out _ HT1.out) r (ws.drop 1) _ (HSD.out 1) HR1.out).mono ?_; rintro e w_1 ⟨x1, rfl, hv, hn2, hR, hT⟩); rw [tail_drop] at hR; have hB := box_row HB1.out hT hNr; have p0 := hB.lt; have p1 := hB.frozen; have p4 := hB.cell (j := 1) rfl; have HC2 := Lib.hid ((box_row HC1.out hT hcr).far (a := ⟨N, 1, none⟩) (by show N ≠ c; omega) (.int .i64 x1)); have HR2 := Lib.hid (hR.setX hrN 1 (.int .i64 x1)); have HT2 := Lib.hid ((HT1.out.trans (LX.r hT)).setX hNN 1 (.int .i64 x1)); have HB2 := Lib.hid (hB.set 1 (.int .i64 x1)); have HV2 := Lib.hid hv; clear hR hT hB hv)
  generalize (w_1.setCell ⟨N, 1, none⟩ (.int .i64 x1)) = V2 at *
  clear p0 p1 p4 hn2
  have HSH := Lib.hid (HSD.out 2).head
  have HNX := Lib.hid (next_any r (ws.drop 2) _ V2 HR2.out)
  go_upto_region 4 with (first
    | (go_at_call 60; (refine HNX.out.mono ?_; rintro e w_x ⟨rfl, hR, hT⟩); rw [tail_drop] at hR; have HRX := Lib.hid hR; have HTX := Lib.hid (HT2.out.trans (LX.r hT)); have HBX2 := Lib.hid (box_row HB2.out hT hNr); have HCX := Lib.hid (box_row HC2.out hT hcr); clear hR hT)
    | (go_at_call 59; (refine (address_any (HE.out _ HTX.out) r _ _ _ HSH.out HRX.out).mono ?_; rintro e w_2 ⟨x2, rfl, hv, hR, hT⟩); have hB := box_row HBX2.out hT hNr; have p0 := hB.lt; have p1 := hB.frozen; have p5 := hB.cell (j := 2) rfl; have HC3 := Lib.hid ((box_row HCX.out hT hcr).far (a := ⟨N, 2, none⟩) (by show N ≠ c; omega) (.int .u32 x2)); have HR3 := Lib.hid (hR.setX hrN 2 (.int .u32 x2)); have HT3 := Lib.hid ((HTX.out.trans (LX.r hT)).setX hNN 2 (.int .u32 x2)); have HB3 := Lib.hid (hB.set 2 (.int .u32 x2)); have HV3 := Lib.hid hv; clear hR hT hB hv))
  generalize (w_2.setCell ⟨N, 2, none⟩ (.int .u32 x2)) = V3 at *
  clear p0 p1 p5
  go_upto_region 5 with (go_at_call 57; (refine (num_any (HE.out _ HT3.out) r (ws.drop 3) _ (HSD.out 3) HR3.out).mono ?_; rintro e w_3 ⟨x3, rfl, hv, hn2, hR, hT⟩); rw [tail_drop] at hR; have hB := box_row HB3.out hT hNr; have p0 := hB.lt; have p1 := hB.frozen; have p6 := hB.cell (j := 3) rfl; have HC4 := Lib.hid ((box_row HC3.out hT hcr).far (a := ⟨N, 3, none⟩) (by show N ≠ c; omega) (.int .i64 x3)); have HR4 := Lib.hid (hR.setX hrN 3 (.int .i64 x3)); have HT4 := Lib.hid ((HT3.out.trans (LX.r hT)).setX hNN 3 (.int .i64 x3)); have HB4 := Lib.hid (hB.set 3 (.int .i64 x3)); have HV4 := Lib.hid hv; clear hR hT hB hv)
  generalize (w_3.setCell ⟨N, 3, none⟩ (.int .i64 x3)) = V4 at *
  clear p0 p1 p6 hn2
  obtain ⟨bd, hbd⟩ : ∃ bd, (false || (numW (hdW (ws.drop 0))).isNone || (numW (hdW (ws.drop 1))).isNone || (ws.drop 2).isEmpty || (addrW (headB (ws.drop 2)).data.toList).isNone || (numW (hdW (ws.drop 3))).isNone) = bd := ⟨_, rfl⟩
  have HBD := Lib.hid hbd
  rw [hbd] at HR4
  clear hbd
  obtain ⟨n4, hn4⟩ : ∃ n4, (ws.drop 4).length = n4 := ⟨_, rfl⟩
  obtain ⟨oa4, cap4, hc0, hcap4, -⟩ := HR4.out.c0
  rw [hn4] at hc0 hcap4
  have HN4 := Lib.hid hn4
  clear hn4
  go_upto_if 24 with (fail)
  go_cut [24] (fun v wx => ∃ (px b5 : Bool) (ws5 : List ByteArray), Hid (RowAt wx R r ws5 b5) ∧ Hid (Tch (LX r N) w wx) ∧ Hid (Box wx N 40 [.int .i64 x0, .int .i64 x1, .int .u32 x2, .int .i64 x3, .bool px]) ∧ Hid (Box wx c 27 (cfVals f o0 c0 o1 c1 o6 c6)) ∧
    Hid ((ws.drop 4 = [] ∧ px = false ∧ ws5 = [] ∧ b5 = bd) ∨ (ws.drop 4 ≠ [] ∧ px = decide (hdW (ws.drop 4) = wProxy) ∧ ws5 = ws.drop 5 ∧ b5 = (bd || !px))))
  case first =>
    by_cases hn0 : n4 = 0
    · subst hn0
      have HD4 := Lib.hid (show ws.drop 4 = [] from List.length_eq_zero_iff.1 HN4.out)
      go_wp2
      go_meet
      exact ⟨false, bd, [], Lib.hid (by rw [← HD4.out]; exact HR4.out), HT4, HB4, HC4, Lib.hid (.inl ⟨HD4.out, rfl, rfl, rfl⟩)⟩
    · have hnp : (0 : Int) < (n4 : Int) := by omega
      obtain ⟨px, hpx⟩ : ∃ px, decide (hdW (ws.drop 4) = wProxy) = px := ⟨_, rfl⟩
      have ep : ((headB (ws.drop 4)).toList == [112, 114, 111, 120, 121]) = px := by rw [← hpx]; exact bytes_eq _ _
      have HPX := Lib.hid hpx
      have HNE := Lib.hid (show ws.drop 4 ≠ [] from fun e => by have := HN4.out; rw [e] at this; exact hn0 this.symm)
      have HNX5 := Lib.hid (next_any r (ws.drop 4) bd V4 HR4.out)
      clear hpx hc0 hcap4
      go_upto_region 7 with (go_at_call 60; (refine HNX5.out.mono ?_; rintro e w_5 ⟨rfl, hR, hT⟩); rw [tail_drop] at hR; have hB := box_row HB4.out hT hNr; have p0 := hB.lt; have p1 := hB.frozen; have p7 := hB.cell (j := 4) rfl; have HC5 := Lib.hid ((box_row HC4.out hT hcr).far (a := ⟨N, 4, none⟩) (by show N ≠ c; omega) (.bool px)); have HR5 := Lib.hid (hR.setX hrN 4 (.bool px)); have HT5 := Lib.hid ((HT4.out.trans (LX.r hT)).setX hNN 4 (.bool px)); have HB5 := Lib.hid (hB.set 4 (.bool px)); clear hR hT hB)
      generalize (w_5.setCell ⟨N, 4, none⟩ (.bool px)) = V5 at *
      clear p0 p1 p7
      have hem : (bd || (ws.drop 4).isEmpty) = bd := by
        have := HNE.out
        cases hq : ws.drop 4 with
        | nil => exact absurd hq this
        | cons y t => simp
      rw [hem] at HR5
      have k1 := HR5.out.c1
      have kf := HR5.out.f1
      have kl := HR5.out.lt
      have k4 := HB5.out.cell (j := 4) rfl
      have HT6 := Lib.hid (fun v => Tch.setCell (a := ⟨r, 1, none⟩) HT5.out (.inl rfl) v)
      have HB6 := Lib.hid (fun v => HB5.out.far (a := ⟨r, 1, none⟩) (by show r ≠ N; omega) v)
      have HC6 := Lib.hid (fun v => HC5.out.far (a := ⟨r, 1, none⟩) (by show r ≠ c; omega) v)
      clear ep hem
      cases bd <;> cases px
      all_goals go_wp2
      all_goals go_meet
      all_goals exact ⟨_, _, ws.drop 5, Lib.hid (HR5.out.bad _), Lib.hid (HT6.out _), Lib.hid (HB6.out _), Lib.hid (HC6.out _), Lib.hid (.inr ⟨HNE.out, HPX.out.symm, rfl, rfl⟩)⟩
  case rest =>
    obtain ⟨px, b5, ws5, HR5, HT5, HB5, HC5, HSP⟩ := hcut
    clear hc0 hcap4
    go_upto_region 8 with (fail)
    have HO3 := Lib.hid (HO.out.tch HT5.out (fun k h1 h2 e => by have := HP.out.row.kr; rcases e with e | e <;> omega))
    have HF := Lib.hid (show TwoB c N 40 (cfVals f o0 c0 o1 c1 o6 c6) [.int .i64 x0, .int .i64 x1, .int .u32 x2, .int .i64 x3, .bool px] wc from ⟨HC5.out, HB5.out⟩)
    have HBV := Lib.hid (show B ≤ wc.heap.size from by have := HT5.out.size; have := HNN.out; have := HP.out.hR; omega)
    have hBR := HP.out.hR
    have HC0 := Lib.hid (row_ne HO3.out.r6 (g := c) (.inl HP.out.cf.lt) HO3.out.b6)
    have HX0 := Lib.hid (row_ne HO3.out.r6 (g := N) (.inr (show R ≤ N by omega)) HO3.out.b6)
    haveI hne : Nonempty (PW (TwoB c N 40 (cfVals f o0 c0 o1 c1 o6 c6) [.int .i64 x0, .int .i64 x1, .int .u32 x2, .int .i64 x3, .bool px])) := ⟨⟨wc, HF.out⟩⟩
    have k0 : ∀ x : PW (TwoB c N 40 (cfVals f o0 c0 o1 c1 o6 c6) [.int .i64 x0, .int .i64 x1, .int .u32 x2, .int .i64 x3, .bool px]), x.V.cell? ⟨c, 6, none⟩ = some (.slice o6 f.fwds.length c6) := fun x => x.h.1.cell rfl
    have y0 : ∀ x : PW (TwoB c N 40 (cfVals f o0 c0 o1 c1 o6 c6) [.int .i64 x0, .int .i64 x1, .int .u32 x2, .int .i64 x3, .bool px]), x.V.cell? ⟨N, 0, none⟩ = some (.int .i64 x0) := fun x => x.h.2.cell rfl
    have y1 : ∀ x : PW (TwoB c N 40 (cfVals f o0 c0 o1 c1 o6 c6) [.int .i64 x0, .int .i64 x1, .int .u32 x2, .int .i64 x3, .bool px]), x.V.cell? ⟨N, 1, none⟩ = some (.int .i64 x1) := fun x => x.h.2.cell rfl
    have y2 : ∀ x : PW (TwoB c N 40 (cfVals f o0 c0 o1 c1 o6 c6) [.int .i64 x0, .int .i64 x1, .int .u32 x2, .int .i64 x3, .bool px]), x.V.cell? ⟨N, 2, none⟩ = some (.int .u32 x2) := fun x => x.h.2.cell rfl
    have y3 : ∀ x : PW (TwoB c N 40 (cfVals f o0 c0 o1 c1 o6 c6) [.int .i64 x0, .int .i64 x1, .int .u32 x2, .int .i64 x3, .bool px]), x.V.cell? ⟨N, 3, none⟩ = some (.int .i64 x3) := fun x => x.h.2.cell rfl
    have y4 : ∀ x : PW (TwoB c N 40 (cfVals f o0 c0 o1 c1 o6 c6) [.int .i64 x0, .int .i64 x1, .int .u32 x2, .int .i64 x3, .bool px]), x.V.cell? ⟨N, 4, none⟩ = some (.bool px) := fun x => x.h.2.cell rfl
    refine wp_region_mixq (TwoB c N 40 (cfVals f o0 c0 o1 c1 o6 c6) [.int .i64 x0, .int .i64 x1, .int .u32 x2, .int .i64 x3, .bool px]) (fun _ _ h hj => h.on hj) 10 [(0, true), (1, true), (2, true), (3, true), (4, true), (5, true), (6, false), (7, false), (8, true), (9, true), (10, false)] (by kernel_rfl) (by kernel_rfl) (HF.out) ?_; (iterate 6 (refine wpMixL_q rfl (fun K hK => ?_); (go_simp; try go_bits); (refine hK _ ?_; clear hK K))); refine wpMixL_e rfl (fun osm8_0 dm8_0 K hK => ?_); (go_simp; try go_bits); refine hK _ _ (⟨⟨_, by first | exact HF9.out | exact HF.out.on (Junk.alloc ⟨_, _, rfl⟩ _)⟩, rfl⟩) ?_; clear hK K; refine wpMixL_e1 rfl rfl (fun osm8_1 dm8_1 K hK => ?_); (refine ap_gr_wp _ _ 25 rfl 40 (.agg #[.int .i64 0, .int .i64 0, .int .u32 0, .int .i64 0, .bool false]) 5 40 (by kernel_rfl) rfl (by decide) Tryz.underlying25 B (Nat.le_trans HBV.out (Junk.size (by (exact jkc)))) o6 c6 f.fwds.length (fosL f.fwds) rfl (HO3.out.r6.on (by (exact jkc))) ⟨_, 0, none⟩ 1 1 rfl [.int .i64 x0, .int .i64 x1, .int .u32 x2, .int .i64 x3, .bool px] rfl (built_cells_m (by simp) _ rfl) (by simp [Value.oneCell']) (by have := HLEN.out; simp only [maxLen]; omega) (by have := HLEN.out; omega) (by decide) ?_; intro oz cz w9 ho9 hg9 hz9; have HO9 := Lib.hid ho9; have HG9 := Lib.hid hg9; have HF9 := Lib.hid (TwoB.grown (hg := hg9) (h := HF.out.on (by (exact jkc))) HC0.out HX0.out); have t0 := HF9.out.1.lt; have t1 := HF9.out.1.frozen; have t2 := HF9.out.1.cell (j := 6) rfl; clear ho9 hg9 hz9); refine hK _ _ (⟨⟨_, by first | exact HF9.out | exact HF.out.on (Junk.alloc ⟨_, _, rfl⟩ _)⟩, rfl⟩) ?_; clear hK K; (iterate 2 (refine wpMixL_q rfl (fun K hK => ?_); (go_simp; try go_bits); (refine hK _ ?_; clear hK K))); refine wpMixL_last rfl (fun osm8_2 dm8_2 K hK => ?_); (go_simp; try go_bits); skip; refine hK _ _ ?_; clear hK K; refine wpMixL_nil (fun osm dm => ?_)
    go_returns
    obtain ⟨Wb, hWb⟩ : ∃ Wb, ((wc.junk osm8_0 dm8_0).alloc (.cells #[.int .i64 x0, .int .i64 x1, .int .u32 x2, .int .i64 x3, .bool px] 40)).junk osm8_1 dm8_1 = Wb := ⟨_, rfl⟩
    have hjb : Junk wc Wb := by rw [← hWb]; exact (Junk.alloc ⟨_, _, rfl⟩ _).junk _ _
    have hg9 := HG9.out
    rw [hWb] at hg9
    clear k0 y0 y1 y2 y3 y4
    have hRw : R ≤ w9.heap.size := by have := HT5.out.size; have := HNN.out; have := hjb.size; have := hg9.size; omega
    have hRV : R ≤ wc.heap.size := by have := HT5.out.size; have := HNN.out; omega
    have hOb := HO3.out.tch (L := fun _ => False) (Tch.of_junk hjb) (fun _ _ _ e => e)
    refine ⟨rfl, ?_, ?_⟩
    · have t1 : Tch (LC c B) w wc := LX.lc HT5.out (by omega) (by omega)
      have t2 : Tch (LC c B) wc w9 := tch_grown hjb hg9 (fun k hk => .inr (row_lt hOb.r6 hOb.b6 k hk).1)
      exact ((t1.trans t2).set 6 (.slice oz (f.fwds.length + 1) cz)).junk (by (exact jkc))
    · have hr9 := RowAt.far HR5.out (tch_grown (L := fun k => k < R) hjb hg9 (fun k hk => (row_lt hOb.r6 hOb.b6 k hk).2)) (fun k h1 h2 => by omega)
      refine ⟨_, _, (hr9.setC (B := B) hc 6 (.slice oz (f.fwds.length + 1) cz)).on (by (exact jkc)), ?_⟩
      have hl : lineW f wForward (w8s ws) = (if ws.drop 4 = [] ∨ (hdW (ws.drop 4) = wProxy ∧ ws.drop 5 = []) then (match numW (hdW (ws.drop 0)), numW (hdW (ws.drop 1)), addrW (hdW (ws.drop 2)), numW (hdW (ws.drop 3)) with | some p, some q, some a, some t => some { f with fwds := f.fwds ++ [⟨p, q, a, t, decide (hdW (ws.drop 4) = wProxy)⟩] } | _, _, _, _ => none) else none) := by
        unfold lineW fwdW
        rw [if_neg (by decide), if_neg (by decide), if_neg (by decide), if_neg (by decide), if_pos rfl, w8s_drop, w8s_drop, w8s_get, w8s_get, w8s_get, w8s_get, w8s_get]
        simp only [w8s_nil]
        generalize hdW (ws.drop 0) = q0
        generalize hdW (ws.drop 1) = q1
        generalize hdW (ws.drop 2) = q2
        generalize hdW (ws.drop 3) = q3
        cases numW q0 <;> cases numW q1 <;> cases addrW q2 <;> cases numW q3 <;> rfl
      have hbt : bd = true → b5 = true := fun hb => by rcases HSP.out with ⟨_, _, _, h⟩ | ⟨_, _, _, h⟩ <;> rw [h, hb] <;> simp
      rw [hl]
      by_cases hcd : ws.drop 4 = [] ∨ (hdW (ws.drop 4) = wProxy ∧ ws.drop 5 = [])
      · rw [if_pos hcd]
        cases h0 : numW (hdW (ws.drop 0)) with
        | none => exact .inl (hbt (by rw [← HBD.out, h0]; simp))
        | some z0 =>
          cases h1 : numW (hdW (ws.drop 1)) with
          | none => exact .inl (hbt (by rw [← HBD.out, h1]; simp))
          | some z1 =>
            cases h2 : addrW (hdW (ws.drop 2)) with
            | none => exact .inl (hbt (by rw [← HBD.out, show addrW (headB (ws.drop 2)).data.toList = none from h2]; simp))
            | some z2 =>
              cases h3 : numW (hdW (ws.drop 3)) with
              | none => exact .inl (hbt (by rw [← HBD.out, h3]; simp))
              | some z3 =>
                have hb0 : bd = false := by
                  rw [← HBD.out, h0, h1, show addrW (headB (ws.drop 2)).data.toList = some z2 from h2, h3]
                  cases hq : ws.drop 2 with
                  | nil => rw [hq, show addrW (hdW []) = none by decide] at h2; cases h2
                  | cons y t => rfl
                have e0 := HV1.out z0 h0
                have e1 := HV2.out z1 h1
                have e2 := HV3.out z2 h2
                have e3 := HV4.out z3 h3
                subst e0 e1 e2 e3
                have hfin : b5 = false ∧ ws5 = [] ∧ px = decide (hdW (ws.drop 4) = wProxy) := by
                  rcases HSP.out with ⟨g1, g2, g3, g4⟩ | ⟨g1, g2, g3, g4⟩
                  · exact ⟨g4.trans hb0, g3, by rw [g2, g1]; decide⟩
                  · rcases hcd with hcd | ⟨k1, k2⟩
                    · exact absurd hcd g1
                    · exact ⟨by rw [g4, hb0, g2, k1]; decide, g3.trans k2, g2⟩
                refine ⟨hfin.1, hfin.2.1, w9.heap.size, hRw, ?_⟩
                rw [← hfin.2.2]
                have hA := cf_fwds (x := ⟨x0, x1, z2, x3, px⟩) HP.out.cf.ge HP.out.cf.lt hRw hOb hg9 HF9.out.1 HO9.out
                exact hA.on (by (exact jkc)) (by omega)
      · rw [if_neg hcd]
        rcases HSP.out with ⟨g1, _⟩ | ⟨g1, g2, g3, g4⟩
        · exact absurd (.inl g1) hcd
        · by_cases hp : hdW (ws.drop 4) = wProxy
          · exact .inr (by rw [g3]; exact fun e => hcd (.inr ⟨hp, e⟩))
          · exact .inl (by rw [g4, g2, decide_eq_false hp]; simp)
end Go.Proofs.YtcnhlbkdhhjmiaaGreatDoor
