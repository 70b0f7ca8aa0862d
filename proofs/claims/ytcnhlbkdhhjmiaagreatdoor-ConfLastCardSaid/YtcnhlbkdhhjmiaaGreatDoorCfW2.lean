/- Reading a configuration: the loop over the lines. -/
import Derived.Test.YtcnhlbkdhhjmiaaGreatDoorCfW
set_option linter.unusedVariables false
set_option maxRecDepth 100000
set_option linter.unusedSimpArgs false
namespace Go.Proofs.YtcnhlbkdhhjmiaaGreatDoor
open Go.RowKit
variable {L L' : Nat → Prop} {w w' w'' : World}
set_option maxHeartbeats 4000000 in
theorem parse_walk (hE : Env w) (s : ByteArray) (hs : s.size ≤ 1000000) :
    Calls Tryz.prog 8 #[.string s] w fun e w' => Junk w w' ∧ (POk s e w' ∨ PBad s e) := by
  obtain ⟨LN, hLN⟩ : ∃ LN, linesB s = LN := ⟨_, rfl⟩
  obtain ⟨n, hn⟩ : ∃ n, LN.length = n := ⟨_, rfl⟩
  have HLN := Lib.hid hLN
  have HN := Lib.hid hn
  have HE := Lib.hid hE
  have hj : Junk w ((w.alloc (.cells #[.slice none 0 0, .slice none 0 0, .int .i64 0, .int .u32 0, .int .i64 0, .int .i64 0, .slice none 0 0, .int .i64 0, .int .i64 0, .int .i64 0] 27)).alloc (.cells #[.slice none 0 0, .slice none 0 0, .int .i64 0, .int .u32 0, .int .i64 1024, .int .i64 65535, .slice none 0 0, .int .i64 1000, .int .i64 100, .int .i64 10] 27)) := ((Junk.refl w).alloc _).alloc _
  have hsp := split_any (hE.junk hj) 10 s (by omega)
  change Calls Tryz.prog 17 #[.string s, .string ⟨#[10]⟩] _ (fun e w' => e = .returned (.slice (some ⟨_, 0, none⟩) (linesB s).length (linesB s).length) ∧ w' = World.alloc _ (.cells ((linesB s).map Value.string).toArray 9)) at hsp
  rw [hLN, hn] at hsp
  have HSP := Lib.hid hsp
  have HP0 := Lib.hid (pst_start hE LN _ rfl)
  have HJ0 := Lib.hid (show Junk w (((w.alloc (.cells #[.slice none 0 0, .slice none 0 0, .int .i64 0, .int .u32 0, .int .i64 0, .int .i64 0, .slice none 0 0, .int .i64 0, .int .i64 0, .int .i64 0] 27)).alloc (.cells #[.slice none 0 0, .slice none 0 0, .int .i64 0, .int .u32 0, .int .i64 1024, .int .i64 65535, .slice none 0 0, .int .i64 1000, .int .i64 100, .int .i64 10] 27)).alloc (.cells (LN.map Value.string).toArray 9)) from (((Junk.refl w).alloc _).alloc _).alloc _)
  clear hE hj hsp hLN hn
  go_enter Tryz.func8, Tryz.ntmps8
  go_upto_region 3 with (go_at_call 17; (refine HSP.out.mono ?_; rintro e w1 ⟨rfl, rfl⟩))
  generalize (((w.alloc (.cells #[.slice none 0 0, .slice none 0 0, .int .i64 0, .int .u32 0, .int .i64 0, .int .i64 0, .slice none 0 0, .int .i64 0, .int .i64 0, .int .i64 0] 27)).alloc (.cells #[.slice none 0 0, .slice none 0 0, .int .i64 0, .int .u32 0, .int .i64 1024, .int .i64 65535, .slice none 0 0, .int .i64 1000, .int .i64 100, .int .i64 10] 27)).alloc (.cells (LN.map Value.string).toArray 9)) = W3 at *
  obtain ⟨a, ha⟩ : ∃ a, w.heap.size = a := ⟨_, rfl⟩
  rw [ha] at HP0
  simp only [ha]
  go_loopw [6, 7, 8, 9, 10, 11, 16] (fun v6 v7 v8 v9 v10 v11 v16 wr => ∃ (i : Nat) (f : Cf) (R : Nat), v16 = .int .i64 (i : Int) ∧ i ≤ n ∧ Hid (PSt wr a (a + 1) (a + 1 + 1) (a + 3) R LN i f) ∧ Hid (Junk w wr)) (fun _ _ _ _ _ _ v _ => n + 1 - (intOf v).toNat)
  case atStart => exact ⟨0, cf0, _, rfl, by omega, HP0, HJ0⟩
  case round =>
    obtain ⟨i, f, R, rfl, hi, HP, HJ⟩ := hrel
    by_cases hin : i < n
    case neg =>
      obtain rfl : i = n := by omega
      have hi2 : ¬ (i : Int) < (i : Int) := by omega
      have hgot : parseL 0 LN cf0 = some f := by have := HP.out.got; rw [List.take_of_length_le (by rw [HN.out]; exact Nat.le_refl _)] at this; exact this
      have HG := Lib.hid hgot
      obtain ⟨o0, c0, o1, c1, o6, c6, hb, ho⟩ := HP.out.cf.box
      have HB := Lib.hid hb
      have HO := Lib.hid ho
      clear hgot hb ho
      have hcr := fun w1 (hj : Junk wr w1) => cright_any f.routes f.rules f.fwds o0 f.routes.length c0 o1 f.rules.length c1 f.outside f.pub f.lo f.hi o6 f.fwds.length c6 f.tcp f.other f.budget w1 rfl rfl rfl (cfin_of HO.out hj (by have := HP.out.len; have := HP.out.few; omega))
      obtain ⟨V, hV⟩ : ∃ V, propB (rightC f) = V := ⟨_, rfl⟩
      have HCR := Lib.hid (show ∀ w1, Junk wr w1 → Calls Tryz.prog 10 #[.agg (cfVals f o0 c0 o1 c1 o6 c6).toArray] w1 fun e w' => e = .returned (.bool V) ∧ Junk w1 w' from fun w1 hj => hV ▸ hcr w1 hj)
      have HV := Lib.hid hV
      clear hcr hV
      have r0 := HP.out.res.cell (j := 0) rfl
      have r1 := HP.out.res.cell (j := 1) rfl
      have r2 := HP.out.res.cell (j := 2) rfl
      have r3 := HP.out.res.cell (j := 3) rfl
      have r4 := HP.out.res.cell (j := 4) rfl
      have r5 := HP.out.res.cell (j := 5) rfl
      have r6 := HP.out.res.cell (j := 6) rfl
      have r7 := HP.out.res.cell (j := 7) rfl
      have r8 := HP.out.res.cell (j := 8) rfl
      have r9 := HP.out.res.cell (j := 9) rfl
      have rf := HP.out.res.frozen
      have rl := HP.out.res.lt
      have HZS := Lib.hid True.intro
      go_upto_region 17 with (fail)
      refine wp_region_lit ?_
      refine wpList_loadBox rfl 27 _ rfl Tryz.isAgg27 10 Tryz.sizeOf27 HB.out 0 rfl (cfVals f o0 c0 o1 c1 o6 c6) rfl rfl ?_
      cases V with
      | false =>
        have z0 : wr.setCell ⟨a, 0, none⟩ (.slice none 0 0) = wr := setCell_self r0
        have z1 : wr.setCell ⟨a, 1, none⟩ (.slice none 0 0) = wr := setCell_self r1
        have z2 : wr.setCell ⟨a, 2, none⟩ (.int .i64 0) = wr := setCell_self r2
        have z3 : wr.setCell ⟨a, 3, none⟩ (.int .u32 0) = wr := setCell_self r3
        have z4 : wr.setCell ⟨a, 4, none⟩ (.int .i64 0) = wr := setCell_self r4
        have z5 : wr.setCell ⟨a, 5, none⟩ (.int .i64 0) = wr := setCell_self r5
        have z6 : wr.setCell ⟨a, 6, none⟩ (.slice none 0 0) = wr := setCell_self r6
        have z7 : wr.setCell ⟨a, 7, none⟩ (.int .i64 0) = wr := setCell_self r7
        have z8 : wr.setCell ⟨a, 8, none⟩ (.int .i64 0) = wr := setCell_self r8
        have z9 : wr.setCell ⟨a, 9, none⟩ (.int .i64 0) = wr := setCell_self r9
        go_wp2_with (go_at_call 10; (refine (HCR.out _ (by (exact jkc))).mono ?_; rintro e w2 ⟨rfl, ⟨os2, d2, rfl⟩⟩))
        refine bodyPost_ret (results_cell1tt rfl rfl (Box.loadVar ((HP.out.res.on (show Junk wr (wr.junk os2 d2) from ⟨_, _, rfl⟩))) 27 Tryz.isAgg27 Tryz.sizeOf27)) rfl ?_
        refine ⟨HJ.out.trans ⟨_, _, rfl⟩, .inr (PBad.of (fun g hg hr => ?_) 1 0 (by decide) rfl)⟩
        unfold readsT at hg
        rw [HLN.out, HG.out] at hg
        cases hg
        have := propB_true hr
        rw [HV.out] at this
        cases this
      | true =>
        go_upto_region 19 with (go_at_call 10; (refine (HCR.out _ (by (exact jkc))).mono ?_; rintro e w2 ⟨rfl, ⟨os2, d2, rfl⟩⟩))
        refine wp_region_lit ?_
        refine wpList_loadBox rfl 27 _ rfl Tryz.isAgg27 10 Tryz.sizeOf27 (HB.out.on (show Junk wr (wr.junk os2 d2) from ⟨_, _, rfl⟩)) 0 rfl (cfVals f o0 c0 o1 c1 o6 c6) rfl rfl ?_
        refine wpList_storeBox rfl 27 _ _ rfl (HP.out.res.on (show Junk wr (wr.junk os2 d2) from ⟨_, _, rfl⟩)) 0 (cfVals f o0 c0 o1 c1 o6 c6).toArray (by kernel_rfl) rfl rfl (by simp [cfVals]) (by simp [cfVals, Value.oneCell']) ?_
        intro w9 hg9 hb9
        have HG9 := Lib.hid hg9
        have HB9 := Lib.hid (show Box w9 a 27 (cfVals f o0 c0 o1 c1 o6 c6) from hb9)
        clear hg9 hb9
        go_wp2
        refine bodyPost_ret (results_cell1tt rfl rfl (Box.loadVar HB9.out 27 Tryz.isAgg27 Tryz.sizeOf27)) rfl ?_
        refine ⟨below_of_grown (HJ.out.trans (show Junk wr (wr.junk os2 d2) from ⟨_, _, rfl⟩)) HG9.out (fun k hk => by cases hk; omega), .inl (POk.of (by unfold readsT; rw [HLN.out, HG.out]) (propB_iff.1 HV.out) rfl ?_)⟩
        have ho9 := HO.out.tch (tch_grown (L := (· = a)) (show Junk wr (wr.junk os2 d2) from ⟨_, _, rfl⟩) HG9.out (fun k hk => by cases hk; rfl)) (fun k h1 h2 e => by omega)
        exact cfin_of ho9 (Junk.refl _) (by have := HP.out.len; have := HP.out.few; omega)
    have hi2 : (i : Int) < (n : Int) := by omega
    obtain ⟨x, hx⟩ : ∃ x, LN[i]? = some x := ⟨_, List.getElem?_eq_getElem (by rw [HN.out]; exact hin)⟩
    have hc : wr.cell? ⟨a + 1 + 1, i, none⟩ = some (.string x) := HP.out.parts i x hx
    have HX := Lib.hid hx
    clear hx
    by_cases hA : 512 ≤ i ∨ 256 < x.size
    case pos =>
      have hno := parse_stop HP.out.got HX.out (show stepW i x f = none by unfold stepW; rw [if_pos hA])
      have HNO := Lib.hid hno
      clear hno
      have r0 := HP.out.res.cell (j := 0) rfl
      have r1 := HP.out.res.cell (j := 1) rfl
      have r2 := HP.out.res.cell (j := 2) rfl
      have r3 := HP.out.res.cell (j := 3) rfl
      have r4 := HP.out.res.cell (j := 4) rfl
      have r5 := HP.out.res.cell (j := 5) rfl
      have r6 := HP.out.res.cell (j := 6) rfl
      have r7 := HP.out.res.cell (j := 7) rfl
      have r8 := HP.out.res.cell (j := 8) rfl
      have r9 := HP.out.res.cell (j := 9) rfl
      have rf := HP.out.res.frozen
      have rl := HP.out.res.lt
      have z0 : wr.setCell ⟨a, 0, none⟩ (.slice none 0 0) = wr := setCell_self r0
      have z1 : wr.setCell ⟨a, 1, none⟩ (.slice none 0 0) = wr := setCell_self r1
      have z2 : wr.setCell ⟨a, 2, none⟩ (.int .i64 0) = wr := setCell_self r2
      have z3 : wr.setCell ⟨a, 3, none⟩ (.int .u32 0) = wr := setCell_self r3
      have z4 : wr.setCell ⟨a, 4, none⟩ (.int .i64 0) = wr := setCell_self r4
      have z5 : wr.setCell ⟨a, 5, none⟩ (.int .i64 0) = wr := setCell_self r5
      have z6 : wr.setCell ⟨a, 6, none⟩ (.slice none 0 0) = wr := setCell_self r6
      have z7 : wr.setCell ⟨a, 7, none⟩ (.int .i64 0) = wr := setCell_self r7
      have z8 : wr.setCell ⟨a, 8, none⟩ (.int .i64 0) = wr := setCell_self r8
      have z9 : wr.setCell ⟨a, 9, none⟩ (.int .i64 0) = wr := setCell_self r9
      by_cases h5 : 512 ≤ i
      · have h5i : (512 : Int) ≤ (i : Int) := by omega
        clear hA
        go_wp2
        refine bodyPost_ret (results_cell1tt rfl rfl (Box.loadVar HP.out.res 27 Tryz.isAgg27 Tryz.sizeOf27)) rfl ?_
        exact ⟨HJ.out, .inr (PBad.none HLN.out HNO.out 12 _ (by decide) rfl)⟩
      · have h5i : ¬ (512 : Int) ≤ (i : Int) := by omega
        have h6i : (256 : Int) < (x.size : Int) := by omega
        clear hA
        go_wp2
        refine bodyPost_ret (results_cell1tt rfl rfl (Box.loadVar HP.out.res 27 Tryz.isAgg27 Tryz.sizeOf27)) rfl ?_
        exact ⟨HJ.out, .inr (PBad.none HLN.out HNO.out 12 _ (by decide) rfl)⟩
    have h5i : ¬ (512 : Int) ≤ (i : Int) := by omega
    have h6i : ¬ (256 : Int) < (x.size : Int) := by omega
    obtain ⟨WD, hWD⟩ : ∃ WD, Lib.goFieldsP blankP x = WD := ⟨_, rfl⟩
    have HF := Lib.hid (fun w1 => fields_any x (by omega) w1)
    have hne := fields_ne blankP x
    have hshw := fields_le blankP x
    rw [hWD] at hshw
    have HSH := Lib.hid (fun y hy => Nat.le_trans (hshw y hy) (show x.size ≤ 1000000 by omega))
    clear hshw
    rw [hWD] at HF hne
    have hstep : stepW i x f = (match WD.map (·.data.toList) with
      | [] => some f
      | k :: l => if k.head? = some 35 then some f else lineW f k l) := by
      unfold stepW wordsOfLine
      rw [if_neg hA, hWD]
      cases WD <;> rfl
    have HST := Lib.hid hstep
    have HNE := Lib.hid hne
    clear hstep hne hWD
    cases WD with
    | nil =>
      clear hA
      go_wp2_with (go_at_call 18; (refine (HF.out _).mono ?_; rintro e w1 ⟨A, rfl, hA1, ho1, hj1⟩))
      exact ⟨⟨i + 1, f, R, by go_num, by omega, Lib.hid (HP.out.skip hj1 HX.out HST.out (by omega)), Lib.hid (HJ.out.trans hj1)⟩, by simp [intOf]; omega⟩
    | cons k l =>
      obtain ⟨b0, kr, hk⟩ : ∃ b0 kr, k.data.toList = b0 :: kr := by
        have := HNE.out k (by simp)
        cases hq : k.data.toList with
        | nil =>
          have e : k.size = k.data.toList.length := by simp
          rw [hq, List.length_nil] at e
          have h8 := HNE.out k (by simp)
          omega
        | cons b r => exact ⟨b, r, rfl⟩
      have hks : 0 < k.size := HNE.out k (by simp)
      obtain ⟨m, hm⟩ : ∃ m, l.length = m := ⟨_, rfl⟩
      have hm0 : ¬ (m : Int) + 1 = 0 := by omega
      have hm1 : ((m : Int) + 1 == 0) = false := by rw [beq_eq_false_iff_ne]; omega
      rw [List.length_cons, hm] at HF
      have hk0 : k[0]'hks = b0 := by
        have h1 : k.data.toList[0]? = some b0 := by rw [hk]; rfl
        have h2 : k.data.toList[0]? = some (k[0]'hks) := by
          rw [List.getElem?_eq_getElem (by have : k.data.toList.length = k.size := by simp
                                           omega)]
          simp [ByteArray.getElem_eq_getElem_data]
        rw [h1] at h2
        cases h2
        rfl
      have hst2 : stepW i x f = if b0 = 35 then some f else lineW f k.data.toList (w8s l) := by
        rw [HST.out]
        show (if k.data.toList.head? = some 35 then some f else lineW f k.data.toList (l.map (·.data.toList))) = _
        rw [hk]
        simp [w8s]
      have HS2 := Lib.hid hst2
      clear hst2 hA
      by_cases h35 : b0 = 35
      · have e35 : (((k[0]'hks).toNat : Int) == 35) = true := by rw [hk0, h35]; rfl
        have HST3 := Lib.hid (show stepW i x f = some f by rw [HS2.out, if_pos h35])
        go_wp2_with (go_at_call 18; (refine (HF.out _).mono ?_; rintro e w1 ⟨A, rfl, hA1, ho1, hj1⟩); obtain ⟨gk, hgk, _, hgl, hck, _⟩ := ho1.cells 0 (.string k) rfl; cases hgk; have HJ1 := Lib.hid hj1; have HO1 := Lib.hid ho1; clear hj1 ho1)
        exact ⟨⟨i + 1, f, R, by go_num, by omega, Lib.hid (HP.out.skip HJ1.out HX.out HST3.out (by omega)), Lib.hid (HJ.out.trans HJ1.out)⟩, by simp [intOf]; omega⟩
      have e35 : (((k[0]'hks).toNat : Int) == 35) = false := by
        rw [hk0, beq_eq_false_iff_ne]
        intro e
        apply h35
        have : b0.toNat = 35 := by omega
        exact UInt8.toNat_inj.1 this
      have HST3 := Lib.hid (show stepW i x f = lineW f k.data.toList (w8s l) by rw [HS2.out, if_neg h35])
      clear hk0 hk
      have hrd := fun w1 => reader_any k w1
      cases hrn : readerN k.data.toList with
      | none =>
        rw [hrn] at hrd
        have HRD := Lib.hid hrd
        have hno := parse_stop HP.out.got HX.out (by rw [HST3.out]; exact line_none hrn)
        have HNO := Lib.hid hno
        clear hrd hno
        go_upto_region 10 with (first
          | (go_at_call 18; (refine (HF.out _).mono ?_; rintro e w1 ⟨A, rfl, hA1, ho1, hj1⟩); obtain ⟨gk, hgk, _, hgl, hck, _⟩ := ho1.cells 0 (.string k) rfl; cases hgk; have HJ1 := Lib.hid hj1; have HO1 := Lib.hid ho1; clear hj1 ho1)
          | (go_at_call 20; (refine (HRD.out _).mono ?_; rintro e w2 ⟨rfl, rfl⟩)))
        have hres := HP.out.res.on HJ1.out
        have HRES := Lib.hid hres
        have r0 := hres.cell (j := 0) rfl
        have r1 := hres.cell (j := 1) rfl
        have r2 := hres.cell (j := 2) rfl
        have r3 := hres.cell (j := 3) rfl
        have r4 := hres.cell (j := 4) rfl
        have r5 := hres.cell (j := 5) rfl
        have r6 := hres.cell (j := 6) rfl
        have r7 := hres.cell (j := 7) rfl
        have r8 := hres.cell (j := 8) rfl
        have r9 := hres.cell (j := 9) rfl
        have rf := hres.frozen
        have rl := hres.lt
        have z0 := setCell_self r0
        have z1 := setCell_self r1
        have z2 := setCell_self r2
        have z3 := setCell_self r3
        have z4 := setCell_self r4
        have z5 := setCell_self r5
        have z6 := setCell_self r6
        have z7 := setCell_self r7
        have z8 := setCell_self r8
        have z9 := setCell_self r9
        clear hres
        go_wp2
        refine bodyPost_ret (results_cell1tt rfl rfl (Box.loadVar HRES.out 27 Tryz.isAgg27 Tryz.sizeOf27)) rfl ?_
        exact ⟨HJ.out.trans HJ1.out, .inr (PBad.none HLN.out HNO.out 13 _ (by decide) rfl)⟩
      | some g =>
        rw [hrn] at hrd
        have HRD := Lib.hid hrd
        have hent := read_enters hrn
        clear hrd
        go_upto_region 12 with (first
          | (go_at_call 18; (refine (HF.out _).mono ?_; rintro e w1 ⟨A, rfl, hA1, ho1, hj1⟩); obtain ⟨gk, hgk, _, hgl, hck, _⟩ := ho1.cells 0 (.string k) rfl; cases hgk; have HJ1 := Lib.hid hj1; have HO1 := Lib.hid ho1; clear hj1 ho1)
          | (go_at_call 20; (refine (HRD.out _).mono ?_; rintro e w2 ⟨rfl, rfl⟩)))
        go_upto_region 13 with (fail)
        have h8 := HP.out.env.size
        have hrow := row_new HO1.out hm (Nat.le_trans h8 (Nat.le_refl _))
        have hj3 : Junk wr (w2.alloc (.cells #[.slice (if m = 0 then some ⟨A, 0, none⟩ else some ⟨A, 1, none⟩) m m, .bool false] 66)) := HJ1.out.alloc _
        have hsz : w2.heap.size < (w2.alloc (.cells #[.slice (if m = 0 then some ⟨A, 0, none⟩ else some ⟨A, 1, none⟩) m m, .bool false] 66)).heap.size := by simp
        generalize hV : (w2.alloc (.cells #[.slice (if m = 0 then some ⟨A, 0, none⟩ else some ⟨A, 1, none⟩) m m, .bool false] 66)) = V at hrow hj3 hsz ⊢
        generalize (if m = 0 then (some ⟨A, 0, none⟩ : Option Addr) else some ⟨A, 1, none⟩) = oam
        have hcfw := (HP.out.cf.wide HP.out.hR.2).on hj3 (Nat.le_trans HP.out.hR.1 HP.out.hR.2)
        have hshort : ShortW l := by
          intro y hy
          have := HSH.out y (by simp [hy])
          omega
        have hlp : LinePre V w2.heap.size (a + 1) (a + 3) wr.heap.size l f := ⟨HP.out.env.junk hj3, hrow, hcfw, hshort, Nat.le_trans HP.out.hR.1 HP.out.hR.2⟩
        have hlen : f.routes.length ≤ 1000 ∧ f.rules.length ≤ 1000 ∧ f.fwds.length ≤ 1000 := by have := HP.out.len; have := HP.out.few; omega
        have HRM := Lib.hid (read_m hrn w2.heap.size (a + 1) (a + 3) wr.heap.size l f hlp hlen)
        have HJ3 := Lib.hid hj3
        obtain ⟨r, hr⟩ : ∃ r, w2.heap.size = r := ⟨_, rfl⟩
        rw [hr] at HRM
        simp only [hr]
        clear hrow hj3 hcfw hlp hlen hV hsz hshort
        go_upto_region 14 with (go_at_fn g; (refine HRM.out.mono ?_; rintro e w3 ⟨rfl, ht3, hl3⟩))
        obtain ⟨ws, bd, hrow3, hm3⟩ := hl3
        obtain ⟨ao, cp, hr0, hcp, _⟩ := hrow3.c0
        have hr1 := hrow3.c1
        have HT3 := Lib.hid ht3
        have HM3 := Lib.hid hm3
        clear ht3 hm3 hrow3
        obtain ⟨o, ho⟩ : ∃ o, lineW f k.data.toList (w8s l) = o := ⟨_, rfl⟩
        have hm3 := HM3.out
        rw [ho] at hm3
        have hs3 : stepW i x f = o := by rw [HST3.out, ho]
        have HS3 := Lib.hid hs3
        have HO := Lib.hid ho
        have h8a : 8 ≤ a := ha ▸ HE.out.size
        clear hs3 ho HM3
        cases o with
        | some f' =>
          obtain ⟨rfl, rfl, R', hR', hcf'⟩ := hm3
          have HCF := Lib.hid hcf'
          clear hcf'
          go_wp2
          exact ⟨⟨i + 1, f', w3.heap.size, by go_num, by omega, Lib.hid (HP.out.line HJ3.out HT3.out HX.out HS3.out (by omega) h8a HCF.out.top (Nat.le_trans HP.out.hR.2 (Nat.le_trans HJ3.out.size HT3.out.size)) (Nat.le_refl _) (line_len HO.out HP.out.len)), Lib.hid (junk_line ha (HJ.out.trans HJ3.out) HT3.out)⟩, by simp [intOf]; omega⟩
        | none =>
          have hno := parse_stop HP.out.got HX.out HS3.out
          have HNO := Lib.hid hno
          clear hno
          cases bd with
          | true =>
            have hres3 := box_tch (HP.out.res.on HJ3.out) HT3.out (fun e => by rcases e with e | e <;> omega)
            have HRES3 := Lib.hid hres3
            have r0 := hres3.cell (j := 0) rfl
            have r1 := hres3.cell (j := 1) rfl
            have r2 := hres3.cell (j := 2) rfl
            have r3 := hres3.cell (j := 3) rfl
            have r4 := hres3.cell (j := 4) rfl
            have r5 := hres3.cell (j := 5) rfl
            have r6 := hres3.cell (j := 6) rfl
            have r7 := hres3.cell (j := 7) rfl
            have r8 := hres3.cell (j := 8) rfl
            have r9 := hres3.cell (j := 9) rfl
            have rf := hres3.frozen
            have rl := hres3.lt
            have z0 := setCell_self r0
            have z1 := setCell_self r1
            have z2 := setCell_self r2
            have z3 := setCell_self r3
            have z4 := setCell_self r4
            have z5 := setCell_self r5
            have z6 := setCell_self r6
            have z7 := setCell_self r7
            have z8 := setCell_self r8
            have z9 := setCell_self r9
            clear hres3
            go_wp2
            refine bodyPost_ret (results_cell1tt rfl rfl (Box.loadVar HRES3.out 27 Tryz.isAgg27 Tryz.sizeOf27)) rfl ?_
            exact ⟨junk_line ha (HJ.out.trans HJ3.out) HT3.out, .inr (PBad.none HLN.out HNO.out 11 _ (by decide) rfl)⟩
          | false =>
            have hw0 : 0 < ws.length := by
              rcases hm3 with hm3 | hm3
              · cases hm3
              · exact List.length_pos_iff.2 hm3
            obtain ⟨n0, hn0⟩ : ∃ n0, ws.length = n0 := ⟨_, rfl⟩
            rw [hn0] at hw0 hr0
            have hw1 : (0 : Int) < (n0 : Int) := by omega
            clear hm3
            have hres3 := box_tch (HP.out.res.on HJ3.out) HT3.out (fun e => by rcases e with e | e <;> omega)
            have HRES3 := Lib.hid hres3
            have r0 := hres3.cell (j := 0) rfl
            have r1 := hres3.cell (j := 1) rfl
            have r2 := hres3.cell (j := 2) rfl
            have r3 := hres3.cell (j := 3) rfl
            have r4 := hres3.cell (j := 4) rfl
            have r5 := hres3.cell (j := 5) rfl
            have r6 := hres3.cell (j := 6) rfl
            have r7 := hres3.cell (j := 7) rfl
            have r8 := hres3.cell (j := 8) rfl
            have r9 := hres3.cell (j := 9) rfl
            have rf := hres3.frozen
            have rl := hres3.lt
            have z0 := setCell_self r0
            have z1 := setCell_self r1
            have z2 := setCell_self r2
            have z3 := setCell_self r3
            have z4 := setCell_self r4
            have z5 := setCell_self r5
            have z6 := setCell_self r6
            have z7 := setCell_self r7
            have z8 := setCell_self r8
            have z9 := setCell_self r9
            clear hres3
            go_wp2
            refine bodyPost_ret (results_cell1tt rfl rfl (Box.loadVar HRES3.out 27 Tryz.isAgg27 Tryz.sizeOf27)) rfl ?_
            exact ⟨junk_line ha (HJ.out.trans HJ3.out) HT3.out, .inr (PBad.none HLN.out HNO.out 11 _ (by decide) rfl)⟩
end Go.Proofs.YtcnhlbkdhhjmiaaGreatDoor
