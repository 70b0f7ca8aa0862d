/- A configuration is shown: of one that is right. -/
import Derived.Test.YtcnhlbkdhhjmiaaGreatDoorCfZ0
set_option linter.unusedVariables false
set_option maxRecDepth 100000
set_option linter.unusedSimpArgs false
namespace Go.Proofs.YtcnhlbkdhhjmiaaGreatDoor
open Go.RowKit
variable {L L' : Nat → Prop} {w w' w'' : World}
theorem junk_below {W : World} {b : Nat} (hj : Junk w W) (h : Below b W w') (hb : w.heap.size ≤ b) : Junk w w' :=
  Junk.of_below ((hj.below (Nat.le_refl _)).trans ⟨h.os, h.tape, h.output, h.size, fun k hk => h.block k (by omega)⟩)
set_option maxHeartbeats 16000000 in
theorem show_good (X : List Ro) (Y : List Ru) (Z : List Fo) (o0 : Option Addr) (n0 c0 : Nat) (o1 : Option Addr) (n1 c1 : Nat) (ou : Int) (pu : Nat) (lo hi : Int) (o6 : Option Addr) (n6 c6 : Nat) (tc ot bu : Int) (w : World)
    (hX : X.length = n0) (hY : Y.length = n1) (hZ : Z.length = n6) (h : CfIn w ⟨X, Y, ou, pu, lo, hi, Z, tc, ot, bu⟩ o0 c0 o1 c1 o6 c6) (hE : Env w) (hr : rightC ⟨X, Y, ou, pu, lo, hi, Z, tc, ot, bu⟩) (ht : tyC ⟨X, Y, ou, pu, lo, hi, Z, tc, ot, bu⟩) :
    Calls Tryz.prog 7 #[.agg #[.slice o0 n0 c0, .slice o1 n1 c1, .int .i64 ou, .int .u32 pu, .int .i64 lo, .int .i64 hi, .slice o6 n6 c6, .int .i64 tc, .int .i64 ot, .int .i64 bu]] w fun e w' => e = .returned (.tuple #[.string (mkS (showT ⟨X, Y, ou, pu, lo, hi, Z, tc, ot, bu⟩)), .int .i64 0]) ∧ Junk w w' := by
  have hcr := fun w1 (hj : Junk w w1) => cright_any X Y Z o0 n0 c0 o1 n1 c1 ou pu lo hi o6 n6 c6 tc ot bu w1 hX hY hZ ⟨h.s0.on hj, h.s1.on hj, h.s6.on hj, h.l0, h.l1, h.l6⟩
  rw [propB_iff.2 hr] at hcr
  have HCR := Lib.hid hcr
  have HE := Lib.hid hE
  have H0 := Lib.hid (show RosAt w o0 X from h.s0)
  have H1 := Lib.hid (show RusAt w o1 Y from h.s1)
  have H6 := Lib.hid (show FosAt w o6 Z from h.s6)
  have HR := Lib.hid hr
  have HT := Lib.hid ht
  have hn0 : n0 ≤ 64 ∧ n0 ≤ c0 := by have h1 := hr.1.1; have h2 := h.l0.2; simp only at h1 h2; rw [hX] at h1 h2; exact ⟨h1, h2⟩
  have hn1 : n1 ≤ 64 ∧ n1 ≤ c1 := by have h1 := hr.2.1.1; have h2 := h.l1.2; simp only at h1 h2; rw [hY] at h1 h2; exact ⟨h1, h2⟩
  have hn6 : n6 ≤ 32 ∧ n6 ≤ c6 := by have h1 := hr.2.2.2.2.1.1; have h2 := h.l6.2; simp only at h1 h2; rw [hZ] at h1 h2; exact ⟨h1, h2⟩
  have HX := Lib.hid hX
  have HY := Lib.hid hY
  have HZ := Lib.hid hZ
  clear hcr hE h hr ht hX hY hZ
  have h8 := HE.out.size
  obtain ⟨a, ha⟩ : ∃ a, w.heap.size = a := ⟨_, rfl⟩
  go_enter Tryz.func7, Tryz.ntmps7
  go_upto_region 4 with (go_at_call 10; (refine (HCR.out _ ((Junk.refl w).alloc _)).mono ?_); rintro e w1 ⟨rfl, ⟨os1, d1, rfl⟩⟩)
  have hbx : Box (((w.alloc (.cells #[.slice o0 n0 c0, .slice o1 n1 c1, .int .i64 ou, .int .u32 pu, .int .i64 lo, .int .i64 hi, .slice o6 n6 c6, .int .i64 tc, .int .i64 ot, .int .i64 bu] 27)).junk os1 d1).alloc (.cells #[.pointer none, .slice none 0 0] 47)) a 27 (#[.slice o0 n0 c0, .slice o1 n1 c1, .int .i64 ou, .int .u32 pu, .int .i64 lo, .int .i64 hi, .slice o6 n6 c6, .int .i64 tc, .int .i64 ot, .int .i64 bu]).toList := ha ▸ Box.on (box_new w #[.slice o0 n0 c0, .slice o1 n1 c1, .int .i64 ou, .int .u32 pu, .int .i64 lo, .int .i64 hi, .slice o6 n6 c6, .int .i64 tc, .int .i64 ot, .int .i64 bu] 27) (by (exact jkc))
  have hsz : ((w.alloc (.cells #[.slice o0 n0 c0, .slice o1 n1 c1, .int .i64 ou, .int .u32 pu, .int .i64 lo, .int .i64 hi, .slice o6 n6 c6, .int .i64 tc, .int .i64 ot, .int .i64 bu] 27)).junk os1 d1).heap.size = a + 1 + os1.size := by simp [ha]
  have hbl : Bld (a + 1 + os1.size) (a + 1 + os1.size) (Lib.byteCells []) (((w.alloc (.cells #[.slice o0 n0 c0, .slice o1 n1 c1, .int .i64 ou, .int .u32 pu, .int .i64 lo, .int .i64 hi, .slice o6 n6 c6, .int .i64 tc, .int .i64 ot, .int .i64 bu] 27)).junk os1 d1).alloc (.cells #[.pointer none, .slice none 0 0] 47)) :=
    .inl ⟨Nat.le_refl _, .slice none 0 0, by rw [← hsz]; exact heap_alloc_new _ _, World.ownsRow_nil _ _ _ _, by simp [Value.ownBlock]⟩
  have hjw : Junk w (((w.alloc (.cells #[.slice o0 n0 c0, .slice o1 n1 c1, .int .i64 ou, .int .u32 pu, .int .i64 lo, .int .i64 hi, .slice o6 n6 c6, .int .i64 tc, .int .i64 ot, .int .i64 bu] 27)).junk os1 d1).alloc (.cells #[.pointer none, .slice none 0 0] 47)) := by (exact jkc)
  have hsz2 : (((w.alloc (.cells #[.slice o0 n0 c0, .slice o1 n1 c1, .int .i64 ou, .int .u32 pu, .int .i64 lo, .int .i64 hi, .slice o6 n6 c6, .int .i64 tc, .int .i64 ot, .int .i64 bu] 27)).junk os1 d1).alloc (.cells #[.pointer none, .slice none 0 0] 47)).heap.size = a + 1 + os1.size + 1 := by rw [← hsz]; simp
  obtain ⟨b, hb⟩ : ∃ b, a + 1 + os1.size = b := ⟨_, rfl⟩
  have hab : a < b := by omega
  rw [hb] at hbl hsz2
  simp only [hb]
  generalize (((w.alloc (.cells #[.slice o0 n0 c0, .slice o1 n1 c1, .int .i64 ou, .int .u32 pu, .int .i64 lo, .int .i64 hi, .slice o6 n6 c6, .int .i64 tc, .int .i64 ot, .int .i64 bu] 27)).junk os1 d1).alloc (.cells #[.pointer none, .slice none 0 0] 47)) = W at hbx hbl hjw hsz2 ⊢
  have HBX := Lib.hid (fun w1 (h : Below b W w1) => box_below hbx h hab)
  have HBL := Lib.hid hbl
  have HJW := Lib.hid (fun w1 (h : Below b W w1) => junk_below hjw h (by omega))
  have HEW := Lib.hid (fun w1 (h : Below b W w1) => (HE.out.junk hjw).on (Below.tch h) (fun k hk => by omega))
  have hc0 := hbx.cell (j := 0) rfl
  clear hbx hbl hjw hsz hb
  go_wp2
  go_loopw [6, 21] (fun v6 v21 wr => ∃ (i : Nat), v21 = .int .i64 (i : Int) ∧ i ≤ n0 ∧ Hid (Bld b b (Lib.byteCells (((X.take i).map routeL).flatMap lineT)) wr) ∧ Hid (Below b W wr)) (fun _ v _ => n0 + 1 - (intOf v).toNat)
  case atStart => exact ⟨0, rfl, by omega, HBL, Lib.hid (Below.refl b W)⟩
  case round =>
    obtain ⟨i, rfl, hil, HBR, HWR⟩ := hrel
    by_cases hin : i < n0
    case pos =>
      obtain ⟨x, hx⟩ : ∃ x, X[i]? = some x := ⟨_, List.getElem?_eq_getElem (by rw [HX.out]; exact hin)⟩
      obtain ⟨g, off, hg, hgl, x0, x1, x2, x3⟩ := (H0.out.on (HJW.out _ HWR.out)) i x hx
      have HX0 := Lib.hid hx
      subst hg
      have hi2 : (i : Int) < (n0 : Int) := by omega
      have hmay := (HR.out.1.2 i x hx).1
      have hnet : x.net < 4294967296 := HT.out.1 x (List.mem_of_getElem? hx)
      have hll := route_len x hmay hnet
      have hst := lines_step routeL X i x hx []
      have hTl := lines_len routeL (X.take i) (fun y hy => by
        obtain ⟨j, hj⟩ := List.mem_iff_getElem?.1 (List.mem_of_mem_take hy)
        exact route_len y (HR.out.1.2 j y hj).1 (HT.out.1 y (List.mem_of_getElem? hj)))
      rw [List.length_take] at hTl
      obtain ⟨T, hTe⟩ : ∃ T, ((X.take i).map routeL).flatMap lineT = T := ⟨_, rfl⟩
      rw [hTe] at HBR hst hTl
      unfold rtMay at hmay
      simp only [decide_eq_true_eq] at hmay
      have hbr := HBR.out
      have HBR2 := Lib.hid (fun w1 (hj : Junk wr w1) => linek (bld_on hbr hj) (Nat.le_trans (by have := HWR.out.size; omega) hj.size) (by omega))
      have HN1 := Lib.hid (fun w1 (hj : Junk wr w1) => cnet_any x.net x.bits hnet (by omega) w1 ((HEW.out _ HWR.out).junk hj))
      have HN2 := Lib.hid (nums_at wr [x.zone, x.mtu] (fun w1 hj => (HEW.out _ HWR.out).junk hj) 2 rfl (by omega) (by omega) (by intro y hy; simp at hy; rcases hy with rfl | rfl <;> omega))
      have hlj : jn (w8s [⟨#[114, 111, 117, 116, 101]⟩, mkS (netT x.net x.bits), mkS (jn ([x.zone, x.mtu].map Lib.itoa))]) = jn (routeL x) := by
        simp [w8s, mkS, routeL, jn, wRoute]
      have HLJ := Lib.hid hlj
      have HLL := Lib.hid hll
      have HST := Lib.hid hst
      generalize mkS (netT x.net x.bits) = s1 at *
      generalize mkS (jn ([x.zone, x.mtu].map Lib.itoa)) = s2 at *
      clear hx hlj hll hst hTl hTe hbr hmay hnet
      go_upto_region 7 with (fail)
      have hjv : Junk wr (wr.alloc (.cells #[.int .u32 x.net, .int .i64 x.bits, .int .i64 x.zone, .int .i64 x.mtu] 49)) := (Junk.refl wr).alloc _
      have hbv := box_new wr #[.int .u32 x.net, .int .i64 x.bits, .int .i64 x.zone, .int .i64 x.mtu] 49
      generalize (wr.alloc (.cells #[.int .u32 x.net, .int .i64 x.bits, .int .i64 x.zone, .int .i64 x.mtu] 49)) = V at hjv hbv ⊢
      have r0 := hbv.cell (j := 0) rfl
      have r1 := hbv.cell (j := 1) rfl
      have r2 := hbv.cell (j := 2) rfl
      have r3 := hbv.cell (j := 3) rfl
      have rl := hbv.lt
      have HJV := Lib.hid hjv
      clear hjv hbv
      refine wp_region_mixn (V) 13 [(0, true), (1, true), (2, true), (3, true), (4, true), (5, true), (6, true), (7, true), (8, true), (9, true), (10, false), (11, false), (12, false), (13, false)] (by kernel_rfl) (by kernel_rfl) (by (exact jkc)) ?_; (iterate 10 (refine wpMixL_q rfl (fun K hK => ?_); (go_simp; try go_bits); first | (refine hK _ ?_; clear hK K) | (apply Exists.intro; refine ⟨fun _ => ?_, hK _ ?_⟩; (first | (go_at_call 13; with_reducible exact HN1.out _ (HJV.out.trans (by (exact jkc))))); clear hK K))); refine wpMixL_e rfl (fun osm7_0 dm7_0 K hK => ?_); (go_simp; try go_bits); refine hK _ _ (Junk.pair (by (first | exact jkc | repeat (first | with_reducible exact Junk.refl _ | with_reducible exact Junk.app _ _ _ _ _ | with_reducible apply Junk.alloc | with_reducible apply Junk.junk | with_reducible apply Junk.drew | with_reducible apply Junk.drewN | (with_reducible refine Junk.setCell ?_ (by simp) _))))) ?_; clear hK K; refine wpMixL_e rfl (fun osm7_1 dm7_1 K hK => ?_); (go_simp; try go_bits); (go_at_call 14; (refine (HN2.out _ (HJV.out.trans (by (exact jkc))) _ (NumsAt.on (nums_lit (V.junk osm7_0 dm7_0) [x.zone, x.mtu] #[.int .i64 x.zone, .int .i64 x.mtu] rfl _ (by simp)) (by (exact jkc)))).mono ?_); rintro e w' ⟨rfl, ⟨os2, d2, rfl⟩⟩); refine hK _ _ (Junk.pair (by (first | exact jkc | repeat (first | with_reducible exact Junk.refl _ | with_reducible exact Junk.app _ _ _ _ _ | with_reducible apply Junk.alloc | with_reducible apply Junk.junk | with_reducible apply Junk.drew | with_reducible apply Junk.drewN | (with_reducible refine Junk.setCell ?_ (by simp) _))))) ?_; clear hK K; refine wpMixL_e rfl (fun osm7_2 dm7_2 K hK => ?_); (go_simp; try go_bits); refine hK _ _ (Junk.pair (by (first | exact jkc | repeat (first | with_reducible exact Junk.refl _ | with_reducible exact Junk.app _ _ _ _ _ | with_reducible apply Junk.alloc | with_reducible apply Junk.junk | with_reducible apply Junk.drew | with_reducible apply Junk.drewN | (with_reducible refine Junk.setCell ?_ (by simp) _))))) ?_; clear hK K; refine wpMixL_last rfl (fun osm7_3 dm7_3 K hK => ?_); (go_simp; try go_bits); (go_at_call 12; (refine (HBR2.out V HJV.out _ (by (exact jkc)) _ _ 3 [⟨#[114, 111, 117, 116, 101]⟩, s1, s2] 0 (Own.on (own_strs (((V.junk osm7_0 dm7_0).alloc (.cells #[.int .i64 x.zone, .int .i64 x.mtu] 3)).junk (osm7_1 ++ (os2 ++ osm7_2)) dm7_2) [⟨#[114, 111, 117, 116, 101]⟩, s1, s2] #[.string ⟨#[114, 111, 117, 116, 101]⟩, .string s1, .string s2] rfl _ 3 (by simp) rfl (by omega)) (by (exact jkc))) rfl (by simp) (by omega) _ HLJ.out HLL.out).mono ?_); rintro e w' ⟨rfl, hb1, hb2⟩); refine hK _ _ ?_; clear hK K; refine wpMixL_nil (fun osm dm => ?_)
      have hbw : b ≤ wr.heap.size := by have := HWR.out.size; omega
      have hB : Below b wr w' := Below.trans (Junk.below (HJV.out.trans (by (exact jkc))) hbw) hb2
      have hj1 : Junk w' (w'.junk osm dm) := ⟨_, _, rfl⟩
      have HB1 := Lib.hid (bld_on hb1 hj1)
      have HB2 := Lib.hid (HWR.out.trans (hB.trans (hj1.below (Nat.le_trans hbw hB.size))))
      generalize w'.junk osm dm = w9 at HB1 HB2 ⊢
      clear hb1 hb2 hB hj1
      go_wp2
      refine ⟨⟨i + 1, by go_num, by omega, ?_, HB2⟩, by simp [intOf]; omega⟩
      have hst := HST.out
      simp only [List.nil_append] at hst
      rw [← hst]
      exact HB1
    obtain rfl : i = n0 := by omega
    have hi2 : ¬ (i : Int) < (i : Int) := by omega
    obtain ⟨T0, hT0⟩ : ∃ T, (X.map routeL).flatMap lineT = T := ⟨_, rfl⟩
    have hbr := HBR.out
    rw [List.take_of_length_le (by rw [HX.out]; exact Nat.le_refl _), hT0] at hbr
    have hl0 : T0.length ≤ 251 * 64 := by
      have h1 := lines_len routeL X (fun y hy => by
        obtain ⟨j, hj⟩ := List.mem_iff_getElem?.1 hy
        exact route_len y (HR.out.1.2 j y hj).1 (HT.out.1 y hy))
      rw [hT0, HX.out] at h1
      omega
    have hc1 := (HBX.out _ HWR.out).cell (j := 1) rfl
    have HT0 := Lib.hid hT0
    have HB0 := Lib.hid hbr
    have HW0 := HWR
    clear HBR HWR hbr hT0
    go_wp2
    go_loopw [8, 9, 43] (fun v8 v9 v43 wr => ∃ (i : Nat), v43 = .int .i64 (i : Int) ∧ i ≤ n1 ∧ Hid (Bld b b (Lib.byteCells (T0 ++ ((Y.take i).map ruleL).flatMap lineT)) wr) ∧ Hid (Below b W wr)) (fun _ _ v _ => n1 + 1 - (intOf v).toNat)
    case atStart => exact ⟨0, rfl, by omega, by simpa using HB0, HW0⟩
    case round =>
      obtain ⟨i1, rfl, hil1, HBR, HWR⟩ := hrel
      by_cases hin1 : i1 < n1
      case pos =>
        obtain ⟨x, hx⟩ : ∃ x, Y[i1]? = some x := ⟨_, List.getElem?_eq_getElem (by rw [HY.out]; exact hin1)⟩
        obtain ⟨g, off, hg, hgl, x0, x1, x2, x3, x4, x5, x6, x7, x8, x9⟩ := (H1.out.on (HJW.out _ HWR.out)) i1 x hx
        have HX0 := Lib.hid hx
        subst hg
        have hi3 : (i1 : Int) < (n1 : Int) := by omega
        have hmay := HR.out.2.1.2 x (List.mem_of_getElem? hx)
        have hnet : x.src < 4294967296 ∧ x.dst < 4294967296 := HT.out.2.1 x (List.mem_of_getElem? hx)
        have hll := rule_len x hmay hnet
        have hst := lines_step ruleL Y i1 x hx T0
        have hTl := lines_len ruleL (Y.take i1) (fun y hy => rule_len y (HR.out.2.1.2 y (List.mem_of_mem_take hy)) (HT.out.2.1 y (List.mem_of_mem_take hy)))
        rw [List.length_take] at hTl
        obtain ⟨T, hTe⟩ : ∃ T, T0 ++ ((Y.take i1).map ruleL).flatMap lineT = T := ⟨_, rfl⟩
        have hTl2 : T.length ≤ 1000000 := by rw [← hTe, List.length_append]; omega
        rw [hTe] at HBR hst
        unfold ruMay at hmay
        simp only [decide_eq_true_eq] at hmay
        have hbr := HBR.out
        have HBR2 := Lib.hid (fun w1 (hj : Junk wr w1) => linek (bld_on hbr hj) (Nat.le_trans (by have := HWR.out.size; omega) hj.size) hTl2)
        have HN1 := Lib.hid (fun w1 (hj : Junk wr w1) => cnet_any x.src x.srcBits hnet.1 (by omega) w1 ((HEW.out _ HWR.out).junk hj))
        have HN2 := Lib.hid (fun w1 (hj : Junk wr w1) => cnet_any x.dst x.dstBits hnet.2 (by omega) w1 ((HEW.out _ HWR.out).junk hj))
        have HN3 := Lib.hid (nums_at wr [x.fr, x.tt, x.proto] (fun w1 hj => (HEW.out _ HWR.out).junk hj) 3 rfl (by omega) (by omega) (by intro y hy; simp at hy; rcases hy with rfl | rfl | rfl <;> omega))
        have HN4 := Lib.hid (nums_at wr [x.lo, x.hi] (fun w1 hj => (HEW.out _ HWR.out).junk hj) 2 rfl (by omega) (by omega) (by intro y hy; simp at hy; rcases hy with rfl | rfl <;> omega))
        have hlj : jn (w8s [⟨#[114, 117, 108, 101]⟩, mkS (jn ([x.fr, x.tt, x.proto].map Lib.itoa)), mkS (netT x.src x.srcBits), mkS (netT x.dst x.dstBits), mkS (jn ([x.lo, x.hi].map Lib.itoa)), mkS (actT x.action)]) = jn (ruleL x) := by
          simp [w8s, mkS, ruleL, jn, wRule]
        have hac1 : x.action = 2 → mkS (actT x.action) = ⟨#[97, 108, 108, 111, 119]⟩ := fun h => by unfold actT; rw [if_pos h]; rfl
        have hac2 : ¬ x.action = 2 → mkS (actT x.action) = ⟨#[100, 101, 110, 121]⟩ := fun h => by unfold actT; rw [if_neg h]; rfl
        have HLJ := Lib.hid hlj
        have HLL := Lib.hid hll
        have HST := Lib.hid hst
        generalize mkS (jn ([x.fr, x.tt, x.proto].map Lib.itoa)) = s1 at *
        generalize mkS (netT x.src x.srcBits) = s2 at *
        generalize mkS (netT x.dst x.dstBits) = s3 at *
        generalize mkS (jn ([x.lo, x.hi].map Lib.itoa)) = s4 at *
        generalize mkS (actT x.action) = ac at *
        clear hx hlj hll hst hTl hTe hbr hmay hnet
        go_upto_region 12 with (fail)
        have hjv : Junk wr (wr.alloc (.cells #[.int .i64 x.fr, .int .i64 x.tt, .int .i64 x.proto, .int .u32 x.src, .int .u32 x.dst, .int .i64 x.srcBits, .int .i64 x.dstBits, .int .i64 x.lo, .int .i64 x.hi, .int .i64 x.action] 54)) := (Junk.refl wr).alloc _
        have hbv := box_new wr #[.int .i64 x.fr, .int .i64 x.tt, .int .i64 x.proto, .int .u32 x.src, .int .u32 x.dst, .int .i64 x.srcBits, .int .i64 x.dstBits, .int .i64 x.lo, .int .i64 x.hi, .int .i64 x.action] 54
        generalize (wr.alloc (.cells #[.int .i64 x.fr, .int .i64 x.tt, .int .i64 x.proto, .int .u32 x.src, .int .u32 x.dst, .int .i64 x.srcBits, .int .i64 x.dstBits, .int .i64 x.lo, .int .i64 x.hi, .int .i64 x.action] 54)) = V at hjv hbv ⊢
        have r0 := hbv.cell (j := 0) rfl
        have r1 := hbv.cell (j := 1) rfl
        have r2 := hbv.cell (j := 2) rfl
        have r3 := hbv.cell (j := 3) rfl
        have r4 := hbv.cell (j := 4) rfl
        have r5 := hbv.cell (j := 5) rfl
        have r6 := hbv.cell (j := 6) rfl
        have r7 := hbv.cell (j := 7) rfl
        have r8 := hbv.cell (j := 8) rfl
        have r9 := hbv.cell (j := 9) rfl
        have rl := hbv.lt
        have HJV := Lib.hid hjv
        have hbw : b ≤ wr.heap.size := by have := HWR.out.size; omega
        clear hjv hbv
        by_cases h2 : x.action = 2
        · have hac := hac1 h2
          have h2b : (x.action == 2) = true := by rw [h2]; rfl
          have HAC := Lib.hid hac
          clear hac hac1 hac2
          go_upto_region 15 with (fail)
          rw [← HAC.out]
          refine wp_region_mixU (V) 27 (.q 0 (.q 1 (.q 2 (.q 3 (.q 4 (.q 5 (.q 6 (.q 9 (.q 10 (.q 11 (.q 12 (.q 14 (.q 15 (.q 16 (.q 17 (.q 19 (.q 20 (.q 21 (.q 22 (.q 25 (.two 7 (.two 8 (.q 13 (.q 18 (.e 23 (.e 24 (.e 26 (.l 27)))))) 23 (.e 8 (.q 13 (.q 18 (.e 24 (.e 26 (.l 27))))))) 23 (.e 7 (.e 8 (.q 13 (.q 18 (.e 24 (.e 26 (.l 27)))))))))))))))))))))))))))) (by kernel_rfl) (by kernel_rfl) (by (exact jkc)) ?_; (iterate 20 ((refine wpMixU_q rfl (fun K hK => ?_); (go_simp; try go_bits); first | (refine hK _ ?_; clear hK K) | (apply Exists.intro; refine ⟨fun _ => ?_, hK _ ?_⟩; (first | (go_at_call 13; first | with_reducible exact HN1.out _ (HJV.out.trans (by (exact jkc))) | with_reducible exact HN2.out _ (HJV.out.trans (by (exact jkc))))); clear hK K)))); focus (refine wpMixU_two ?ma5 ?mb5; (case' mb5 => (refine wpMixU_e rfl (fun osm15_0 dm15_0 K hK => ?_); (go_simp; try go_bits); refine with_nums [x.lo, x.hi] rfl (fun hq23 => ?_); refine hK _ _ (Junk.pair (by (first | exact jkc | repeat (first | with_reducible exact Junk.refl _ | with_reducible exact Junk.app _ _ _ _ _ | with_reducible apply Junk.alloc | with_reducible apply Junk.junk | with_reducible apply Junk.drew | with_reducible apply Junk.drewN | (with_reducible refine Junk.setCell ?_ (by simp) _))))) ?_; clear hK K; refine wpMixU_e rfl (fun osm15_1 dm15_1 K hK => ?_); (go_simp; try go_bits); refine with_nums [x.fr, x.tt, x.proto] rfl (fun hq7 => ?_); refine hK _ _ (Junk.pair (by (first | exact jkc | repeat (first | with_reducible exact Junk.refl _ | with_reducible exact Junk.app _ _ _ _ _ | with_reducible apply Junk.alloc | with_reducible apply Junk.junk | with_reducible apply Junk.drew | with_reducible apply Junk.drewN | (with_reducible refine Junk.setCell ?_ (by simp) _))))) ?_; clear hK K; refine wpMixU_e rfl (fun osm15_2 dm15_2 K hK => ?_); (go_simp; try go_bits); (go_at_call 14; (refine (HN3.out _ (HJV.out.trans (by (exact jkc))) _ (NumsAt.on (hq7 _ (by simp)) (by (exact jkc)))).mono ?_); rintro e w' ⟨rfl, ⟨osa, da, rfl⟩⟩); refine hK _ _ (Junk.pair (by (first | exact jkc | repeat (first | with_reducible exact Junk.refl _ | with_reducible exact Junk.app _ _ _ _ _ | with_reducible apply Junk.alloc | with_reducible apply Junk.junk | with_reducible apply Junk.drew | with_reducible apply Junk.drewN | (with_reducible refine Junk.setCell ?_ (by simp) _))))) ?_; clear hK K; (iterate 2 ((refine wpMixU_q rfl (fun K hK => ?_); (go_simp; try go_bits); first | (refine hK _ ?_; clear hK K) | (apply Exists.intro; refine ⟨fun _ => ?_, hK _ ?_⟩; (first | (go_at_call 13; first | with_reducible exact HN1.out _ (HJV.out.trans (by (exact jkc))) | with_reducible exact HN2.out _ (HJV.out.trans (by (exact jkc))))); clear hK K)))); refine wpMixU_e rfl (fun osm15_3 dm15_3 K hK => ?_); (go_simp; try go_bits); (go_at_call 14; (refine (HN4.out _ (HJV.out.trans (by (exact jkc))) _ (NumsAt.on (hq23 _ (by simp)) (by (exact jkc)))).mono ?_); rintro e w' ⟨rfl, ⟨osb, db, rfl⟩⟩); refine hK _ _ (Junk.pair (by (first | exact jkc | repeat (first | with_reducible exact Junk.refl _ | with_reducible exact Junk.app _ _ _ _ _ | with_reducible apply Junk.alloc | with_reducible apply Junk.junk | with_reducible apply Junk.drew | with_reducible apply Junk.drewN | (with_reducible refine Junk.setCell ?_ (by simp) _))))) ?_; clear hK K; refine wpMixU_e rfl (fun osm15_4 dm15_4 K hK => ?_); (go_simp; try go_bits); refine with_strs [⟨#[114, 117, 108, 101]⟩, s1, s2, s3, s4, ac] rfl (by simp) (fun hs26 => ?_); refine hK _ _ (Junk.pair (by (first | exact jkc | repeat (first | with_reducible exact Junk.refl _ | with_reducible exact Junk.app _ _ _ _ _ | with_reducible apply Junk.alloc | with_reducible apply Junk.junk | with_reducible apply Junk.drew | with_reducible apply Junk.drewN | (with_reducible refine Junk.setCell ?_ (by simp) _))))) ?_; clear hK K; refine wpMixU_l rfl (fun osm15_5 dm15_5 K hK => ?_); (go_simp; try go_bits); (go_at_call 12; (refine (HBR2.out V HJV.out _ (by (exact jkc)) _ _ 6 [⟨#[114, 117, 108, 101]⟩, s1, s2, s3, s4, ac] 0 (Own.on (hs26 _ (by simp)) (by (exact jkc))) rfl (by simp) (by omega) _ HLJ.out HLL.out).mono ?_); rintro e w' ⟨rfl, hb1, hb2⟩); refine hK _ _ (fun osm dm => ?_); clear hK K)); (case' ma5 => (refine wpMixU_e rfl (fun osm15_6 dm15_6 K hK => ?_); (go_simp; try go_bits); refine with_nums [x.fr, x.tt, x.proto] rfl (fun hq7 => ?_); refine hK _ _ (Junk.pair (by (first | exact jkc | repeat (first | with_reducible exact Junk.refl _ | with_reducible exact Junk.app _ _ _ _ _ | with_reducible apply Junk.alloc | with_reducible apply Junk.junk | with_reducible apply Junk.drew | with_reducible apply Junk.drewN | (with_reducible refine Junk.setCell ?_ (by simp) _))))) ?_; clear hK K; focus (refine wpMixU_two ?ma6 ?mb6; (case' mb6 => (refine wpMixU_e rfl (fun osm15_7 dm15_7 K hK => ?_); (go_simp; try go_bits); refine with_nums [x.lo, x.hi] rfl (fun hq23 => ?_); refine hK _ _ (Junk.pair (by (first | exact jkc | repeat (first | with_reducible exact Junk.refl _ | with_reducible exact Junk.app _ _ _ _ _ | with_reducible apply Junk.alloc | with_reducible apply Junk.junk | with_reducible apply Junk.drew | with_reducible apply Junk.drewN | (with_reducible refine Junk.setCell ?_ (by simp) _))))) ?_; clear hK K; refine wpMixU_e rfl (fun osm15_8 dm15_8 K hK => ?_); (go_simp; try go_bits); (go_at_call 14; (refine (HN3.out _ (HJV.out.trans (by (exact jkc))) _ (NumsAt.on (hq7 _ (by simp)) (by (exact jkc)))).mono ?_); rintro e w' ⟨rfl, ⟨osa, da, rfl⟩⟩); refine hK _ _ (Junk.pair (by (first | exact jkc | repeat (first | with_reducible exact Junk.refl _ | with_reducible exact Junk.app _ _ _ _ _ | with_reducible apply Junk.alloc | with_reducible apply Junk.junk | with_reducible apply Junk.drew | with_reducible apply Junk.drewN | (with_reducible refine Junk.setCell ?_ (by simp) _))))) ?_; clear hK K; (iterate 2 ((refine wpMixU_q rfl (fun K hK => ?_); (go_simp; try go_bits); first | (refine hK _ ?_; clear hK K) | (apply Exists.intro; refine ⟨fun _ => ?_, hK _ ?_⟩; (first | (go_at_call 13; first | with_reducible exact HN1.out _ (HJV.out.trans (by (exact jkc))) | with_reducible exact HN2.out _ (HJV.out.trans (by (exact jkc))))); clear hK K)))); refine wpMixU_e rfl (fun osm15_9 dm15_9 K hK => ?_); (go_simp; try go_bits); (go_at_call 14; (refine (HN4.out _ (HJV.out.trans (by (exact jkc))) _ (NumsAt.on (hq23 _ (by simp)) (by (exact jkc)))).mono ?_); rintro e w' ⟨rfl, ⟨osb, db, rfl⟩⟩); refine hK _ _ (Junk.pair (by (first | exact jkc | repeat (first | with_reducible exact Junk.refl _ | with_reducible exact Junk.app _ _ _ _ _ | with_reducible apply Junk.alloc | with_reducible apply Junk.junk | with_reducible apply Junk.drew | with_reducible apply Junk.drewN | (with_reducible refine Junk.setCell ?_ (by simp) _))))) ?_; clear hK K; refine wpMixU_e rfl (fun osm15_10 dm15_10 K hK => ?_); (go_simp; try go_bits); refine with_strs [⟨#[114, 117, 108, 101]⟩, s1, s2, s3, s4, ac] rfl (by simp) (fun hs26 => ?_); refine hK _ _ (Junk.pair (by (first | exact jkc | repeat (first | with_reducible exact Junk.refl _ | with_reducible exact Junk.app _ _ _ _ _ | with_reducible apply Junk.alloc | with_reducible apply Junk.junk | with_reducible apply Junk.drew | with_reducible apply Junk.drewN | (with_reducible refine Junk.setCell ?_ (by simp) _))))) ?_; clear hK K; refine wpMixU_l rfl (fun osm15_11 dm15_11 K hK => ?_); (go_simp; try go_bits); (go_at_call 12; (refine (HBR2.out V HJV.out _ (by (exact jkc)) _ _ 6 [⟨#[114, 117, 108, 101]⟩, s1, s2, s3, s4, ac] 0 (Own.on (hs26 _ (by simp)) (by (exact jkc))) rfl (by simp) (by omega) _ HLJ.out HLL.out).mono ?_); rintro e w' ⟨rfl, hb1, hb2⟩); refine hK _ _ (fun osm dm => ?_); clear hK K)); (case' ma6 => (refine wpMixU_e rfl (fun osm15_12 dm15_12 K hK => ?_); (go_simp; try go_bits); (go_at_call 14; (refine (HN3.out _ (HJV.out.trans (by (exact jkc))) _ (NumsAt.on (hq7 _ (by simp)) (by (exact jkc)))).mono ?_); rintro e w' ⟨rfl, ⟨osa, da, rfl⟩⟩); refine hK _ _ (Junk.pair (by (first | exact jkc | repeat (first | with_reducible exact Junk.refl _ | with_reducible exact Junk.app _ _ _ _ _ | with_reducible apply Junk.alloc | with_reducible apply Junk.junk | with_reducible apply Junk.drew | with_reducible apply Junk.drewN | (with_reducible refine Junk.setCell ?_ (by simp) _))))) ?_; clear hK K; (iterate 2 ((refine wpMixU_q rfl (fun K hK => ?_); (go_simp; try go_bits); first | (refine hK _ ?_; clear hK K) | (apply Exists.intro; refine ⟨fun _ => ?_, hK _ ?_⟩; (first | (go_at_call 13; first | with_reducible exact HN1.out _ (HJV.out.trans (by (exact jkc))) | with_reducible exact HN2.out _ (HJV.out.trans (by (exact jkc))))); clear hK K)))); refine wpMixU_e rfl (fun osm15_13 dm15_13 K hK => ?_); (go_simp; try go_bits); refine with_nums [x.lo, x.hi] rfl (fun hq23 => ?_); refine hK _ _ (Junk.pair (by (first | exact jkc | repeat (first | with_reducible exact Junk.refl _ | with_reducible exact Junk.app _ _ _ _ _ | with_reducible apply Junk.alloc | with_reducible apply Junk.junk | with_reducible apply Junk.drew | with_reducible apply Junk.drewN | (with_reducible refine Junk.setCell ?_ (by simp) _))))) ?_; clear hK K; refine wpMixU_e rfl (fun osm15_14 dm15_14 K hK => ?_); (go_simp; try go_bits); (go_at_call 14; (refine (HN4.out _ (HJV.out.trans (by (exact jkc))) _ (NumsAt.on (hq23 _ (by simp)) (by (exact jkc)))).mono ?_); rintro e w' ⟨rfl, ⟨osb, db, rfl⟩⟩); refine hK _ _ (Junk.pair (by (first | exact jkc | repeat (first | with_reducible exact Junk.refl _ | with_reducible exact Junk.app _ _ _ _ _ | with_reducible apply Junk.alloc | with_reducible apply Junk.junk | with_reducible apply Junk.drew | with_reducible apply Junk.drewN | (with_reducible refine Junk.setCell ?_ (by simp) _))))) ?_; clear hK K; refine wpMixU_e rfl (fun osm15_15 dm15_15 K hK => ?_); (go_simp; try go_bits); refine with_strs [⟨#[114, 117, 108, 101]⟩, s1, s2, s3, s4, ac] rfl (by simp) (fun hs26 => ?_); refine hK _ _ (Junk.pair (by (first | exact jkc | repeat (first | with_reducible exact Junk.refl _ | with_reducible exact Junk.app _ _ _ _ _ | with_reducible apply Junk.alloc | with_reducible apply Junk.junk | with_reducible apply Junk.drew | with_reducible apply Junk.drewN | (with_reducible refine Junk.setCell ?_ (by simp) _))))) ?_; clear hK K; refine wpMixU_l rfl (fun osm15_16 dm15_16 K hK => ?_); (go_simp; try go_bits); (go_at_call 12; (refine (HBR2.out V HJV.out _ (by (exact jkc)) _ _ 6 [⟨#[114, 117, 108, 101]⟩, s1, s2, s3, s4, ac] 0 (Own.on (hs26 _ (by simp)) (by (exact jkc))) rfl (by simp) (by omega) _ HLJ.out HLL.out).mono ?_); rintro e w' ⟨rfl, hb1, hb2⟩); refine hK _ _ (fun osm dm => ?_); clear hK K))))))
          all_goals
            have hB : Below b wr w' := Below.trans (Junk.below (HJV.out.trans (by (exact jkc))) hbw) hb2
            have hj1 : Junk w' (w'.junk osm dm) := ⟨_, _, rfl⟩
            have HB1 := Lib.hid (bld_on hb1 hj1)
            have HB2 := Lib.hid (HWR.out.trans (hB.trans (hj1.below (Nat.le_trans hbw hB.size))))
            generalize w'.junk osm dm = w9 at HB1 HB2 ⊢
            clear hb1 hb2 hB hj1
            go_wp2
            refine ⟨⟨i1 + 1, by go_num, by omega, ?_, HB2⟩, by simp [intOf]; omega⟩
            rw [← HST.out]
            exact HB1
        · have hac := hac2 h2
          have h2b : (x.action == 2) = false := by rw [beq_eq_false_iff_ne]; exact h2
          have HAC := Lib.hid hac
          clear hac hac1 hac2
          go_upto_region 15 with (fail)
          rw [← HAC.out]
          refine wp_region_mixU (V) 27 (.q 0 (.q 1 (.q 2 (.q 3 (.q 4 (.q 5 (.q 6 (.q 9 (.q 10 (.q 11 (.q 12 (.q 14 (.q 15 (.q 16 (.q 17 (.q 19 (.q 20 (.q 21 (.q 22 (.q 25 (.two 7 (.two 8 (.q 13 (.q 18 (.e 23 (.e 24 (.e 26 (.l 27)))))) 23 (.e 8 (.q 13 (.q 18 (.e 24 (.e 26 (.l 27))))))) 23 (.e 7 (.e 8 (.q 13 (.q 18 (.e 24 (.e 26 (.l 27)))))))))))))))))))))))))))) (by kernel_rfl) (by kernel_rfl) (by (exact jkc)) ?_; (iterate 20 ((refine wpMixU_q rfl (fun K hK => ?_); (go_simp; try go_bits); first | (refine hK _ ?_; clear hK K) | (apply Exists.intro; refine ⟨fun _ => ?_, hK _ ?_⟩; (first | (go_at_call 13; first | with_reducible exact HN1.out _ (HJV.out.trans (by (exact jkc))) | with_reducible exact HN2.out _ (HJV.out.trans (by (exact jkc))))); clear hK K)))); focus (refine wpMixU_two ?ma3 ?mb3; (case' mb3 => (refine wpMixU_e rfl (fun osm15_0 dm15_0 K hK => ?_); (go_simp; try go_bits); refine with_nums [x.lo, x.hi] rfl (fun hq23 => ?_); refine hK _ _ (Junk.pair (by (first | exact jkc | repeat (first | with_reducible exact Junk.refl _ | with_reducible exact Junk.app _ _ _ _ _ | with_reducible apply Junk.alloc | with_reducible apply Junk.junk | with_reducible apply Junk.drew | with_reducible apply Junk.drewN | (with_reducible refine Junk.setCell ?_ (by simp) _))))) ?_; clear hK K; refine wpMixU_e rfl (fun osm15_1 dm15_1 K hK => ?_); (go_simp; try go_bits); refine with_nums [x.fr, x.tt, x.proto] rfl (fun hq7 => ?_); refine hK _ _ (Junk.pair (by (first | exact jkc | repeat (first | with_reducible exact Junk.refl _ | with_reducible exact Junk.app _ _ _ _ _ | with_reducible apply Junk.alloc | with_reducible apply Junk.junk | with_reducible apply Junk.drew | with_reducible apply Junk.drewN | (with_reducible refine Junk.setCell ?_ (by simp) _))))) ?_; clear hK K; refine wpMixU_e rfl (fun osm15_2 dm15_2 K hK => ?_); (go_simp; try go_bits); (go_at_call 14; (refine (HN3.out _ (HJV.out.trans (by (exact jkc))) _ (NumsAt.on (hq7 _ (by simp)) (by (exact jkc)))).mono ?_); rintro e w' ⟨rfl, ⟨osa, da, rfl⟩⟩); refine hK _ _ (Junk.pair (by (first | exact jkc | repeat (first | with_reducible exact Junk.refl _ | with_reducible exact Junk.app _ _ _ _ _ | with_reducible apply Junk.alloc | with_reducible apply Junk.junk | with_reducible apply Junk.drew | with_reducible apply Junk.drewN | (with_reducible refine Junk.setCell ?_ (by simp) _))))) ?_; clear hK K; (iterate 2 ((refine wpMixU_q rfl (fun K hK => ?_); (go_simp; try go_bits); first | (refine hK _ ?_; clear hK K) | (apply Exists.intro; refine ⟨fun _ => ?_, hK _ ?_⟩; (first | (go_at_call 13; first | with_reducible exact HN1.out _ (HJV.out.trans (by (exact jkc))) | with_reducible exact HN2.out _ (HJV.out.trans (by (exact jkc))))); clear hK K)))); refine wpMixU_e rfl (fun osm15_3 dm15_3 K hK => ?_); (go_simp; try go_bits); (go_at_call 14; (refine (HN4.out _ (HJV.out.trans (by (exact jkc))) _ (NumsAt.on (hq23 _ (by simp)) (by (exact jkc)))).mono ?_); rintro e w' ⟨rfl, ⟨osb, db, rfl⟩⟩); refine hK _ _ (Junk.pair (by (first | exact jkc | repeat (first | with_reducible exact Junk.refl _ | with_reducible exact Junk.app _ _ _ _ _ | with_reducible apply Junk.alloc | with_reducible apply Junk.junk | with_reducible apply Junk.drew | with_reducible apply Junk.drewN | (with_reducible refine Junk.setCell ?_ (by simp) _))))) ?_; clear hK K; refine wpMixU_e rfl (fun osm15_4 dm15_4 K hK => ?_); (go_simp; try go_bits); refine with_strs [⟨#[114, 117, 108, 101]⟩, s1, s2, s3, s4, ac] rfl (by simp) (fun hs26 => ?_); refine hK _ _ (Junk.pair (by (first | exact jkc | repeat (first | with_reducible exact Junk.refl _ | with_reducible exact Junk.app _ _ _ _ _ | with_reducible apply Junk.alloc | with_reducible apply Junk.junk | with_reducible apply Junk.drew | with_reducible apply Junk.drewN | (with_reducible refine Junk.setCell ?_ (by simp) _))))) ?_; clear hK K; refine wpMixU_l rfl (fun osm15_5 dm15_5 K hK => ?_); (go_simp; try go_bits); (go_at_call 12; (refine (HBR2.out V HJV.out _ (by (exact jkc)) _ _ 6 [⟨#[114, 117, 108, 101]⟩, s1, s2, s3, s4, ac] 0 (Own.on (hs26 _ (by simp)) (by (exact jkc))) rfl (by simp) (by omega) _ HLJ.out HLL.out).mono ?_); rintro e w' ⟨rfl, hb1, hb2⟩); refine hK _ _ (fun osm dm => ?_); clear hK K)); (case' ma3 => (refine wpMixU_e rfl (fun osm15_6 dm15_6 K hK => ?_); (go_simp; try go_bits); refine with_nums [x.fr, x.tt, x.proto] rfl (fun hq7 => ?_); refine hK _ _ (Junk.pair (by (first | exact jkc | repeat (first | with_reducible exact Junk.refl _ | with_reducible exact Junk.app _ _ _ _ _ | with_reducible apply Junk.alloc | with_reducible apply Junk.junk | with_reducible apply Junk.drew | with_reducible apply Junk.drewN | (with_reducible refine Junk.setCell ?_ (by simp) _))))) ?_; clear hK K; focus (refine wpMixU_two ?ma4 ?mb4; (case' mb4 => (refine wpMixU_e rfl (fun osm15_7 dm15_7 K hK => ?_); (go_simp; try go_bits); refine with_nums [x.lo, x.hi] rfl (fun hq23 => ?_); refine hK _ _ (Junk.pair (by (first | exact jkc | repeat (first | with_reducible exact Junk.refl _ | with_reducible exact Junk.app _ _ _ _ _ | with_reducible apply Junk.alloc | with_reducible apply Junk.junk | with_reducible apply Junk.drew | with_reducible apply Junk.drewN | (with_reducible refine Junk.setCell ?_ (by simp) _))))) ?_; clear hK K; refine wpMixU_e rfl (fun osm15_8 dm15_8 K hK => ?_); (go_simp; try go_bits); (go_at_call 14; (refine (HN3.out _ (HJV.out.trans (by (exact jkc))) _ (NumsAt.on (hq7 _ (by simp)) (by (exact jkc)))).mono ?_); rintro e w' ⟨rfl, ⟨osa, da, rfl⟩⟩); refine hK _ _ (Junk.pair (by (first | exact jkc | repeat (first | with_reducible exact Junk.refl _ | with_reducible exact Junk.app _ _ _ _ _ | with_reducible apply Junk.alloc | with_reducible apply Junk.junk | with_reducible apply Junk.drew | with_reducible apply Junk.drewN | (with_reducible refine Junk.setCell ?_ (by simp) _))))) ?_; clear hK K; (iterate 2 ((refine wpMixU_q rfl (fun K hK => ?_); (go_simp; try go_bits); first | (refine hK _ ?_; clear hK K) | (apply Exists.intro; refine ⟨fun _ => ?_, hK _ ?_⟩; (first | (go_at_call 13; first | with_reducible exact HN1.out _ (HJV.out.trans (by (exact jkc))) | with_reducible exact HN2.out _ (HJV.out.trans (by (exact jkc))))); clear hK K)))); refine wpMixU_e rfl (fun osm15_9 dm15_9 K hK => ?_); (go_simp; try go_bits); (go_at_call 14; (refine (HN4.out _ (HJV.out.trans (by (exact jkc))) _ (NumsAt.on (hq23 _ (by simp)) (by (exact jkc)))).mono ?_); rintro e w' ⟨rfl, ⟨osb, db, rfl⟩⟩); refine hK _ _ (Junk.pair (by (first | exact jkc | repeat (first | with_reducible exact Junk.refl _ | with_reducible exact Junk.app _ _ _ _ _ | with_reducible apply Junk.alloc | with_reducible apply Junk.junk | with_reducible apply Junk.drew | with_reducible apply Junk.drewN | (with_reducible refine Junk.setCell ?_ (by simp) _))))) ?_; clear hK K; refine wpMixU_e rfl (fun osm15_10 dm15_10 K hK => ?_); (go_simp; try go_bits); refine with_strs [⟨#[114, 117, 108, 101]⟩, s1, s2, s3, s4, ac] rfl (by simp) (fun hs26 => ?_); refine hK _ _ (Junk.pair (by (first | exact jkc | repeat (first | with_reducible exact Junk.refl _ | with_reducible exact Junk.app _ _ _ _ _ | with_reducible apply Junk.alloc | with_reducible apply Junk.junk | with_reducible apply Junk.drew | with_reducible apply Junk.drewN | (with_reducible refine Junk.setCell ?_ (by simp) _))))) ?_; clear hK K; refine wpMixU_l rfl (fun osm15_11 dm15_11 K hK => ?_); (go_simp; try go_bits); (go_at_call 12; (refine (HBR2.out V HJV.out _ (by (exact jkc)) _ _ 6 [⟨#[114, 117, 108, 101]⟩, s1, s2, s3, s4, ac] 0 (Own.on (hs26 _ (by simp)) (by (exact jkc))) rfl (by simp) (by omega) _ HLJ.out HLL.out).mono ?_); rintro e w' ⟨rfl, hb1, hb2⟩); refine hK _ _ (fun osm dm => ?_); clear hK K)); (case' ma4 => (refine wpMixU_e rfl (fun osm15_12 dm15_12 K hK => ?_); (go_simp; try go_bits); (go_at_call 14; (refine (HN3.out _ (HJV.out.trans (by (exact jkc))) _ (NumsAt.on (hq7 _ (by simp)) (by (exact jkc)))).mono ?_); rintro e w' ⟨rfl, ⟨osa, da, rfl⟩⟩); refine hK _ _ (Junk.pair (by (first | exact jkc | repeat (first | with_reducible exact Junk.refl _ | with_reducible exact Junk.app _ _ _ _ _ | with_reducible apply Junk.alloc | with_reducible apply Junk.junk | with_reducible apply Junk.drew | with_reducible apply Junk.drewN | (with_reducible refine Junk.setCell ?_ (by simp) _))))) ?_; clear hK K; (iterate 2 ((refine wpMixU_q rfl (fun K hK => ?_); (go_simp; try go_bits); first | (refine hK _ ?_; clear hK K) | (apply Exists.intro; refine ⟨fun _ => ?_, hK _ ?_⟩; (first | (go_at_call 13; first | with_reducible exact HN1.out _ (HJV.out.trans (by (exact jkc))) | with_reducible exact HN2.out _ (HJV.out.trans (by (exact jkc))))); clear hK K)))); refine wpMixU_e rfl (fun osm15_13 dm15_13 K hK => ?_); (go_simp; try go_bits); refine with_nums [x.lo, x.hi] rfl (fun hq23 => ?_); refine hK _ _ (Junk.pair (by (first | exact jkc | repeat (first | with_reducible exact Junk.refl _ | with_reducible exact Junk.app _ _ _ _ _ | with_reducible apply Junk.alloc | with_reducible apply Junk.junk | with_reducible apply Junk.drew | with_reducible apply Junk.drewN | (with_reducible refine Junk.setCell ?_ (by simp) _))))) ?_; clear hK K; refine wpMixU_e rfl (fun osm15_14 dm15_14 K hK => ?_); (go_simp; try go_bits); (go_at_call 14; (refine (HN4.out _ (HJV.out.trans (by (exact jkc))) _ (NumsAt.on (hq23 _ (by simp)) (by (exact jkc)))).mono ?_); rintro e w' ⟨rfl, ⟨osb, db, rfl⟩⟩); refine hK _ _ (Junk.pair (by (first | exact jkc | repeat (first | with_reducible exact Junk.refl _ | with_reducible exact Junk.app _ _ _ _ _ | with_reducible apply Junk.alloc | with_reducible apply Junk.junk | with_reducible apply Junk.drew | with_reducible apply Junk.drewN | (with_reducible refine Junk.setCell ?_ (by simp) _))))) ?_; clear hK K; refine wpMixU_e rfl (fun osm15_15 dm15_15 K hK => ?_); (go_simp; try go_bits); refine with_strs [⟨#[114, 117, 108, 101]⟩, s1, s2, s3, s4, ac] rfl (by simp) (fun hs26 => ?_); refine hK _ _ (Junk.pair (by (first | exact jkc | repeat (first | with_reducible exact Junk.refl _ | with_reducible exact Junk.app _ _ _ _ _ | with_reducible apply Junk.alloc | with_reducible apply Junk.junk | with_reducible apply Junk.drew | with_reducible apply Junk.drewN | (with_reducible refine Junk.setCell ?_ (by simp) _))))) ?_; clear hK K; refine wpMixU_l rfl (fun osm15_16 dm15_16 K hK => ?_); (go_simp; try go_bits); (go_at_call 12; (refine (HBR2.out V HJV.out _ (by (exact jkc)) _ _ 6 [⟨#[114, 117, 108, 101]⟩, s1, s2, s3, s4, ac] 0 (Own.on (hs26 _ (by simp)) (by (exact jkc))) rfl (by simp) (by omega) _ HLJ.out HLL.out).mono ?_); rintro e w' ⟨rfl, hb1, hb2⟩); refine hK _ _ (fun osm dm => ?_); clear hK K))))))
          all_goals
            have hB : Below b wr w' := Below.trans (Junk.below (HJV.out.trans (by (exact jkc))) hbw) hb2
            have hj1 : Junk w' (w'.junk osm dm) := ⟨_, _, rfl⟩
            have HB1 := Lib.hid (bld_on hb1 hj1)
            have HB2 := Lib.hid (HWR.out.trans (hB.trans (hj1.below (Nat.le_trans hbw hB.size))))
            generalize w'.junk osm dm = w9 at HB1 HB2 ⊢
            clear hb1 hb2 hB hj1
            go_wp2
            refine ⟨⟨i1 + 1, by go_num, by omega, ?_, HB2⟩, by simp [intOf]; omega⟩
            rw [← HST.out]
            exact HB1
      obtain rfl : i1 = n1 := by omega
      have hi4 : ¬ (i1 : Int) < (i1 : Int) := by omega
      obtain ⟨T1, hT1⟩ : ∃ T, T0 ++ (Y.map ruleL).flatMap lineT = T := ⟨_, rfl⟩
      have hbr := HBR.out
      rw [List.take_of_length_le (by rw [HY.out]; exact Nat.le_refl _), hT1] at hbr
      have hl1 : T1.length ≤ 251 * 128 := by
        have h1 := lines_len ruleL Y (fun y hy => rule_len y (HR.out.2.1.2 y hy) (HT.out.2.1 y hy))
        rw [HY.out] at h1
        rw [← hT1, List.length_append]
        omega
      have hc2 := (HBX.out _ HWR.out).cell (j := 2) rfl
      have hbw : b ≤ wr.heap.size := by have := HWR.out.size; omega
      have HK := Lib.hid (linek hbr hbw (by omega))
      have hou := HR.out.2.2.1
      have HNO := Lib.hid (nums_at wr [ou] (fun w1 hj => (HEW.out _ HWR.out).junk hj) 1 rfl (by omega) (by omega) (by intro y hy; simp at hy; subst hy; simp only at hou; omega))
      have hlj : jn (w8s [⟨#[111, 117, 116, 115, 105, 100, 101]⟩, mkS (jn ([ou].map Lib.itoa))]) = jn (outL ⟨X, Y, ou, pu, lo, hi, Z, tc, ot, bu⟩) := by
        simp [w8s, mkS, outL, jn, wOutside]
      have hll : (jn (outL ⟨X, Y, ou, pu, lo, hi, Z, tc, ot, bu⟩)).length ≤ 250 := by
        have h3 := itoa_len ou 18 (by simp only at hou; omega)
        refine Nat.le_trans (jn_len _) ?_
        simp only [outL, lensW, List.map_cons, List.map_nil, List.sum_cons, List.sum_nil, show wOutside.length = 7 from rfl]
        omega
      have HLJ := Lib.hid hlj
      have HLL := Lib.hid hll
      have HT1 := Lib.hid hT1
      have HW1 := HWR
      generalize mkS (jn ([ou].map Lib.itoa)) = s1 at *
      clear HBR hbr hlj hll hou hT1 HB0 HW0
      go_upto_region 18 with (first
        | (go_at_call 14; (refine (HNO.out _ (by (exact jkc)) _ (nums_lit wr [ou] #[.int .i64 ou] rfl _ (by simp))).mono ?_); rintro e w' ⟨rfl, ⟨os5, d5, rfl⟩⟩)
        | (go_at_call 12; (refine (HK.out _ (by (exact jkc)) _ _ 2 [⟨#[111, 117, 116, 115, 105, 100, 101]⟩, s1] 0 (own_strs ((wr.alloc (.cells #[.int .i64 ou] 3)).junk os5 d5) [⟨#[111, 117, 116, 115, 105, 100, 101]⟩, s1] _ rfl _ 2 (by simp) rfl (by omega)) rfl (by simp) (by omega) _ HLJ.out HLL.out).mono ?_); rintro e w6 ⟨rfl, hb1, hb2⟩))
      have hB := Below.trans (Junk.below (show Junk wr ((((wr.alloc (.cells #[.int .i64 ou] 3)).junk os5 d5).alloc (.cells #[.string ⟨#[111, 117, 116, 115, 105, 100, 101]⟩, .string s1] 9))) by (exact jkc)) hbw) hb2
      have HB2 := Lib.hid hb1
      have HW2 := Lib.hid (HW1.out.trans hB)
      have hbw6 : b ≤ w6.heap.size := by have := HW2.out.size; omega
      have hla6 : a < w6.heap.size := by omega
      have hc3 := (HBX.out _ HW2.out).cell (j := 3) rfl
      have hc4 := (HBX.out _ HW2.out).cell (j := 4) rfl
      have hc5 := (HBX.out _ HW2.out).cell (j := 5) rfl
      obtain ⟨T2, hT2⟩ : ∃ T, T1 ++ lineT (outL ⟨X, Y, ou, pu, lo, hi, Z, tc, ot, bu⟩) = T := ⟨_, rfl⟩
      have hl2 : T2.length ≤ 251 * 129 := by rw [← hT2]; unfold lineT; rw [List.length_append, List.length_append]; have := HLL.out; simp only [List.length_singleton]; omega
      have hb1' : Bld b b (Lib.byteCells T2) w6 := hT2 ▸ hb1
      have HT2 := Lib.hid hT2
      have HK2 := Lib.hid (linek hb1' hbw6 (by omega))
      have hpu : pu < 4294967296 := HT.out.2.2.1
      have hlh := HR.out.2.2.2.1
      simp only at hlh
      have HND := Lib.hid (fun w1 (hj : Junk w6 w1) => dotted_any pu hpu w1 ((HEW.out _ HW2.out).junk hj))
      have HNP := Lib.hid (nums_at w6 [lo, hi] (fun w1 hj => (HEW.out _ HW2.out).junk hj) 2 rfl (by omega) (by omega) (by intro y hy; simp at hy; rcases hy with rfl | rfl <;> omega))
      have hlj2 : jn (w8s [⟨#[112, 117, 98, 108, 105, 99]⟩, mkS (dotW pu), mkS (jn ([lo, hi].map Lib.itoa))]) = jn (pubL ⟨X, Y, ou, pu, lo, hi, Z, tc, ot, bu⟩) := by
        simp [w8s, mkS, pubL, jn, wPublic]
      have hll2 : (jn (pubL ⟨X, Y, ou, pu, lo, hi, Z, tc, ot, bu⟩)).length ≤ 250 := by
        have h1 := dotW_len pu hpu
        have h3 := itoa_len lo 18 (by omega)
        have h4 := itoa_len hi 18 (by omega)
        refine Nat.le_trans (jn_len _) ?_
        simp only [pubL, lensW, List.map_cons, List.map_nil, List.sum_cons, List.sum_nil, show wPublic.length = 6 from rfl]
        omega
      have HLJ2 := Lib.hid hlj2
      have HLL2 := Lib.hid hll2
      generalize mkS (dotW pu) = s2 at *
      generalize mkS (jn ([lo, hi].map Lib.itoa)) = s3 at *
      clear hb1 hb1' hb2 hB hlj2 hll2 hlh hT2 HNO HLJ HLL HWR HW1
      refine wp_region_mixU (w6) 11 (.q 0 (.q 1 (.q 2 (.q 3 (.q 4 (.q 5 (.q 6 (.q 7 (.e 8 (.e 9 (.e 10 (.l 11)))))))))))) (by kernel_rfl) (by kernel_rfl) (by (exact jkc)) ?_; (iterate 8 ((refine wpMixU_q rfl (fun K hK => ?_); (go_simp; try go_bits); first | (refine hK _ ?_; clear hK K) | (apply Exists.intro; refine ⟨fun _ => ?_, hK _ ?_⟩; (first | (go_at_call 15; with_reducible exact HND.out _ (by (exact jkc)))); clear hK K)))); refine wpMixU_e rfl (fun osm18_0 dm18_0 K hK => ?_); (go_simp; try go_bits); refine with_nums [lo, hi] rfl (fun hq8 => ?_); refine hK _ _ (Junk.pair (by (first | exact jkc | repeat (first | with_reducible exact Junk.refl _ | with_reducible exact Junk.app _ _ _ _ _ | with_reducible apply Junk.alloc | with_reducible apply Junk.junk | with_reducible apply Junk.drew | with_reducible apply Junk.drewN | (with_reducible refine Junk.setCell ?_ (by simp) _))))) ?_; clear hK K; refine wpMixU_e rfl (fun osm18_1 dm18_1 K hK => ?_); (go_simp; try go_bits); (go_at_call 14; (refine (HNP.out _ (by (exact jkc)) _ (NumsAt.on (hq8 _ (by simp)) (by (exact jkc)))).mono ?_); rintro e w' ⟨rfl, ⟨osa, da, rfl⟩⟩); refine hK _ _ (Junk.pair (by (first | exact jkc | repeat (first | with_reducible exact Junk.refl _ | with_reducible exact Junk.app _ _ _ _ _ | with_reducible apply Junk.alloc | with_reducible apply Junk.junk | with_reducible apply Junk.drew | with_reducible apply Junk.drewN | (with_reducible refine Junk.setCell ?_ (by simp) _))))) ?_; clear hK K; refine wpMixU_e rfl (fun osm18_2 dm18_2 K hK => ?_); (go_simp; try go_bits); refine with_strs [⟨#[112, 117, 98, 108, 105, 99]⟩, s2, s3] rfl (by simp) (fun hs10 => ?_); refine hK _ _ (Junk.pair (by (first | exact jkc | repeat (first | with_reducible exact Junk.refl _ | with_reducible exact Junk.app _ _ _ _ _ | with_reducible apply Junk.alloc | with_reducible apply Junk.junk | with_reducible apply Junk.drew | with_reducible apply Junk.drewN | (with_reducible refine Junk.setCell ?_ (by simp) _))))) ?_; clear hK K; refine wpMixU_l rfl (fun osm18_3 dm18_3 K hK => ?_); (go_simp; try go_bits); (go_at_call 12; (refine (HK2.out _ (by (exact jkc)) _ _ 3 [⟨#[112, 117, 98, 108, 105, 99]⟩, s2, s3] 0 (Own.on (hs10 _ (by simp)) (by (exact jkc))) rfl (by simp) (by omega) _ HLJ2.out HLL2.out).mono ?_); rintro e w7 ⟨rfl, hb1, hb2⟩); refine hK _ _ (fun osm dm => ?_); clear hK K
      have hB := Below.trans (Junk.below (show Junk w6 _ by (exact jkc)) hbw6) hb2
      have hj1 : Junk w7 (w7.junk osm dm) := ⟨_, _, rfl⟩
      have HB3 := Lib.hid (bld_on hb1 hj1)
      have HW3 := Lib.hid (HW2.out.trans (hB.trans (hj1.below (Nat.le_trans hbw6 hB.size))))
      generalize w7.junk osm dm = w8 at HB3 HW3 ⊢
      have hc6 := (HBX.out _ HW3.out).cell (j := 6) rfl
      obtain ⟨T3, hT3⟩ : ∃ T, T2 ++ lineT (pubL ⟨X, Y, ou, pu, lo, hi, Z, tc, ot, bu⟩) = T := ⟨_, rfl⟩
      have hl3 : T3.length ≤ 251 * 130 := by rw [← hT3]; unfold lineT; rw [List.length_append, List.length_append]; have := HLL2.out; simp only [List.length_singleton]; omega
      have HB4 := Lib.hid (show Bld b b (Lib.byteCells T3) w8 from hT3 ▸ HB3.out)
      have HT3 := Lib.hid hT3
      clear hb1 hb2 hB hj1 hT3 HB3 HND HNP HLJ2 HLL2 HW2 HK2 HB2
      go_wp2
      go_loopw [11, 12, 101] (fun v11 v12 v101 wr => ∃ (i : Nat), v101 = .int .i64 (i : Int) ∧ i ≤ n6 ∧ Hid (Bld b b (Lib.byteCells (T3 ++ ((Z.take i).map fwdL).flatMap lineT)) wr) ∧ Hid (Below b W wr)) (fun _ _ v _ => n6 + 1 - (intOf v).toNat)
      case atStart => exact ⟨0, rfl, by omega, by simpa using HB4, HW3⟩
      case round =>
        obtain ⟨i3, rfl, hil3, HBR, HWR⟩ := hrel
        by_cases hin3 : i3 < n6
        case pos =>
          obtain ⟨x, hx⟩ : ∃ x, Z[i3]? = some x := ⟨_, List.getElem?_eq_getElem (by rw [HZ.out]; exact hin3)⟩
          obtain ⟨g, off, hg, hgl, x0, x1, x2, x3, x4⟩ := (H6.out.on (HJW.out _ HWR.out)) i3 x hx
          have HX0 := Lib.hid hx
          subst hg
          have hi5 : (i3 : Int) < (n6 : Int) := by omega
          have hmay := (HR.out.2.2.2.2.1.2 i3 x hx).1
          have hnet : x.addr < 4294967296 := HT.out.2.2.2 x (List.mem_of_getElem? hx)
          have hll := fwd_len lo hi x hmay hnet
          have hst := lines_step fwdL Z i3 x hx T3
          have hTl := lines_len fwdL (Z.take i3) (fun y hy => by
            obtain ⟨j, hj⟩ := List.mem_iff_getElem?.1 (List.mem_of_mem_take hy)
            exact fwd_len lo hi y (HR.out.2.2.2.2.1.2 j y hj).1 (HT.out.2.2.2 y (List.mem_of_getElem? hj)))
          rw [List.length_take] at hTl
          obtain ⟨T, hTe⟩ : ∃ T, T3 ++ ((Z.take i3).map fwdL).flatMap lineT = T := ⟨_, rfl⟩
          have hTl2 : T.length ≤ 1000000 := by rw [← hTe, List.length_append]; omega
          rw [hTe] at HBR hst
          unfold fwMay at hmay
          simp only [decide_eq_true_eq] at hmay
          have hbr := HBR.out
          have HBR2 := Lib.hid (fun w1 (hj : Junk wr w1) => linek (bld_on hbr hj) (Nat.le_trans (by have := HWR.out.size; omega) hj.size) hTl2)
          have HN1 := Lib.hid (fun w1 (hj : Junk wr w1) => dotted_any x.addr hnet w1 ((HEW.out _ HWR.out).junk hj))
          have HN3 := Lib.hid (nums_at wr [x.proto, x.port] (fun w1 hj => (HEW.out _ HWR.out).junk hj) 2 rfl (by omega) (by omega) (by intro y hy; simp at hy; rcases hy with rfl | rfl <;> omega))
          have HN4 := Lib.hid (nums_at wr [x.tt] (fun w1 hj => (HEW.out _ HWR.out).junk hj) 1 rfl (by omega) (by omega) (by intro y hy; simp at hy; subst hy; omega))
          have hlj1 : x.proxy = false → jn (w8s [⟨#[102, 111, 114, 119, 97, 114, 100]⟩, mkS (jn ([x.proto, x.port].map Lib.itoa)), mkS (dotW x.addr), mkS (jn ([x.tt].map Lib.itoa))]) = jn (fwdL x) := fun h => by
            simp [w8s, mkS, fwdL, jn, wForward, h]
          have hlj2 : x.proxy = true → jn (w8s [⟨#[102, 111, 114, 119, 97, 114, 100]⟩, mkS (jn ([x.proto, x.port].map Lib.itoa)), mkS (dotW x.addr), mkS (jn ([x.tt].map Lib.itoa)), ⟨#[112, 114, 111, 120, 121]⟩]) = jn (fwdL x) := fun h => by
            simp [w8s, mkS, fwdL, jn, wForward, wProxy, h]
          have HLJ1 := Lib.hid hlj1
          have HLJ2 := Lib.hid hlj2
          have HLL := Lib.hid hll
          have HST := Lib.hid hst
          have hbw : b ≤ wr.heap.size := by have := HWR.out.size; omega
          generalize mkS (jn ([x.proto, x.port].map Lib.itoa)) = s1 at *
          generalize mkS (dotW x.addr) = s2 at *
          generalize mkS (jn ([x.tt].map Lib.itoa)) = s3 at *
          clear hx hlj1 hlj2 hll hst hTl hTe hbr hmay hnet
          go_upto_region 22 with (fail)
          have hjv : Junk wr (wr.alloc (.cells #[.int .i64 x.proto, .int .i64 x.port, .int .u32 x.addr, .int .i64 x.tt, .bool x.proxy] 40)) := (Junk.refl wr).alloc _
          have hbv := box_new wr #[.int .i64 x.proto, .int .i64 x.port, .int .u32 x.addr, .int .i64 x.tt, .bool x.proxy] 40
          generalize (wr.alloc (.cells #[.int .i64 x.proto, .int .i64 x.port, .int .u32 x.addr, .int .i64 x.tt, .bool x.proxy] 40)) = V at hjv hbv ⊢
          have r0 := hbv.cell (j := 0) rfl
          have r1 := hbv.cell (j := 1) rfl
          have r2 := hbv.cell (j := 2) rfl
          have r3 := hbv.cell (j := 3) rfl
          have r4 := hbv.cell (j := 4) rfl
          have rl := hbv.lt
          have HBV := Lib.hid hbv
          have HJV := Lib.hid hjv
          clear hjv hbv
          go_cut [12] (fun v12 wx => ∃ n : Nat, v12 = .slice (some ⟨n, 0, none⟩) 4 4 ∧ Hid (Own V.heap.size wx 9 1 (some ⟨n, 0, none⟩) 4 4 ([⟨#[102, 111, 114, 119, 97, 114, 100]⟩, s1, s2, s3].map Value.string)) ∧ Hid (Junk V wx))
          case first =>
            refine wp_region_mixU (V) 14 (.q 0 (.q 1 (.q 2 (.q 3 (.q 6 (.q 7 (.q 9 (.q 10 (.two 4 (.two 5 (.q 8 (.e 11 (.e 12 (.e 13 (.l 14))))) 11 (.e 5 (.q 8 (.e 12 (.e 13 (.l 14)))))) 11 (.e 4 (.e 5 (.q 8 (.e 12 (.e 13 (.l 14))))))))))))))) (by kernel_rfl) (by kernel_rfl) (by (exact jkc)) ?_; (iterate 8 ((refine wpMixU_q rfl (fun K hK => ?_); (go_simp; try go_bits); first | (refine hK _ ?_; clear hK K) | (apply Exists.intro; refine ⟨fun _ => ?_, hK _ ?_⟩; (first | (go_at_call 15; with_reducible exact HN1.out _ (HJV.out.trans (by (exact jkc))))); clear hK K)))); focus (refine wpMixU_two ?ma1 ?mb1; (case' mb1 => (refine wpMixU_e rfl (fun osm22_0 dm22_0 K hK => ?_); (go_simp; try go_bits); refine with_nums [x.tt] rfl (fun hq11 => ?_); refine hK _ _ (Junk.pair (by (first | exact jkc | repeat (first | with_reducible exact Junk.refl _ | with_reducible exact Junk.app _ _ _ _ _ | with_reducible apply Junk.alloc | with_reducible apply Junk.junk | with_reducible apply Junk.drew | with_reducible apply Junk.drewN | (with_reducible refine Junk.setCell ?_ (by simp) _))))) ?_; clear hK K; refine wpMixU_e rfl (fun osm22_1 dm22_1 K hK => ?_); (go_simp; try go_bits); refine with_nums [x.proto, x.port] rfl (fun hq4 => ?_); refine hK _ _ (Junk.pair (by (first | exact jkc | repeat (first | with_reducible exact Junk.refl _ | with_reducible exact Junk.app _ _ _ _ _ | with_reducible apply Junk.alloc | with_reducible apply Junk.junk | with_reducible apply Junk.drew | with_reducible apply Junk.drewN | (with_reducible refine Junk.setCell ?_ (by simp) _))))) ?_; clear hK K; refine wpMixU_e rfl (fun osm22_2 dm22_2 K hK => ?_); (go_simp; try go_bits); (go_at_call 14; (refine (HN3.out _ (HJV.out.trans (by (exact jkc))) _ (NumsAt.on (hq4 _ (by simp)) (by (exact jkc)))).mono ?_); rintro e w' ⟨rfl, ⟨osa, da, rfl⟩⟩); refine hK _ _ (Junk.pair (by (first | exact jkc | repeat (first | with_reducible exact Junk.refl _ | with_reducible exact Junk.app _ _ _ _ _ | with_reducible apply Junk.alloc | with_reducible apply Junk.junk | with_reducible apply Junk.drew | with_reducible apply Junk.drewN | (with_reducible refine Junk.setCell ?_ (by simp) _))))) ?_; clear hK K; (iterate 1 ((refine wpMixU_q rfl (fun K hK => ?_); (go_simp; try go_bits); first | (refine hK _ ?_; clear hK K) | (apply Exists.intro; refine ⟨fun _ => ?_, hK _ ?_⟩; (first | (go_at_call 15; with_reducible exact HN1.out _ (HJV.out.trans (by (exact jkc))))); clear hK K)))); refine wpMixU_e rfl (fun osm22_3 dm22_3 K hK => ?_); (go_simp; try go_bits); (go_at_call 14; (refine (HN4.out _ (HJV.out.trans (by (exact jkc))) _ (NumsAt.on (hq11 _ (by simp)) (by (exact jkc)))).mono ?_); rintro e w' ⟨rfl, ⟨osb, db, rfl⟩⟩); refine hK _ _ (Junk.pair (by (first | exact jkc | repeat (first | with_reducible exact Junk.refl _ | with_reducible exact Junk.app _ _ _ _ _ | with_reducible apply Junk.alloc | with_reducible apply Junk.junk | with_reducible apply Junk.drew | with_reducible apply Junk.drewN | (with_reducible refine Junk.setCell ?_ (by simp) _))))) ?_; clear hK K; refine wpMixU_e rfl (fun osm22_4 dm22_4 K hK => ?_); (go_simp; try go_bits); refine with_strb [⟨#[102, 111, 114, 119, 97, 114, 100]⟩, s1, s2, s3] rfl (by simp) (fun hs13 => ?_); refine hK _ _ (Junk.pair (by (first | exact jkc | repeat (first | with_reducible exact Junk.refl _ | with_reducible exact Junk.app _ _ _ _ _ | with_reducible apply Junk.alloc | with_reducible apply Junk.junk | with_reducible apply Junk.drew | with_reducible apply Junk.drewN | (with_reducible refine Junk.setCell ?_ (by simp) _))))) ?_; clear hK K; refine wpMixU_l rfl (fun osm22_5 dm22_5 K hK => ?_); (go_simp; try go_bits); refine hK _ _ (fun osm dm => ?_); clear hK K)); (case' ma1 => (refine wpMixU_e rfl (fun osm22_6 dm22_6 K hK => ?_); (go_simp; try go_bits); refine with_nums [x.proto, x.port] rfl (fun hq4 => ?_); refine hK _ _ (Junk.pair (by (first | exact jkc | repeat (first | with_reducible exact Junk.refl _ | with_reducible exact Junk.app _ _ _ _ _ | with_reducible apply Junk.alloc | with_reducible apply Junk.junk | with_reducible apply Junk.drew | with_reducible apply Junk.drewN | (with_reducible refine Junk.setCell ?_ (by simp) _))))) ?_; clear hK K; focus (refine wpMixU_two ?ma2 ?mb2; (case' mb2 => (refine wpMixU_e rfl (fun osm22_7 dm22_7 K hK => ?_); (go_simp; try go_bits); refine with_nums [x.tt] rfl (fun hq11 => ?_); refine hK _ _ (Junk.pair (by (first | exact jkc | repeat (first | with_reducible exact Junk.refl _ | with_reducible exact Junk.app _ _ _ _ _ | with_reducible apply Junk.alloc | with_reducible apply Junk.junk | with_reducible apply Junk.drew | with_reducible apply Junk.drewN | (with_reducible refine Junk.setCell ?_ (by simp) _))))) ?_; clear hK K; refine wpMixU_e rfl (fun osm22_8 dm22_8 K hK => ?_); (go_simp; try go_bits); (go_at_call 14; (refine (HN3.out _ (HJV.out.trans (by (exact jkc))) _ (NumsAt.on (hq4 _ (by simp)) (by (exact jkc)))).mono ?_); rintro e w' ⟨rfl, ⟨osa, da, rfl⟩⟩); refine hK _ _ (Junk.pair (by (first | exact jkc | repeat (first | with_reducible exact Junk.refl _ | with_reducible exact Junk.app _ _ _ _ _ | with_reducible apply Junk.alloc | with_reducible apply Junk.junk | with_reducible apply Junk.drew | with_reducible apply Junk.drewN | (with_reducible refine Junk.setCell ?_ (by simp) _))))) ?_; clear hK K; (iterate 1 ((refine wpMixU_q rfl (fun K hK => ?_); (go_simp; try go_bits); first | (refine hK _ ?_; clear hK K) | (apply Exists.intro; refine ⟨fun _ => ?_, hK _ ?_⟩; (first | (go_at_call 15; with_reducible exact HN1.out _ (HJV.out.trans (by (exact jkc))))); clear hK K)))); refine wpMixU_e rfl (fun osm22_9 dm22_9 K hK => ?_); (go_simp; try go_bits); (go_at_call 14; (refine (HN4.out _ (HJV.out.trans (by (exact jkc))) _ (NumsAt.on (hq11 _ (by simp)) (by (exact jkc)))).mono ?_); rintro e w' ⟨rfl, ⟨osb, db, rfl⟩⟩); refine hK _ _ (Junk.pair (by (first | exact jkc | repeat (first | with_reducible exact Junk.refl _ | with_reducible exact Junk.app _ _ _ _ _ | with_reducible apply Junk.alloc | with_reducible apply Junk.junk | with_reducible apply Junk.drew | with_reducible apply Junk.drewN | (with_reducible refine Junk.setCell ?_ (by simp) _))))) ?_; clear hK K; refine wpMixU_e rfl (fun osm22_10 dm22_10 K hK => ?_); (go_simp; try go_bits); refine with_strb [⟨#[102, 111, 114, 119, 97, 114, 100]⟩, s1, s2, s3] rfl (by simp) (fun hs13 => ?_); refine hK _ _ (Junk.pair (by (first | exact jkc | repeat (first | with_reducible exact Junk.refl _ | with_reducible exact Junk.app _ _ _ _ _ | with_reducible apply Junk.alloc | with_reducible apply Junk.junk | with_reducible apply Junk.drew | with_reducible apply Junk.drewN | (with_reducible refine Junk.setCell ?_ (by simp) _))))) ?_; clear hK K; refine wpMixU_l rfl (fun osm22_11 dm22_11 K hK => ?_); (go_simp; try go_bits); refine hK _ _ (fun osm dm => ?_); clear hK K)); (case' ma2 => (refine wpMixU_e rfl (fun osm22_12 dm22_12 K hK => ?_); (go_simp; try go_bits); (go_at_call 14; (refine (HN3.out _ (HJV.out.trans (by (exact jkc))) _ (NumsAt.on (hq4 _ (by simp)) (by (exact jkc)))).mono ?_); rintro e w' ⟨rfl, ⟨osa, da, rfl⟩⟩); refine hK _ _ (Junk.pair (by (first | exact jkc | repeat (first | with_reducible exact Junk.refl _ | with_reducible exact Junk.app _ _ _ _ _ | with_reducible apply Junk.alloc | with_reducible apply Junk.junk | with_reducible apply Junk.drew | with_reducible apply Junk.drewN | (with_reducible refine Junk.setCell ?_ (by simp) _))))) ?_; clear hK K; (iterate 1 ((refine wpMixU_q rfl (fun K hK => ?_); (go_simp; try go_bits); first | (refine hK _ ?_; clear hK K) | (apply Exists.intro; refine ⟨fun _ => ?_, hK _ ?_⟩; (first | (go_at_call 15; with_reducible exact HN1.out _ (HJV.out.trans (by (exact jkc))))); clear hK K)))); refine wpMixU_e rfl (fun osm22_13 dm22_13 K hK => ?_); (go_simp; try go_bits); refine with_nums [x.tt] rfl (fun hq11 => ?_); refine hK _ _ (Junk.pair (by (first | exact jkc | repeat (first | with_reducible exact Junk.refl _ | with_reducible exact Junk.app _ _ _ _ _ | with_reducible apply Junk.alloc | with_reducible apply Junk.junk | with_reducible apply Junk.drew | with_reducible apply Junk.drewN | (with_reducible refine Junk.setCell ?_ (by simp) _))))) ?_; clear hK K; refine wpMixU_e rfl (fun osm22_14 dm22_14 K hK => ?_); (go_simp; try go_bits); (go_at_call 14; (refine (HN4.out _ (HJV.out.trans (by (exact jkc))) _ (NumsAt.on (hq11 _ (by simp)) (by (exact jkc)))).mono ?_); rintro e w' ⟨rfl, ⟨osb, db, rfl⟩⟩); refine hK _ _ (Junk.pair (by (first | exact jkc | repeat (first | with_reducible exact Junk.refl _ | with_reducible exact Junk.app _ _ _ _ _ | with_reducible apply Junk.alloc | with_reducible apply Junk.junk | with_reducible apply Junk.drew | with_reducible apply Junk.drewN | (with_reducible refine Junk.setCell ?_ (by simp) _))))) ?_; clear hK K; refine wpMixU_e rfl (fun osm22_15 dm22_15 K hK => ?_); (go_simp; try go_bits); refine with_strb [⟨#[102, 111, 114, 119, 97, 114, 100]⟩, s1, s2, s3] rfl (by simp) (fun hs13 => ?_); refine hK _ _ (Junk.pair (by (first | exact jkc | repeat (first | with_reducible exact Junk.refl _ | with_reducible exact Junk.app _ _ _ _ _ | with_reducible apply Junk.alloc | with_reducible apply Junk.junk | with_reducible apply Junk.drew | with_reducible apply Junk.drewN | (with_reducible refine Junk.setCell ?_ (by simp) _))))) ?_; clear hK K; refine wpMixU_l rfl (fun osm22_16 dm22_16 K hK => ?_); (go_simp; try go_bits); refine hK _ _ (fun osm dm => ?_); clear hK K))))))
            all_goals
              go_wp2
              go_meet
              exact ⟨_, rfl, Lib.hid (Own.on (hs13 _ V.heap.size (by simp) (by simp; omega)) (by (exact jkc))), Lib.hid (by (exact jkc))⟩
          case rest =>
            obtain ⟨n4, rfl, HO4, HJ4⟩ := hcut
            have rl4 : wr.heap.size < wc.heap.size := Nat.lt_of_lt_of_le rl HJ4.out.size
            have r44 : wc.cell? ⟨wr.heap.size, 4, none⟩ = some (.bool x.proxy) := (HBV.out.on HJ4.out).cell (j := 4) rfl
            cases hpx : x.proxy with
            | false =>
              rw [hpx] at r44
              have HLJ := Lib.hid (HLJ1.out hpx)
              clear hpx
              go_wp2_with (go_at_call 12; (refine (HBR2.out V HJV.out _ HJ4.out _ _ 4 [⟨#[102, 111, 114, 119, 97, 114, 100]⟩, s1, s2, s3] _ HO4.out rfl (by simp) (by omega) _ HLJ.out HLL.out).mono ?_); rintro e w' ⟨rfl, hb1, hb2⟩)
              have hB := Below.trans (Junk.below (show Junk wr _ from HJV.out.trans HJ4.out) hbw) hb2
              have HB1 := Lib.hid hb1
              have HB2 := Lib.hid (HWR.out.trans hB)
              clear hb1 hb2 hB
              go_wp2
              refine ⟨⟨i3 + 1, by go_num, by omega, ?_, HB2⟩, by simp [intOf]; omega⟩
              rw [← HST.out]
              exact HB1
            | true =>
              rw [hpx] at r44
              have HLJ := Lib.hid (HLJ2.out hpx)
              clear hpx
              go_wp2_with (first
                | (at_builtin; (refine ap_own (W0 := V) rfl _ _ 56 rfl 9 (.string ⟨#[]⟩) 1 16 (by kernel_rfl) rfl (by decide) Tryz.underlying56 (HJ4.out.alloc _) _ 4 4 _ rfl (HO4.out.on (by (exact jkc))) _ 1 1 rfl [.string ⟨#[112, 114, 111, 120, 121]⟩] rfl (built_cells rfl) (fun h => by cases h) (by simp [Value.oneCell']) (by simp only [maxLen]; omega) (by omega) ?_; intro oz cz osz dz hown _; have HO5 := Lib.hid hown; clear hown))
                | (go_at_call 12; (refine (HBR2.out V HJV.out (V.junk osz dz) ⟨_, _, rfl⟩ _ _ 5 [⟨#[102, 111, 114, 119, 97, 114, 100]⟩, s1, s2, s3, ⟨#[112, 114, 111, 120, 121]⟩] _ (by simpa using HO5.out) rfl (by simp) (by omega) _ HLJ.out HLL.out).mono ?_); rintro e w' ⟨rfl, hb1, hb2⟩))
              have hB := Below.trans (Junk.below (show Junk wr _ from HJV.out.trans ⟨_, _, rfl⟩) hbw) hb2
              have HB1 := Lib.hid hb1
              have HB2 := Lib.hid (HWR.out.trans hB)
              clear hb1 hb2 hB
              go_wp2
              refine ⟨⟨i3 + 1, by go_num, by omega, ?_, HB2⟩, by simp [intOf]; omega⟩
              rw [← HST.out]
              exact HB1
        obtain rfl : i3 = n6 := by omega
        have hi6 : ¬ (i3 : Int) < (i3 : Int) := by omega
        obtain ⟨T4, hT4⟩ : ∃ T, T3 ++ (Z.map fwdL).flatMap lineT = T := ⟨_, rfl⟩
        have hbr := HBR.out
        rw [List.take_of_length_le (by rw [HZ.out]; exact Nat.le_refl _), hT4] at hbr
        have hl4 : T4.length ≤ 251 * 162 := by
          have h1 := lines_len fwdL Z (fun y hy => by
            obtain ⟨j, hj⟩ := List.mem_iff_getElem?.1 hy
            exact fwd_len lo hi y (HR.out.2.2.2.2.1.2 j y hj).1 (HT.out.2.2.2 y hy))
          rw [HZ.out] at h1
          rw [← hT4, List.length_append]
          omega
        have hbw : b ≤ wr.heap.size := by have := HWR.out.size; omega
        have hc7 := (HBX.out _ HWR.out).cell (j := 7) rfl
        have hc8 := (HBX.out _ HWR.out).cell (j := 8) rfl
        have HK := Lib.hid (linek hbr hbw (by omega))
        have hrt := HR.out.2.2.2.2.2
        simp only at hrt
        have HNO := Lib.hid (nums_at wr [tc, ot] (fun w1 hj => (HEW.out _ HWR.out).junk hj) 2 rfl (by omega) (by omega) (by intro y hy; simp at hy; rcases hy with rfl | rfl <;> omega))
        have HNB := Lib.hid (fun w2 (h : Below b W w2) => nums_at w2 [bu] (fun w1 hj => (HEW.out _ h).junk hj) 1 rfl (by omega) (by omega) (by intro y hy; simp at hy; subst hy; omega))
        have hlj : jn (w8s [⟨#[108, 105, 102, 101]⟩, mkS (jn ([tc, ot].map Lib.itoa))]) = jn (lifeL ⟨X, Y, ou, pu, lo, hi, Z, tc, ot, bu⟩) := by
          simp [w8s, mkS, lifeL, jn, wLife]
        have hlj2 : jn (w8s [⟨#[98, 117, 100, 103, 101, 116]⟩, mkS (jn ([bu].map Lib.itoa))]) = jn (budL bu) := by
          simp [w8s, mkS, budL, jn, wBudget]
        have hll : (jn (lifeL ⟨X, Y, ou, pu, lo, hi, Z, tc, ot, bu⟩)).length ≤ 250 := by
          have h3 := itoa_len tc 18 (by omega)
          have h4 := itoa_len ot 18 (by omega)
          refine Nat.le_trans (jn_len _) ?_
          simp only [lifeL, lensW, List.map_cons, List.map_nil, List.sum_cons, List.sum_nil, show wLife.length = 4 from rfl]
          omega
        have hll2 : (jn (budL bu)).length ≤ 250 := by
          have h3 := itoa_len bu 18 (by omega)
          refine Nat.le_trans (jn_len _) ?_
          simp only [budL, lensW, List.map_cons, List.map_nil, List.sum_cons, List.sum_nil, show wBudget.length = 6 from rfl]
          omega
        have hsh : T4 ++ lineT (lifeL ⟨X, Y, ou, pu, lo, hi, Z, tc, ot, bu⟩) ++ lineT (budL bu) = showT ⟨X, Y, ou, pu, lo, hi, Z, tc, ot, bu⟩ := by
          rw [← hT4, ← HT3.out, ← HT2.out, ← HT1.out, ← HT0.out]
          unfold showT showL
          simp [List.flatMap_append, List.append_assoc]
        have HLJ := Lib.hid hlj
        have HLL := Lib.hid hll
        have HLJ2 := Lib.hid hlj2
        have HLL2 := Lib.hid hll2
        have HSH := Lib.hid hsh
        generalize mkS (jn ([tc, ot].map Lib.itoa)) = s1 at *
        generalize mkS (jn ([bu].map Lib.itoa)) = s2 at *
        clear HBR hbr hlj hll hlj2 hll2 hrt hT4 hsh
        go_upto_region 28 with (first
          | (go_at_call 14; (refine (HNO.out _ (by (exact jkc)) _ (nums_lit wr [tc, ot] #[.int .i64 tc, .int .i64 ot] rfl _ (by simp))).mono ?_); rintro e w' ⟨rfl, ⟨os5, d5, rfl⟩⟩)
          | (go_at_call 12; (refine (HK.out _ (by (exact jkc)) _ _ 2 [⟨#[108, 105, 102, 101]⟩, s1] 0 (own_strs ((wr.alloc (.cells #[.int .i64 tc, .int .i64 ot] 3)).junk os5 d5) [⟨#[108, 105, 102, 101]⟩, s1] _ rfl _ 2 (by simp) rfl (by omega)) rfl (by simp) (by omega) _ HLJ.out HLL.out).mono ?_); rintro e w6 ⟨rfl, hb1, hb2⟩))
        have hB := Below.trans (Junk.below (show Junk wr ((((wr.alloc (.cells #[.int .i64 tc, .int .i64 ot] 3)).junk os5 d5).alloc (.cells #[.string ⟨#[108, 105, 102, 101]⟩, .string s1] 9))) by (exact jkc)) hbw) hb2
        have HW5 := Lib.hid (HWR.out.trans hB)
        have hbw6 : b ≤ w6.heap.size := by have := HW5.out.size; omega
        have hc9 := (HBX.out _ HW5.out).cell (j := 9) rfl
        obtain ⟨T5, hT5⟩ : ∃ T, T4 ++ lineT (lifeL ⟨X, Y, ou, pu, lo, hi, Z, tc, ot, bu⟩) = T := ⟨_, rfl⟩
        have hl5 : T5.length ≤ 251 * 163 := by rw [← hT5]; unfold lineT; rw [List.length_append, List.length_append]; have := HLL.out; simp only [List.length_singleton]; omega
        have HK2 := Lib.hid (linek (show Bld b b (Lib.byteCells T5) w6 from hT5 ▸ hb1) hbw6 (by omega))
        have hsh := HSH.out
        rw [hT5] at hsh
        have HSH2 := Lib.hid hsh
        have HNB2 := Lib.hid (HNB.out _ HW5.out)
        clear hb1 hb2 hB HNO HLJ HLL HK HSH hsh hT5 HNB
        go_upto_region 29 with (first
          | (go_at_call 14; (refine (HNB2.out _ (by (exact jkc)) _ (nums_lit w6 [bu] #[.int .i64 bu] rfl _ (by simp))).mono ?_); rintro e w' ⟨rfl, ⟨os6, d6, rfl⟩⟩)
          | (go_at_call 12; (refine (HK2.out _ (by (exact jkc)) _ _ 2 [⟨#[98, 117, 100, 103, 101, 116]⟩, s2] 0 (own_strs ((w6.alloc (.cells #[.int .i64 bu] 3)).junk os6 d6) [⟨#[98, 117, 100, 103, 101, 116]⟩, s2] _ rfl _ 2 (by simp) rfl (by omega)) rfl (by simp) (by omega) _ HLJ2.out HLL2.out).mono ?_); rintro e w7 ⟨rfl, hb1, hb2⟩))
        have hB := Below.trans (Junk.below (show Junk w6 ((((w6.alloc (.cells #[.int .i64 bu] 3)).junk os6 d6).alloc (.cells #[.string ⟨#[98, 117, 100, 103, 101, 116]⟩, .string s2] 9))) by (exact jkc)) hbw6) hb2
        have HW7 := Lib.hid (HW5.out.trans hB)
        have hb3 : Bld b b (Lib.byteCells (showT ⟨X, Y, ou, pu, lo, hi, Z, tc, ot, bu⟩)) w7 := HSH2.out ▸ hb1
        have hne : showT ⟨X, Y, ou, pu, lo, hi, Z, tc, ot, bu⟩ ≠ [] := by
          rw [← HSH2.out]
          unfold lineT
          simp
        have HTX := Lib.hid (text_any b b _ w7 hb3 hne)
        clear hb1 hb2 hB hb3 hne
        go_wp2_with (go_at_call 16; (refine HTX.out.mono ?_); rintro e w9 ⟨rfl, hb9⟩)
        go_ret2
        exact ⟨rfl, HJW.out _ (HW7.out.trans hb9)⟩
end Go.Proofs.YtcnhlbkdhhjmiaaGreatDoor
