/- The reference's numbers of a tuple, its order and its hash. -/
import Derived.Test.YtjmofjcloebgmaaTupD
import Derived.Test.YtjmofjcloebgmaaMix2
import Derived.Test.YtjmofjcloebgmaaMix3
set_option linter.unusedVariables false
set_option maxRecDepth 100000
set_option linter.unusedSimpArgs false
namespace Go.Proofs.Ytjmofjcloebgmaa
open Go.RowKit
def numsV (t : Tup) : Value := .agg #[.int .i64 (t.proto % 256), .int .i64 t.src, .int .i64 (t.sport % 65536), .int .i64 t.dst, .int .i64 (t.dport % 65536)]
set_option maxHeartbeats 1000000 in
theorem rnums_any (t : Tup) (w : World) (h : TupWf t) : Calls Try.prog 73 #[.agg #[.int .i64 t.proto, .int .u32 t.src, .int .i64 t.sport, .int .u32 t.dst, .int .i64 t.dport]] w fun e w' => e = .returned (numsV t) ∧ Junk w w' := by
  have q1 := wrapk_i64 t.src (by have := h.src; omega) (by have := h.src; omega)
  have q2 := wrapk_i64 t.dst (by have := h.dst; omega) (by have := h.dst; omega)
  go_enter Try.func73, Try.ntmps73
  go_wp2
  refine wp_region_mixl ((w.alloc (.cells #[.int .i64 t.proto, .int .u32 t.src, .int .i64 t.sport, .int .u32 t.dst, .int .i64 t.dport] 58)).alloc (.cells #[.int .i64 0, .int .i64 0, .int .i64 0, .int .i64 0, .int .i64 0] 97)) 16 [(0, true), (1, true), (2, true), (3, true), (4, true), (5, true), (6, true), (7, true), (8, true), (9, true), (10, true), (11, true), (12, true), (13, true), (14, true), (15, true), (16, false)] (by kernel_rfl) (by kernel_rfl) (by (repeat (first | with_reducible exact Junk.refl _ | with_reducible exact Junk.app _ _ _ _ _ | with_reducible apply Junk.alloc | with_reducible apply Junk.junk | with_reducible apply Junk.drew | with_reducible apply Junk.drewN))) ?_; (iterate 16 (refine wpMixL_q rfl (fun K hK => ?_); (go_simp; try go_bits); first | (refine hK _ ?_; clear hK K) | (apply Exists.intro; refine ⟨fun _ => ?_, hK _ ?_⟩; (first | (go_at_call 93; first | with_reducible exact Calls.junk_of_same (tup_low_any t.proto 256 (by omega) (by omega) _) | with_reducible exact Calls.junk_of_same (tup_low_any t.sport 65536 (by omega) (by omega) _) | with_reducible exact Calls.junk_of_same (tup_low_any t.dport 65536 (by omega) (by omega) _))); clear hK K))); refine wpMixL_last rfl (fun osm1_0 dm1_0 K hK => ?_); (go_simp; try go_bits); refine hK _ _ ?_; clear hK K; refine wpMixL_nil (fun osm dm => ?_)
  go_wp2
  go_returns
  exact ⟨rfl, by (first | ((repeat (first | with_reducible exact Junk.refl _ | with_reducible exact Junk.app _ _ _ _ _ | with_reducible apply Junk.alloc | with_reducible apply Junk.junk | with_reducible apply Junk.drew | with_reducible apply Junk.drewN)); done) | ((try simp only [World.junk_junk, Array.append_assoc]); (repeat (first | with_reducible exact Junk.refl _ | with_reducible exact Junk.app _ _ _ _ _ | with_reducible exact Junk.app2 _ _ _ _ _ _ | with_reducible exact Junk.app3 _ _ _ _ _ _ _ | with_reducible exact Junk.app4 _ _ _ _ _ _ _ _ | with_reducible exact Junk.app5 _ _ _ _ _ _ _ _ _ | with_reducible apply Junk.alloc | with_reducible apply Junk.junk | with_reducible apply Junk.drew | with_reducible apply Junk.drewN))))⟩
theorem less5 (x0 x1 x2 x3 x4 y0 y1 y2 y3 y4 : Int) : lexL [x0, x1, x2, x3, x4] [y0, y1, y2, y3, y4] = if x0 = y0 then if x1 = y1 then if x2 = y2 then if x3 = y3 then if x4 = y4 then false else decide (x4 < y4) else decide (x3 < y3) else decide (x2 < y2) else decide (x1 < y1) else decide (x0 < y0) := rfl
def EqUp (x0 x1 x2 x3 x4 y0 y1 y2 y3 y4 : Int) : Nat → Prop
  | 0 => True
  | 1 => x0 = y0
  | 2 => x0 = y0 ∧ x1 = y1
  | 3 => x0 = y0 ∧ x1 = y1 ∧ x2 = y2
  | 4 => x0 = y0 ∧ x1 = y1 ∧ x2 = y2 ∧ x3 = y3
  | _ => x0 = y0 ∧ x1 = y1 ∧ x2 = y2 ∧ x3 = y3 ∧ x4 = y4
set_option maxHeartbeats 8000000 in
theorem rless_any (a b : Tup) (w : World) (ha : TupWf a) (hb : TupWf b) : Calls Try.prog 41 #[.agg #[.int .i64 a.proto, .int .u32 a.src, .int .i64 a.sport, .int .u32 a.dst, .int .i64 a.dport], .agg #[.int .i64 b.proto, .int .u32 b.src, .int .i64 b.sport, .int .u32 b.dst, .int .i64 b.dport]] w fun e w' => e = .returned (.bool (tupLess a b)) ∧ Junk w w' := by
  have hna := fun w1 => rnums_any a w1 ha
  have hnb := fun w1 => rnums_any b w1 hb
  have hl : tupLess a b = lexL (tupNums a) (tupNums b) := rfl
  unfold numsV at hna hnb
  unfold tupNums at hl
  generalize a.proto % 256 = x0 at hna hl
  generalize a.sport % 65536 = x2 at hna hl
  generalize a.dport % 65536 = x4 at hna hl
  generalize b.proto % 256 = y0 at hnb hl
  generalize b.sport % 65536 = y2 at hnb hl
  generalize b.dport % 65536 = y4 at hnb hl
  rw [less5] at hl
  have HNA := Lib.hid hna
  have HNB := Lib.hid hnb
  have HL := Lib.hid hl
  clear hna hnb hl
  go_enter Try.func41, Try.ntmps41
  go_wp2
  refine wp_region_mixTj ((w.alloc (.cells #[.int .i64 a.proto, .int .u32 a.src, .int .i64 a.sport, .int .u32 a.dst, .int .i64 a.dport] 58)).alloc (.cells #[.int .i64 b.proto, .int .u32 b.src, .int .i64 b.sport, .int .u32 b.dst, .int .i64 b.dport] 58)) (.q 0 (.q 1 (.q 2 (.q 3 (.two 4 (.e 5 (.e 6 (.e 7 .nil))) 5 (.e 4 (.e 6 (.e 7 .nil)))))))) (by kernel_rfl) (by kernel_rfl) (by (repeat (first | with_reducible exact Junk.refl _ | with_reducible exact Junk.app _ _ _ _ _ | with_reducible apply Junk.alloc | with_reducible apply Junk.junk | with_reducible apply Junk.drew | with_reducible apply Junk.drewN))) ?_; (refine wpMixT_q rfl (fun K hK => ?_); (go_simp; try go_bits); first | (refine hK _ ?_; clear hK K) | (apply Exists.intro; refine ⟨fun _ => ?_, hK _ ?_⟩; (first | (go_at_call 73; first | with_reducible exact HNA.out _ | with_reducible exact HNB.out _)); clear hK K)); (refine wpMixT_q rfl (fun K hK => ?_); (go_simp; try go_bits); first | (refine hK _ ?_; clear hK K) | (apply Exists.intro; refine ⟨fun _ => ?_, hK _ ?_⟩; (first | (go_at_call 73; first | with_reducible exact HNA.out _ | with_reducible exact HNB.out _)); clear hK K)); (refine wpMixT_q rfl (fun K hK => ?_); (go_simp; try go_bits); first | (refine hK _ ?_; clear hK K) | (apply Exists.intro; refine ⟨fun _ => ?_, hK _ ?_⟩; (first | (go_at_call 73; first | with_reducible exact HNA.out _ | with_reducible exact HNB.out _)); clear hK K)); (refine wpMixT_q rfl (fun K hK => ?_); (go_simp; try go_bits); first | (refine hK _ ?_; clear hK K) | (apply Exists.intro; refine ⟨fun _ => ?_, hK _ ?_⟩; (first | (go_at_call 73; first | with_reducible exact HNA.out _ | with_reducible exact HNB.out _)); clear hK K)); refine wpMixT_two ?_ ?_; refine wpMixT_e rfl (fun osm1_0 dm1_0 K hK => ?_); (go_simp; try go_bits); refine hK _ _ (Junk.pair (by (repeat (first | with_reducible exact Junk.refl _ | with_reducible exact Junk.app _ _ _ _ _ | with_reducible apply Junk.alloc | with_reducible apply Junk.junk | with_reducible apply Junk.drew | with_reducible apply Junk.drewN | (with_reducible refine Junk.setCell ?_ (by simp) _))))) ?_; clear hK K; refine wpMixT_e rfl (fun osm1_1 dm1_1 K hK => ?_); (go_simp; try go_bits); refine hK _ _ (Junk.pair (by (repeat (first | with_reducible exact Junk.refl _ | with_reducible exact Junk.app _ _ _ _ _ | with_reducible apply Junk.alloc | with_reducible apply Junk.junk | with_reducible apply Junk.drew | with_reducible apply Junk.drewN | (with_reducible refine Junk.setCell ?_ (by simp) _))))) ?_; clear hK K; refine wpMixT_e rfl (fun osm1_2 dm1_2 K hK => ?_); (go_simp; try go_bits); refine hK _ _ (Junk.pair (by (repeat (first | with_reducible exact Junk.refl _ | with_reducible exact Junk.app _ _ _ _ _ | with_reducible apply Junk.alloc | with_reducible apply Junk.junk | with_reducible apply Junk.drew | with_reducible apply Junk.drewN | (with_reducible refine Junk.setCell ?_ (by simp) _))))) ?_; clear hK K; refine wpMixT_e rfl (fun osm1_3 dm1_3 K hK => ?_); (go_simp; try go_bits); refine hK _ _ (Junk.pair (by (repeat (first | with_reducible exact Junk.refl _ | with_reducible exact Junk.app _ _ _ _ _ | with_reducible apply Junk.alloc | with_reducible apply Junk.junk | with_reducible apply Junk.drew | with_reducible apply Junk.drewN | (with_reducible refine Junk.setCell ?_ (by simp) _))))) ?_; clear hK K; refine wpMixT_nil (fun osm dm => ?_); rotate_left; refine wpMixT_e rfl (fun osm1_4 dm1_4 K hK => ?_); (go_simp; try go_bits); refine hK _ _ (Junk.pair (by (repeat (first | with_reducible exact Junk.refl _ | with_reducible exact Junk.app _ _ _ _ _ | with_reducible apply Junk.alloc | with_reducible apply Junk.junk | with_reducible apply Junk.drew | with_reducible apply Junk.drewN | (with_reducible refine Junk.setCell ?_ (by simp) _))))) ?_; clear hK K; refine wpMixT_e rfl (fun osm1_5 dm1_5 K hK => ?_); (go_simp; try go_bits); refine hK _ _ (Junk.pair (by (repeat (first | with_reducible exact Junk.refl _ | with_reducible exact Junk.app _ _ _ _ _ | with_reducible apply Junk.alloc | with_reducible apply Junk.junk | with_reducible apply Junk.drew | with_reducible apply Junk.drewN | (with_reducible refine Junk.setCell ?_ (by simp) _))))) ?_; clear hK K; refine wpMixT_e rfl (fun osm1_6 dm1_6 K hK => ?_); (go_simp; try go_bits); refine hK _ _ (Junk.pair (by (repeat (first | with_reducible exact Junk.refl _ | with_reducible exact Junk.app _ _ _ _ _ | with_reducible apply Junk.alloc | with_reducible apply Junk.junk | with_reducible apply Junk.drew | with_reducible apply Junk.drewN | (with_reducible refine Junk.setCell ?_ (by simp) _))))) ?_; clear hK K; refine wpMixT_e rfl (fun osm1_7 dm1_7 K hK => ?_); (go_simp; try go_bits); refine hK _ _ (Junk.pair (by (repeat (first | with_reducible exact Junk.refl _ | with_reducible exact Junk.app _ _ _ _ _ | with_reducible apply Junk.alloc | with_reducible apply Junk.junk | with_reducible apply Junk.drew | with_reducible apply Junk.drewN | (with_reducible refine Junk.setCell ?_ (by simp) _))))) ?_; clear hK K; refine wpMixT_nil (fun osm dm => ?_)
  · go_wp2
    (try simp only [World.junk_junk])
    go_loopw [7] (fun v wr => ∃ (k : Nat) (os : Array Obj) (d : Nat), v = .int .i64 (k : Int) ∧ wr = (((((((w.alloc (.cells #[.int .i64 a.proto, .int .u32 a.src, .int .i64 a.sport, .int .u32 a.dst, .int .i64 a.dport] 58)).alloc (.cells #[.int .i64 b.proto, .int .u32 b.src, .int .i64 b.sport, .int .u32 b.dst, .int .i64 b.dport] 58))).junk osm1_4 dm1_4).alloc (.cells #[.int .i64 y0, .int .i64 b.src, .int .i64 y2, .int .i64 b.dst, .int .i64 y4] 97)).junk osm1_5 dm1_5).alloc (.cells #[.int .i64 x0, .int .i64 a.src, .int .i64 x2, .int .i64 a.dst, .int .i64 x4] 97)).junk os d ∧ k ≤ 5 ∧ EqUp x0 a.src x2 a.dst x4 y0 b.src y2 b.dst y4 k) (fun v _ => 6 - (intOf v).toNat)
    case atStart => exact ⟨0, _, _, rfl, rfl, by omega, trivial⟩
    case round =>
      obtain ⟨k, os, d, rfl, rfl, hk, g⟩ := hrel
      have G := Lib.hid g
      clear g
      rcases (show k = 0 ∨ k = 1 ∨ k = 2 ∨ k = 3 ∨ k = 4 ∨ k = 5 by omega) with rfl | rfl | rfl | rfl | rfl | rfl
      · by_cases he : x0 = y0
        · have hn : (x0 != y0) = false := by simpa using he
          have HE := Lib.hid (show EqUp x0 a.src x2 a.dst x4 y0 b.src y2 b.dst y4 1 from he)
          clear he
          go_wp2
          refine wp_region_junk (by kernel_rfl) (by kernel_rfl) ?_; (repeat (go_big_quiet_step (first | fail))); refine wpQuiet_nil ?_; rintro _ ⟨⟨osq, dq⟩, rfl⟩
          go_wp2
          go_roundw
          case rel => exact ⟨1, _, _, rfl, (by first | rfl | (simp only [World.junk_junk])), by omega, HE.out⟩
          case measure => simp [intOf]
        · have hn : (x0 != y0) = true := by simpa using he
          have HE := Lib.hid (show tupLess a b = decide (x0 < y0) by rw [HL.out]; rw [if_neg he])
          clear he
          go_wp2
          refine wp_region_junk (by kernel_rfl) (by kernel_rfl) ?_; (repeat (go_big_quiet_step (first | fail))); refine wpQuiet_nil ?_; rintro _ ⟨⟨osq, dq⟩, rfl⟩
          go_wp2
          refine wp_region_junk (by kernel_rfl) (by kernel_rfl) ?_; (repeat (go_big_quiet_step (first | fail))); refine wpQuiet_nil ?_; rintro _ ⟨⟨osq, dq⟩, rfl⟩
          go_wp2
          go_ret
          exact ⟨by rw [HE.out]; rfl, by (first | ((repeat (first | with_reducible exact Junk.refl _ | with_reducible exact Junk.app _ _ _ _ _ | with_reducible apply Junk.alloc | with_reducible apply Junk.junk | with_reducible apply Junk.drew | with_reducible apply Junk.drewN)); done) | ((try simp only [World.junk_junk, Array.append_assoc]); (repeat (first | with_reducible exact Junk.refl _ | with_reducible exact Junk.app _ _ _ _ _ | with_reducible exact Junk.app2 _ _ _ _ _ _ | with_reducible exact Junk.app3 _ _ _ _ _ _ _ | with_reducible exact Junk.app4 _ _ _ _ _ _ _ _ | with_reducible exact Junk.app5 _ _ _ _ _ _ _ _ _ | with_reducible apply Junk.alloc | with_reducible apply Junk.junk | with_reducible apply Junk.drew | with_reducible apply Junk.drewN))))⟩
      · by_cases he : a.src = b.src
        · have hn : (a.src != b.src) = false := by simpa using he
          have HE := Lib.hid (show EqUp x0 a.src x2 a.dst x4 y0 b.src y2 b.dst y4 2 from ⟨G.out, he⟩)
          clear he
          go_wp2
          refine wp_region_junk (by kernel_rfl) (by kernel_rfl) ?_; (repeat (go_big_quiet_step (first | fail))); refine wpQuiet_nil ?_; rintro _ ⟨⟨osq, dq⟩, rfl⟩
          go_wp2
          go_roundw
          case rel => exact ⟨2, _, _, rfl, (by first | rfl | (simp only [World.junk_junk])), by omega, HE.out⟩
          case measure => simp [intOf]
        · have hn : (a.src != b.src) = true := by simpa using he
          have HE := Lib.hid (show tupLess a b = decide (a.src < b.src) by rw [HL.out]; rw [if_pos (show x0 = y0 from G.out)]; rw [if_neg he])
          clear he
          go_wp2
          refine wp_region_junk (by kernel_rfl) (by kernel_rfl) ?_; (repeat (go_big_quiet_step (first | fail))); refine wpQuiet_nil ?_; rintro _ ⟨⟨osq, dq⟩, rfl⟩
          go_wp2
          refine wp_region_junk (by kernel_rfl) (by kernel_rfl) ?_; (repeat (go_big_quiet_step (first | fail))); refine wpQuiet_nil ?_; rintro _ ⟨⟨osq, dq⟩, rfl⟩
          go_wp2
          go_ret
          exact ⟨by rw [HE.out]; rfl, by (first | ((repeat (first | with_reducible exact Junk.refl _ | with_reducible exact Junk.app _ _ _ _ _ | with_reducible apply Junk.alloc | with_reducible apply Junk.junk | with_reducible apply Junk.drew | with_reducible apply Junk.drewN)); done) | ((try simp only [World.junk_junk, Array.append_assoc]); (repeat (first | with_reducible exact Junk.refl _ | with_reducible exact Junk.app _ _ _ _ _ | with_reducible exact Junk.app2 _ _ _ _ _ _ | with_reducible exact Junk.app3 _ _ _ _ _ _ _ | with_reducible exact Junk.app4 _ _ _ _ _ _ _ _ | with_reducible exact Junk.app5 _ _ _ _ _ _ _ _ _ | with_reducible apply Junk.alloc | with_reducible apply Junk.junk | with_reducible apply Junk.drew | with_reducible apply Junk.drewN))))⟩
      · by_cases he : x2 = y2
        · have hn : (x2 != y2) = false := by simpa using he
          have HE := Lib.hid (show EqUp x0 a.src x2 a.dst x4 y0 b.src y2 b.dst y4 3 from ⟨G.out.1, G.out.2, he⟩)
          clear he
          go_wp2
          refine wp_region_junk (by kernel_rfl) (by kernel_rfl) ?_; (repeat (go_big_quiet_step (first | fail))); refine wpQuiet_nil ?_; rintro _ ⟨⟨osq, dq⟩, rfl⟩
          go_wp2
          go_roundw
          case rel => exact ⟨3, _, _, rfl, (by first | rfl | (simp only [World.junk_junk])), by omega, HE.out⟩
          case measure => simp [intOf]
        · have hn : (x2 != y2) = true := by simpa using he
          have HE := Lib.hid (show tupLess a b = decide (x2 < y2) by rw [HL.out]; rw [if_pos (G.out.1)]; rw [if_pos (G.out.2)]; rw [if_neg he])
          clear he
          go_wp2
          refine wp_region_junk (by kernel_rfl) (by kernel_rfl) ?_; (repeat (go_big_quiet_step (first | fail))); refine wpQuiet_nil ?_; rintro _ ⟨⟨osq, dq⟩, rfl⟩
          go_wp2
          refine wp_region_junk (by kernel_rfl) (by kernel_rfl) ?_; (repeat (go_big_quiet_step (first | fail))); refine wpQuiet_nil ?_; rintro _ ⟨⟨osq, dq⟩, rfl⟩
          go_wp2
          go_ret
          exact ⟨by rw [HE.out]; rfl, by (first | ((repeat (first | with_reducible exact Junk.refl _ | with_reducible exact Junk.app _ _ _ _ _ | with_reducible apply Junk.alloc | with_reducible apply Junk.junk | with_reducible apply Junk.drew | with_reducible apply Junk.drewN)); done) | ((try simp only [World.junk_junk, Array.append_assoc]); (repeat (first | with_reducible exact Junk.refl _ | with_reducible exact Junk.app _ _ _ _ _ | with_reducible exact Junk.app2 _ _ _ _ _ _ | with_reducible exact Junk.app3 _ _ _ _ _ _ _ | with_reducible exact Junk.app4 _ _ _ _ _ _ _ _ | with_reducible exact Junk.app5 _ _ _ _ _ _ _ _ _ | with_reducible apply Junk.alloc | with_reducible apply Junk.junk | with_reducible apply Junk.drew | with_reducible apply Junk.drewN))))⟩
      · by_cases he : a.dst = b.dst
        · have hn : (a.dst != b.dst) = false := by simpa using he
          have HE := Lib.hid (show EqUp x0 a.src x2 a.dst x4 y0 b.src y2 b.dst y4 4 from ⟨G.out.1, G.out.2.1, G.out.2.2, he⟩)
          clear he
          go_wp2
          refine wp_region_junk (by kernel_rfl) (by kernel_rfl) ?_; (repeat (go_big_quiet_step (first | fail))); refine wpQuiet_nil ?_; rintro _ ⟨⟨osq, dq⟩, rfl⟩
          go_wp2
          go_roundw
          case rel => exact ⟨4, _, _, rfl, (by first | rfl | (simp only [World.junk_junk])), by omega, HE.out⟩
          case measure => simp [intOf]
        · have hn : (a.dst != b.dst) = true := by simpa using he
          have HE := Lib.hid (show tupLess a b = decide (a.dst < b.dst) by rw [HL.out]; rw [if_pos (G.out.1)]; rw [if_pos (G.out.2.1)]; rw [if_pos (G.out.2.2)]; rw [if_neg he])
          clear he
          go_wp2
          refine wp_region_junk (by kernel_rfl) (by kernel_rfl) ?_; (repeat (go_big_quiet_step (first | fail))); refine wpQuiet_nil ?_; rintro _ ⟨⟨osq, dq⟩, rfl⟩
          go_wp2
          refine wp_region_junk (by kernel_rfl) (by kernel_rfl) ?_; (repeat (go_big_quiet_step (first | fail))); refine wpQuiet_nil ?_; rintro _ ⟨⟨osq, dq⟩, rfl⟩
          go_wp2
          go_ret
          exact ⟨by rw [HE.out]; rfl, by (first | ((repeat (first | with_reducible exact Junk.refl _ | with_reducible exact Junk.app _ _ _ _ _ | with_reducible apply Junk.alloc | with_reducible apply Junk.junk | with_reducible apply Junk.drew | with_reducible apply Junk.drewN)); done) | ((try simp only [World.junk_junk, Array.append_assoc]); (repeat (first | with_reducible exact Junk.refl _ | with_reducible exact Junk.app _ _ _ _ _ | with_reducible exact Junk.app2 _ _ _ _ _ _ | with_reducible exact Junk.app3 _ _ _ _ _ _ _ | with_reducible exact Junk.app4 _ _ _ _ _ _ _ _ | with_reducible exact Junk.app5 _ _ _ _ _ _ _ _ _ | with_reducible apply Junk.alloc | with_reducible apply Junk.junk | with_reducible apply Junk.drew | with_reducible apply Junk.drewN))))⟩
      · by_cases he : x4 = y4
        · have hn : (x4 != y4) = false := by simpa using he
          have HE := Lib.hid (show EqUp x0 a.src x2 a.dst x4 y0 b.src y2 b.dst y4 5 from ⟨G.out.1, G.out.2.1, G.out.2.2.1, G.out.2.2.2, he⟩)
          clear he
          go_wp2
          refine wp_region_junk (by kernel_rfl) (by kernel_rfl) ?_; (repeat (go_big_quiet_step (first | fail))); refine wpQuiet_nil ?_; rintro _ ⟨⟨osq, dq⟩, rfl⟩
          go_wp2
          go_roundw
          case rel => exact ⟨5, _, _, rfl, (by first | rfl | (simp only [World.junk_junk])), by omega, HE.out⟩
          case measure => simp [intOf]
        · have hn : (x4 != y4) = true := by simpa using he
          have HE := Lib.hid (show tupLess a b = decide (x4 < y4) by rw [HL.out]; rw [if_pos (G.out.1)]; rw [if_pos (G.out.2.1)]; rw [if_pos (G.out.2.2.1)]; rw [if_pos (G.out.2.2.2)]; rw [if_neg he])
          clear he
          go_wp2
          refine wp_region_junk (by kernel_rfl) (by kernel_rfl) ?_; (repeat (go_big_quiet_step (first | fail))); refine wpQuiet_nil ?_; rintro _ ⟨⟨osq, dq⟩, rfl⟩
          go_wp2
          refine wp_region_junk (by kernel_rfl) (by kernel_rfl) ?_; (repeat (go_big_quiet_step (first | fail))); refine wpQuiet_nil ?_; rintro _ ⟨⟨osq, dq⟩, rfl⟩
          go_wp2
          go_ret
          exact ⟨by rw [HE.out]; rfl, by (first | ((repeat (first | with_reducible exact Junk.refl _ | with_reducible exact Junk.app _ _ _ _ _ | with_reducible apply Junk.alloc | with_reducible apply Junk.junk | with_reducible apply Junk.drew | with_reducible apply Junk.drewN)); done) | ((try simp only [World.junk_junk, Array.append_assoc]); (repeat (first | with_reducible exact Junk.refl _ | with_reducible exact Junk.app _ _ _ _ _ | with_reducible exact Junk.app2 _ _ _ _ _ _ | with_reducible exact Junk.app3 _ _ _ _ _ _ _ | with_reducible exact Junk.app4 _ _ _ _ _ _ _ _ | with_reducible exact Junk.app5 _ _ _ _ _ _ _ _ _ | with_reducible apply Junk.alloc | with_reducible apply Junk.junk | with_reducible apply Junk.drew | with_reducible apply Junk.drewN))))⟩
      · have HE := Lib.hid (show tupLess a b = false by rw [HL.out]; rw [if_pos (G.out.1)]; rw [if_pos (G.out.2.1)]; rw [if_pos (G.out.2.2.1)]; rw [if_pos (G.out.2.2.2.1)]; rw [if_pos (G.out.2.2.2.2)])
        go_wp2
        go_ret
        exact ⟨by rw [HE.out]; rfl, by (first | ((repeat (first | with_reducible exact Junk.refl _ | with_reducible exact Junk.app _ _ _ _ _ | with_reducible apply Junk.alloc | with_reducible apply Junk.junk | with_reducible apply Junk.drew | with_reducible apply Junk.drewN)); done) | ((try simp only [World.junk_junk, Array.append_assoc]); (repeat (first | with_reducible exact Junk.refl _ | with_reducible exact Junk.app _ _ _ _ _ | with_reducible exact Junk.app2 _ _ _ _ _ _ | with_reducible exact Junk.app3 _ _ _ _ _ _ _ | with_reducible exact Junk.app4 _ _ _ _ _ _ _ _ | with_reducible exact Junk.app5 _ _ _ _ _ _ _ _ _ | with_reducible apply Junk.alloc | with_reducible apply Junk.junk | with_reducible apply Junk.drew | with_reducible apply Junk.drewN))))⟩
  · go_wp2
    (try simp only [World.junk_junk])
    go_loopw [7] (fun v wr => ∃ (k : Nat) (os : Array Obj) (d : Nat), v = .int .i64 (k : Int) ∧ wr = (((((((w.alloc (.cells #[.int .i64 a.proto, .int .u32 a.src, .int .i64 a.sport, .int .u32 a.dst, .int .i64 a.dport] 58)).alloc (.cells #[.int .i64 b.proto, .int .u32 b.src, .int .i64 b.sport, .int .u32 b.dst, .int .i64 b.dport] 58))).junk osm1_0 dm1_0).alloc (.cells #[.int .i64 x0, .int .i64 a.src, .int .i64 x2, .int .i64 a.dst, .int .i64 x4] 97)).junk osm1_1 dm1_1).alloc (.cells #[.int .i64 y0, .int .i64 b.src, .int .i64 y2, .int .i64 b.dst, .int .i64 y4] 97)).junk os d ∧ k ≤ 5 ∧ EqUp x0 a.src x2 a.dst x4 y0 b.src y2 b.dst y4 k) (fun v _ => 6 - (intOf v).toNat)
    case atStart => exact ⟨0, _, _, rfl, rfl, by omega, trivial⟩
    case round =>
      obtain ⟨k, os, d, rfl, rfl, hk, g⟩ := hrel
      have G := Lib.hid g
      clear g
      rcases (show k = 0 ∨ k = 1 ∨ k = 2 ∨ k = 3 ∨ k = 4 ∨ k = 5 by omega) with rfl | rfl | rfl | rfl | rfl | rfl
      · by_cases he : x0 = y0
        · have hn : (x0 != y0) = false := by simpa using he
          have HE := Lib.hid (show EqUp x0 a.src x2 a.dst x4 y0 b.src y2 b.dst y4 1 from he)
          clear he
          go_wp2
          refine wp_region_junk (by kernel_rfl) (by kernel_rfl) ?_; (repeat (go_big_quiet_step (first | fail))); refine wpQuiet_nil ?_; rintro _ ⟨⟨osq, dq⟩, rfl⟩
          go_wp2
          go_roundw
          case rel => exact ⟨1, _, _, rfl, (by first | rfl | (simp only [World.junk_junk])), by omega, HE.out⟩
          case measure => simp [intOf]
        · have hn : (x0 != y0) = true := by simpa using he
          have HE := Lib.hid (show tupLess a b = decide (x0 < y0) by rw [HL.out]; rw [if_neg he])
          clear he
          go_wp2
          refine wp_region_junk (by kernel_rfl) (by kernel_rfl) ?_; (repeat (go_big_quiet_step (first | fail))); refine wpQuiet_nil ?_; rintro _ ⟨⟨osq, dq⟩, rfl⟩
          go_wp2
          refine wp_region_junk (by kernel_rfl) (by kernel_rfl) ?_; (repeat (go_big_quiet_step (first | fail))); refine wpQuiet_nil ?_; rintro _ ⟨⟨osq, dq⟩, rfl⟩
          go_wp2
          go_ret
          exact ⟨by rw [HE.out]; rfl, by (first | ((repeat (first | with_reducible exact Junk.refl _ | with_reducible exact Junk.app _ _ _ _ _ | with_reducible apply Junk.alloc | with_reducible apply Junk.junk | with_reducible apply Junk.drew | with_reducible apply Junk.drewN)); done) | ((try simp only [World.junk_junk, Array.append_assoc]); (repeat (first | with_reducible exact Junk.refl _ | with_reducible exact Junk.app _ _ _ _ _ | with_reducible exact Junk.app2 _ _ _ _ _ _ | with_reducible exact Junk.app3 _ _ _ _ _ _ _ | with_reducible exact Junk.app4 _ _ _ _ _ _ _ _ | with_reducible exact Junk.app5 _ _ _ _ _ _ _ _ _ | with_reducible apply Junk.alloc | with_reducible apply Junk.junk | with_reducible apply Junk.drew | with_reducible apply Junk.drewN))))⟩
      · by_cases he : a.src = b.src
        · have hn : (a.src != b.src) = false := by simpa using he
          have HE := Lib.hid (show EqUp x0 a.src x2 a.dst x4 y0 b.src y2 b.dst y4 2 from ⟨G.out, he⟩)
          clear he
          go_wp2
          refine wp_region_junk (by kernel_rfl) (by kernel_rfl) ?_; (repeat (go_big_quiet_step (first | fail))); refine wpQuiet_nil ?_; rintro _ ⟨⟨osq, dq⟩, rfl⟩
          go_wp2
          go_roundw
          case rel => exact ⟨2, _, _, rfl, (by first | rfl | (simp only [World.junk_junk])), by omega, HE.out⟩
          case measure => simp [intOf]
        · have hn : (a.src != b.src) = true := by simpa using he
          have HE := Lib.hid (show tupLess a b = decide (a.src < b.src) by rw [HL.out]; rw [if_pos (show x0 = y0 from G.out)]; rw [if_neg he])
          clear he
          go_wp2
          refine wp_region_junk (by kernel_rfl) (by kernel_rfl) ?_; (repeat (go_big_quiet_step (first | fail))); refine wpQuiet_nil ?_; rintro _ ⟨⟨osq, dq⟩, rfl⟩
          go_wp2
          refine wp_region_junk (by kernel_rfl) (by kernel_rfl) ?_; (repeat (go_big_quiet_step (first | fail))); refine wpQuiet_nil ?_; rintro _ ⟨⟨osq, dq⟩, rfl⟩
          go_wp2
          go_ret
          exact ⟨by rw [HE.out]; rfl, by (first | ((repeat (first | with_reducible exact Junk.refl _ | with_reducible exact Junk.app _ _ _ _ _ | with_reducible apply Junk.alloc | with_reducible apply Junk.junk | with_reducible apply Junk.drew | with_reducible apply Junk.drewN)); done) | ((try simp only [World.junk_junk, Array.append_assoc]); (repeat (first | with_reducible exact Junk.refl _ | with_reducible exact Junk.app _ _ _ _ _ | with_reducible exact Junk.app2 _ _ _ _ _ _ | with_reducible exact Junk.app3 _ _ _ _ _ _ _ | with_reducible exact Junk.app4 _ _ _ _ _ _ _ _ | with_reducible exact Junk.app5 _ _ _ _ _ _ _ _ _ | with_reducible apply Junk.alloc | with_reducible apply Junk.junk | with_reducible apply Junk.drew | with_reducible apply Junk.drewN))))⟩
      · by_cases he : x2 = y2
        · have hn : (x2 != y2) = false := by simpa using he
          have HE := Lib.hid (show EqUp x0 a.src x2 a.dst x4 y0 b.src y2 b.dst y4 3 from ⟨G.out.1, G.out.2, he⟩)
          clear he
          go_wp2
          refine wp_region_junk (by kernel_rfl) (by kernel_rfl) ?_; (repeat (go_big_quiet_step (first | fail))); refine wpQuiet_nil ?_; rintro _ ⟨⟨osq, dq⟩, rfl⟩
          go_wp2
          go_roundw
          case rel => exact ⟨3, _, _, rfl, (by first | rfl | (simp only [World.junk_junk])), by omega, HE.out⟩
          case measure => simp [intOf]
        · have hn : (x2 != y2) = true := by simpa using he
          have HE := Lib.hid (show tupLess a b = decide (x2 < y2) by rw [HL.out]; rw [if_pos (G.out.1)]; rw [if_pos (G.out.2)]; rw [if_neg he])
          clear he
          go_wp2
          refine wp_region_junk (by kernel_rfl) (by kernel_rfl) ?_; (repeat (go_big_quiet_step (first | fail))); refine wpQuiet_nil ?_; rintro _ ⟨⟨osq, dq⟩, rfl⟩
          go_wp2
          refine wp_region_junk (by kernel_rfl) (by kernel_rfl) ?_; (repeat (go_big_quiet_step (first | fail))); refine wpQuiet_nil ?_; rintro _ ⟨⟨osq, dq⟩, rfl⟩
          go_wp2
          go_ret
          exact ⟨by rw [HE.out]; rfl, by (first | ((repeat (first | with_reducible exact Junk.refl _ | with_reducible exact Junk.app _ _ _ _ _ | with_reducible apply Junk.alloc | with_reducible apply Junk.junk | with_reducible apply Junk.drew | with_reducible apply Junk.drewN)); done) | ((try simp only [World.junk_junk, Array.append_assoc]); (repeat (first | with_reducible exact Junk.refl _ | with_reducible exact Junk.app _ _ _ _ _ | with_reducible exact Junk.app2 _ _ _ _ _ _ | with_reducible exact Junk.app3 _ _ _ _ _ _ _ | with_reducible exact Junk.app4 _ _ _ _ _ _ _ _ | with_reducible exact Junk.app5 _ _ _ _ _ _ _ _ _ | with_reducible apply Junk.alloc | with_reducible apply Junk.junk | with_reducible apply Junk.drew | with_reducible apply Junk.drewN))))⟩
      · by_cases he : a.dst = b.dst
        · have hn : (a.dst != b.dst) = false := by simpa using he
          have HE := Lib.hid (show EqUp x0 a.src x2 a.dst x4 y0 b.src y2 b.dst y4 4 from ⟨G.out.1, G.out.2.1, G.out.2.2, he⟩)
          clear he
          go_wp2
          refine wp_region_junk (by kernel_rfl) (by kernel_rfl) ?_; (repeat (go_big_quiet_step (first | fail))); refine wpQuiet_nil ?_; rintro _ ⟨⟨osq, dq⟩, rfl⟩
          go_wp2
          go_roundw
          case rel => exact ⟨4, _, _, rfl, (by first | rfl | (simp only [World.junk_junk])), by omega, HE.out⟩
          case measure => simp [intOf]
        · have hn : (a.dst != b.dst) = true := by simpa using he
          have HE := Lib.hid (show tupLess a b = decide (a.dst < b.dst) by rw [HL.out]; rw [if_pos (G.out.1)]; rw [if_pos (G.out.2.1)]; rw [if_pos (G.out.2.2)]; rw [if_neg he])
          clear he
          go_wp2
          refine wp_region_junk (by kernel_rfl) (by kernel_rfl) ?_; (repeat (go_big_quiet_step (first | fail))); refine wpQuiet_nil ?_; rintro _ ⟨⟨osq, dq⟩, rfl⟩
          go_wp2
          refine wp_region_junk (by kernel_rfl) (by kernel_rfl) ?_; (repeat (go_big_quiet_step (first | fail))); refine wpQuiet_nil ?_; rintro _ ⟨⟨osq, dq⟩, rfl⟩
          go_wp2
          go_ret
          exact ⟨by rw [HE.out]; rfl, by (first | ((repeat (first | with_reducible exact Junk.refl _ | with_reducible exact Junk.app _ _ _ _ _ | with_reducible apply Junk.alloc | with_reducible apply Junk.junk | with_reducible apply Junk.drew | with_reducible apply Junk.drewN)); done) | ((try simp only [World.junk_junk, Array.append_assoc]); (repeat (first | with_reducible exact Junk.refl _ | with_reducible exact Junk.app _ _ _ _ _ | with_reducible exact Junk.app2 _ _ _ _ _ _ | with_reducible exact Junk.app3 _ _ _ _ _ _ _ | with_reducible exact Junk.app4 _ _ _ _ _ _ _ _ | with_reducible exact Junk.app5 _ _ _ _ _ _ _ _ _ | with_reducible apply Junk.alloc | with_reducible apply Junk.junk | with_reducible apply Junk.drew | with_reducible apply Junk.drewN))))⟩
      · by_cases he : x4 = y4
        · have hn : (x4 != y4) = false := by simpa using he
          have HE := Lib.hid (show EqUp x0 a.src x2 a.dst x4 y0 b.src y2 b.dst y4 5 from ⟨G.out.1, G.out.2.1, G.out.2.2.1, G.out.2.2.2, he⟩)
          clear he
          go_wp2
          refine wp_region_junk (by kernel_rfl) (by kernel_rfl) ?_; (repeat (go_big_quiet_step (first | fail))); refine wpQuiet_nil ?_; rintro _ ⟨⟨osq, dq⟩, rfl⟩
          go_wp2
          go_roundw
          case rel => exact ⟨5, _, _, rfl, (by first | rfl | (simp only [World.junk_junk])), by omega, HE.out⟩
          case measure => simp [intOf]
        · have hn : (x4 != y4) = true := by simpa using he
          have HE := Lib.hid (show tupLess a b = decide (x4 < y4) by rw [HL.out]; rw [if_pos (G.out.1)]; rw [if_pos (G.out.2.1)]; rw [if_pos (G.out.2.2.1)]; rw [if_pos (G.out.2.2.2)]; rw [if_neg he])
          clear he
          go_wp2
          refine wp_region_junk (by kernel_rfl) (by kernel_rfl) ?_; (repeat (go_big_quiet_step (first | fail))); refine wpQuiet_nil ?_; rintro _ ⟨⟨osq, dq⟩, rfl⟩
          go_wp2
          refine wp_region_junk (by kernel_rfl) (by kernel_rfl) ?_; (repeat (go_big_quiet_step (first | fail))); refine wpQuiet_nil ?_; rintro _ ⟨⟨osq, dq⟩, rfl⟩
          go_wp2
          go_ret
          exact ⟨by rw [HE.out]; rfl, by (first | ((repeat (first | with_reducible exact Junk.refl _ | with_reducible exact Junk.app _ _ _ _ _ | with_reducible apply Junk.alloc | with_reducible apply Junk.junk | with_reducible apply Junk.drew | with_reducible apply Junk.drewN)); done) | ((try simp only [World.junk_junk, Array.append_assoc]); (repeat (first | with_reducible exact Junk.refl _ | with_reducible exact Junk.app _ _ _ _ _ | with_reducible exact Junk.app2 _ _ _ _ _ _ | with_reducible exact Junk.app3 _ _ _ _ _ _ _ | with_reducible exact Junk.app4 _ _ _ _ _ _ _ _ | with_reducible exact Junk.app5 _ _ _ _ _ _ _ _ _ | with_reducible apply Junk.alloc | with_reducible apply Junk.junk | with_reducible apply Junk.drew | with_reducible apply Junk.drewN))))⟩
      · have HE := Lib.hid (show tupLess a b = false by rw [HL.out]; rw [if_pos (G.out.1)]; rw [if_pos (G.out.2.1)]; rw [if_pos (G.out.2.2.1)]; rw [if_pos (G.out.2.2.2.1)]; rw [if_pos (G.out.2.2.2.2)])
        go_wp2
        go_ret
        exact ⟨by rw [HE.out]; rfl, by (first | ((repeat (first | with_reducible exact Junk.refl _ | with_reducible exact Junk.app _ _ _ _ _ | with_reducible apply Junk.alloc | with_reducible apply Junk.junk | with_reducible apply Junk.drew | with_reducible apply Junk.drewN)); done) | ((try simp only [World.junk_junk, Array.append_assoc]); (repeat (first | with_reducible exact Junk.refl _ | with_reducible exact Junk.app _ _ _ _ _ | with_reducible exact Junk.app2 _ _ _ _ _ _ | with_reducible exact Junk.app3 _ _ _ _ _ _ _ | with_reducible exact Junk.app4 _ _ _ _ _ _ _ _ | with_reducible exact Junk.app5 _ _ _ _ _ _ _ _ _ | with_reducible apply Junk.alloc | with_reducible apply Junk.junk | with_reducible apply Junk.drew | with_reducible apply Junk.drewN))))⟩
def dig (N : Int) (s : Nat) : List Int := (List.range s).map fun m => N / 256 ^ (s - 1 - m) % 256
theorem dig_get (N : Int) {s m : Nat} (h : m < s) : (dig N s)[m]? = some (N / 256 ^ (s - 1 - m) % 256) := by
  unfold dig
  rw [List.getElem?_map, List.getElem?_range h]
  rfl
theorem dig_len (N : Int) (s : Nat) : (dig N s).length = s := by simp [dig]
/-- What is hashed of a tuple, number by number. -/
def PL (t : Tup) : Nat → List Int
  | 0 => []
  | 1 => dig (t.proto % 256) 1
  | 2 => dig (t.proto % 256) 1 ++ dig t.src 4
  | 3 => (dig (t.proto % 256) 1 ++ dig t.src 4) ++ dig (t.sport % 65536) 2
  | 4 => ((dig (t.proto % 256) 1 ++ dig t.src 4) ++ dig (t.sport % 65536) 2) ++ dig t.dst 4
  | _ => (((dig (t.proto % 256) 1 ++ dig t.src 4) ++ dig (t.sport % 65536) 2) ++ dig t.dst 4) ++ dig (t.dport % 65536) 2
theorem PL_all {t : Tup} (h : TupWf t) : PL t 5 = tupRaw t := by
  have h1 := h.src
  have h2 := h.dst
  have d1 : ∀ N : Int, dig N 1 = [N % 256] := fun N => by simp [dig, List.range_succ]
  have d2 : ∀ N : Int, dig N 2 = [N / 256 % 256, N % 256] := fun N => by simp [dig, List.range_succ]
  have d4 : ∀ N : Int, dig N 4 = [N / 16777216 % 256, N / 65536 % 256, N / 256 % 256, N % 256] := fun N => by simp [dig, List.range_succ]
  unfold PL tupRaw sideL
  rw [d1, d4, d2, d4, d2]
  simp only [List.cons_append, List.nil_append, List.cons.injEq, and_true]
  refine ⟨?_, ?_, ?_, ?_, ?_, ?_, ?_, ?_, ?_, ?_, ?_, ?_, ?_⟩ <;> first | trivial | omega
theorem foldl_pl (xs ys : List Int) (s : Int) : ys.foldl hashStep (xs.foldl hashStep s) = (xs ++ ys).foldl hashStep s := by rw [List.foldl_append]
set_option maxHeartbeats 16000000 in
theorem rhash_any (t : Tup) (s : Int) (w : World) (ht : TupWf t) (hs : 0 ≤ s ∧ s ≤ 4294967295) : Calls Try.prog 39 #[.agg #[.int .i64 t.proto, .int .u32 t.src, .int .i64 t.sport, .int .u32 t.dst, .int .i64 t.dport], .int .u32 s] w fun e w' => e = .returned (.int .u32 (tupHash t s)) ∧ Junk w w' := by
  have hx0 : bits .xor .u32 2166136261 s = ((2166136261 ^^^ s.toNat : Nat) : Int) := u32_xor 2166136261 s (by decide) (by decide) hs.1 (by omega)
  have hsb := seed_bd hs
  obtain ⟨H0, hH0⟩ : ∃ h, ((2166136261 ^^^ s.toNat : Nat) : Int) = h := ⟨_, rfl⟩
  have HH := Lib.hid (show tupHash t s = (PL t 5).foldl hashStep H0 by unfold tupHash; rw [hH0, PL_all ht])
  rw [hH0] at hx0 hsb
  have HSB := Lib.hid hsb
  have HNT0 := fun w1 => rnums_any t w1 ht
  unfold numsV at HNT0
  have hp0 : PL t 0 = [] := rfl
  have hp1 : PL t 1 = PL t 0 ++ dig (t.proto % 256) 1 := rfl
  have hp2 : PL t 2 = PL t 1 ++ dig t.src 4 := rfl
  have hp3 : PL t 3 = PL t 2 ++ dig (t.sport % 65536) 2 := rfl
  have hp4 : PL t 4 = PL t 3 ++ dig t.dst 4 := rfl
  have hp5 : PL t 5 = PL t 4 ++ dig (t.dport % 65536) 2 := rfl
  have b0 : 0 ≤ t.proto % 256 ∧ t.proto % 256 ≤ 4294967295 := by omega
  have b1 := ht.src
  have b2 : 0 ≤ t.sport % 65536 ∧ t.sport % 65536 ≤ 4294967295 := by omega
  have b3 := ht.dst
  have b4 : 0 ≤ t.dport % 65536 ∧ t.dport % 65536 ≤ 4294967295 := by omega
  generalize PL t = PT at HH hp0 hp1 hp2 hp3 hp4 hp5
  generalize t.proto % 256 = N0 at HNT0 hp1 b0
  generalize t.sport % 65536 = N2 at HNT0 hp3 b2
  generalize t.dport % 65536 = N4 at HNT0 hp5 b4
  have HNT := Lib.hid HNT0
  have HP := Lib.hid (And.intro hp0 (And.intro hp1 (And.intro hp2 (And.intro hp3 (And.intro hp4 hp5)))))
  clear hH0 hsb HNT0 hp0 hp1 hp2 hp3 hp4 hp5
  go_enter Try.func39, Try.ntmps39
  go_wp2_with (first | (go_at_call 73; refine (HNT.out _).mono ?_; rintro e w' ⟨rfl, ⟨osj, dj, rfl⟩⟩))
  go_loop [5, 8, 9, 10, 11] (fun h i k c j => ∃ n : Nat, n ≤ 5 ∧ i = .int .i64 (n : Int) ∧ h = .int .u32 ((PT n).foldl hashStep H0)) (fun _ i _ _ _ => 6 - (intOf i).toNat)
  case atStart => exact ⟨0, by omega, rfl, by rw [HP.out.1]; rfl⟩
  case round =>
    obtain ⟨n, hn, rfl, rfl⟩ := hrel
    rcases (show n = 0 ∨ n = 1 ∨ n = 2 ∨ n = 3 ∨ n = 4 ∨ n = 5 by omega) with rfl | rfl | rfl | rfl | rfl | rfl
    · have hhb := hash_bd (PT 0) H0 HSB.out
      obtain ⟨Hi, hHi⟩ : ∃ h, (PT 0).foldl hashStep H0 = h := ⟨_, rfl⟩
      rw [hHi] at hhb ⊢
      have HNX := Lib.hid (show (PT 1).foldl hashStep H0 = (dig N0 1).foldl hashStep Hi by rw [HP.out.2.1, ← foldl_pl, hHi])
      have HHB := Lib.hid hhb
      clear hHi hhb
      go_wp2
      go_loop [5, 9, 10, 11] (fun h k c j => ∃ m : Nat, m ≤ 1 ∧ k = .int .i64 (0 - (m : Int)) ∧ h = .int .u32 (((dig N0 1).take m).foldl hashStep Hi)) (fun _ k _ _ => (intOf k + 1).toNat)
      case atStart => exact ⟨0, by omega, rfl, rfl⟩
      case round =>
        obtain ⟨m, hm, rfl, rfl⟩ := hrel
        by_cases hmS : m < 1
        case neg =>
          obtain rfl : m = 1 := by omega
          have HE := Lib.hid (show ((dig N0 1).take 1).foldl hashStep Hi = (PT 1).foldl hashStep H0 by rw [HNX.out, List.take_of_length_le (by rw [dig_len]; omega)])
          go_wp2
          exact ⟨⟨1, by omega, rfl, by rw [HE.out]⟩, by simp [intOf]⟩
        have hm2 : 0 ≤ 0 - (m : Int) := by omega
        obtain ⟨K, hK⟩ : ∃ K : Nat, 1 - 1 - m = K := ⟨_, rfl⟩
        have eK : 0 - (m : Int) = (K : Int) := by omega
        have hx := dig_get N0 hmS
        have hstep := foldl_take_succ hx Hi
        have hhb := hash_bd ((dig N0 1).take m) Hi HHB.out
        rw [hK] at hx hstep
        obtain ⟨h, hh⟩ : ∃ h, ((dig N0 1).take m).foldl hashStep Hi = h := ⟨_, rfl⟩
        rw [hh] at hstep hhb ⊢
        have HSTEP := Lib.hid hstep
        have hK3 : K ≤ 3 := by omega
        have hmK : m + K = 0 := by omega
        clear hx hstep hh hK
        go_wp2
        go_loop [10, 11] (fun c j => ∃ q : Nat, q ≤ K ∧ j = .int .i64 (q : Int) ∧ c = .int .i64 (N0 / 256 ^ q)) (fun _ j => K + 1 - (intOf j).toNat)
        case atStart => exact ⟨0, by omega, rfl, by rw [Int.pow_zero, Int.ediv_one]⟩
        case round =>
          obtain ⟨q, hq, rfl, rfl⟩ := hrel
          have hC0 : 0 ≤ N0 / 256 ^ q := Int.ediv_nonneg (by omega) (Int.pow_nonneg (by omega))
          have hC1 : N0 / 256 ^ q ≤ 4294967295 := Int.le_trans (Int.ediv_le_self _ (by omega)) (by omega)
          have hsucc : N0 / 256 ^ (q + 1) = N0 / 256 ^ q / 256 := by rw [Int.pow_succ, Int.ediv_ediv_of_nonneg (Int.pow_nonneg (by omega))]
          obtain ⟨C, hC⟩ : ∃ C, N0 / 256 ^ q = C := ⟨_, rfl⟩
          rw [hC] at hC0 hC1 hsucc ⊢
          have HSU := Lib.hid hsucc
          have HC := Lib.hid hC
          clear hC hsucc
          by_cases hqK : q < K
          case pos =>
            have hq2 : (q : Int) < (K : Int) := by omega
            have f1 : C.tdiv 256 = C / 256 := Int.tdiv_eq_ediv_of_nonneg hC0
            go_wp2
            exact ⟨⟨q + 1, by omega, by go_num, by rw [HSU.out]⟩, by simp [intOf]; omega⟩
          have hq2 : ¬ (q : Int) < (K : Int) := by omega
          obtain rfl : q = K := by omega
          have f2 : C.tmod 256 = C % 256 := Int.tmod_eq_emod_of_nonneg hC0
          obtain ⟨D, hD⟩ : ∃ D, C % 256 = D := ⟨_, rfl⟩
          have hDb : 0 ≤ D ∧ D ≤ 255 := by omega
          have wx := wrapk_u32 D (by omega) (by omega)
          obtain ⟨X, hX⟩ : ∃ X, ((h.toNat ^^^ D.toNat : Nat) : Int) = X := ⟨_, rfl⟩
          have f3 : bits .xor .u32 h D = X := by rw [u32_xor h D hhb.1 (by omega) hDb.1 (by omega)]; exact hX
          have f4 : IntKind.u32.wrap (X * 16777619) = X * 16777619 % 4294967296 := IntKind.wrap_u32 _
          have HST := Lib.hid (show ((dig N0 1).take (m + 1)).foldl hashStep Hi = X * 16777619 % 4294967296 by rw [HSTEP.out, HC.out, hD]; unfold hashStep; rw [hX])
          clear hX
          go_wp2
          exact ⟨⟨m + 1, by omega, by go_num, by rw [HST.out]⟩, by simp [intOf]; omega⟩
    · have hhb := hash_bd (PT 1) H0 HSB.out
      obtain ⟨Hi, hHi⟩ : ∃ h, (PT 1).foldl hashStep H0 = h := ⟨_, rfl⟩
      rw [hHi] at hhb ⊢
      have HNX := Lib.hid (show (PT 2).foldl hashStep H0 = (dig t.src 4).foldl hashStep Hi by rw [HP.out.2.2.1, ← foldl_pl, hHi])
      have HHB := Lib.hid hhb
      clear hHi hhb
      go_wp2
      go_loop [5, 9, 10, 11] (fun h k c j => ∃ m : Nat, m ≤ 4 ∧ k = .int .i64 (3 - (m : Int)) ∧ h = .int .u32 (((dig t.src 4).take m).foldl hashStep Hi)) (fun _ k _ _ => (intOf k + 1).toNat)
      case atStart => exact ⟨0, by omega, rfl, rfl⟩
      case round =>
        obtain ⟨m, hm, rfl, rfl⟩ := hrel
        by_cases hmS : m < 4
        case neg =>
          obtain rfl : m = 4 := by omega
          have HE := Lib.hid (show ((dig t.src 4).take 4).foldl hashStep Hi = (PT 2).foldl hashStep H0 by rw [HNX.out, List.take_of_length_le (by rw [dig_len]; omega)])
          go_wp2
          exact ⟨⟨2, by omega, rfl, by rw [HE.out]⟩, by simp [intOf]⟩
        have hm2 : 0 ≤ 3 - (m : Int) := by omega
        obtain ⟨K, hK⟩ : ∃ K : Nat, 4 - 1 - m = K := ⟨_, rfl⟩
        have eK : 3 - (m : Int) = (K : Int) := by omega
        have hx := dig_get t.src hmS
        have hstep := foldl_take_succ hx Hi
        have hhb := hash_bd ((dig t.src 4).take m) Hi HHB.out
        rw [hK] at hx hstep
        obtain ⟨h, hh⟩ : ∃ h, ((dig t.src 4).take m).foldl hashStep Hi = h := ⟨_, rfl⟩
        rw [hh] at hstep hhb ⊢
        have HSTEP := Lib.hid hstep
        have hK3 : K ≤ 3 := by omega
        have hmK : m + K = 3 := by omega
        clear hx hstep hh hK
        go_wp2
        go_loop [10, 11] (fun c j => ∃ q : Nat, q ≤ K ∧ j = .int .i64 (q : Int) ∧ c = .int .i64 (t.src / 256 ^ q)) (fun _ j => K + 1 - (intOf j).toNat)
        case atStart => exact ⟨0, by omega, rfl, by rw [Int.pow_zero, Int.ediv_one]⟩
        case round =>
          obtain ⟨q, hq, rfl, rfl⟩ := hrel
          have hC0 : 0 ≤ t.src / 256 ^ q := Int.ediv_nonneg (by omega) (Int.pow_nonneg (by omega))
          have hC1 : t.src / 256 ^ q ≤ 4294967295 := Int.le_trans (Int.ediv_le_self _ (by omega)) (by omega)
          have hsucc : t.src / 256 ^ (q + 1) = t.src / 256 ^ q / 256 := by rw [Int.pow_succ, Int.ediv_ediv_of_nonneg (Int.pow_nonneg (by omega))]
          obtain ⟨C, hC⟩ : ∃ C, t.src / 256 ^ q = C := ⟨_, rfl⟩
          rw [hC] at hC0 hC1 hsucc ⊢
          have HSU := Lib.hid hsucc
          have HC := Lib.hid hC
          clear hC hsucc
          by_cases hqK : q < K
          case pos =>
            have hq2 : (q : Int) < (K : Int) := by omega
            have f1 : C.tdiv 256 = C / 256 := Int.tdiv_eq_ediv_of_nonneg hC0
            go_wp2
            exact ⟨⟨q + 1, by omega, by go_num, by rw [HSU.out]⟩, by simp [intOf]; omega⟩
          have hq2 : ¬ (q : Int) < (K : Int) := by omega
          obtain rfl : q = K := by omega
          have f2 : C.tmod 256 = C % 256 := Int.tmod_eq_emod_of_nonneg hC0
          obtain ⟨D, hD⟩ : ∃ D, C % 256 = D := ⟨_, rfl⟩
          have hDb : 0 ≤ D ∧ D ≤ 255 := by omega
          have wx := wrapk_u32 D (by omega) (by omega)
          obtain ⟨X, hX⟩ : ∃ X, ((h.toNat ^^^ D.toNat : Nat) : Int) = X := ⟨_, rfl⟩
          have f3 : bits .xor .u32 h D = X := by rw [u32_xor h D hhb.1 (by omega) hDb.1 (by omega)]; exact hX
          have f4 : IntKind.u32.wrap (X * 16777619) = X * 16777619 % 4294967296 := IntKind.wrap_u32 _
          have HST := Lib.hid (show ((dig t.src 4).take (m + 1)).foldl hashStep Hi = X * 16777619 % 4294967296 by rw [HSTEP.out, HC.out, hD]; unfold hashStep; rw [hX])
          clear hX
          go_wp2
          exact ⟨⟨m + 1, by omega, by go_num, by rw [HST.out]⟩, by simp [intOf]; omega⟩
    · have hhb := hash_bd (PT 2) H0 HSB.out
      obtain ⟨Hi, hHi⟩ : ∃ h, (PT 2).foldl hashStep H0 = h := ⟨_, rfl⟩
      rw [hHi] at hhb ⊢
      have HNX := Lib.hid (show (PT 3).foldl hashStep H0 = (dig N2 2).foldl hashStep Hi by rw [HP.out.2.2.2.1, ← foldl_pl, hHi])
      have HHB := Lib.hid hhb
      clear hHi hhb
      go_wp2
      go_loop [5, 9, 10, 11] (fun h k c j => ∃ m : Nat, m ≤ 2 ∧ k = .int .i64 (1 - (m : Int)) ∧ h = .int .u32 (((dig N2 2).take m).foldl hashStep Hi)) (fun _ k _ _ => (intOf k + 1).toNat)
      case atStart => exact ⟨0, by omega, rfl, rfl⟩
      case round =>
        obtain ⟨m, hm, rfl, rfl⟩ := hrel
        by_cases hmS : m < 2
        case neg =>
          obtain rfl : m = 2 := by omega
          have HE := Lib.hid (show ((dig N2 2).take 2).foldl hashStep Hi = (PT 3).foldl hashStep H0 by rw [HNX.out, List.take_of_length_le (by rw [dig_len]; omega)])
          go_wp2
          exact ⟨⟨3, by omega, rfl, by rw [HE.out]⟩, by simp [intOf]⟩
        have hm2 : 0 ≤ 1 - (m : Int) := by omega
        obtain ⟨K, hK⟩ : ∃ K : Nat, 2 - 1 - m = K := ⟨_, rfl⟩
        have eK : 1 - (m : Int) = (K : Int) := by omega
        have hx := dig_get N2 hmS
        have hstep := foldl_take_succ hx Hi
        have hhb := hash_bd ((dig N2 2).take m) Hi HHB.out
        rw [hK] at hx hstep
        obtain ⟨h, hh⟩ : ∃ h, ((dig N2 2).take m).foldl hashStep Hi = h := ⟨_, rfl⟩
        rw [hh] at hstep hhb ⊢
        have HSTEP := Lib.hid hstep
        have hK3 : K ≤ 3 := by omega
        have hmK : m + K = 1 := by omega
        clear hx hstep hh hK
        go_wp2
        go_loop [10, 11] (fun c j => ∃ q : Nat, q ≤ K ∧ j = .int .i64 (q : Int) ∧ c = .int .i64 (N2 / 256 ^ q)) (fun _ j => K + 1 - (intOf j).toNat)
        case atStart => exact ⟨0, by omega, rfl, by rw [Int.pow_zero, Int.ediv_one]⟩
        case round =>
          obtain ⟨q, hq, rfl, rfl⟩ := hrel
          have hC0 : 0 ≤ N2 / 256 ^ q := Int.ediv_nonneg (by omega) (Int.pow_nonneg (by omega))
          have hC1 : N2 / 256 ^ q ≤ 4294967295 := Int.le_trans (Int.ediv_le_self _ (by omega)) (by omega)
          have hsucc : N2 / 256 ^ (q + 1) = N2 / 256 ^ q / 256 := by rw [Int.pow_succ, Int.ediv_ediv_of_nonneg (Int.pow_nonneg (by omega))]
          obtain ⟨C, hC⟩ : ∃ C, N2 / 256 ^ q = C := ⟨_, rfl⟩
          rw [hC] at hC0 hC1 hsucc ⊢
          have HSU := Lib.hid hsucc
          have HC := Lib.hid hC
          clear hC hsucc
          by_cases hqK : q < K
          case pos =>
            have hq2 : (q : Int) < (K : Int) := by omega
            have f1 : C.tdiv 256 = C / 256 := Int.tdiv_eq_ediv_of_nonneg hC0
            go_wp2
            exact ⟨⟨q + 1, by omega, by go_num, by rw [HSU.out]⟩, by simp [intOf]; omega⟩
          have hq2 : ¬ (q : Int) < (K : Int) := by omega
          obtain rfl : q = K := by omega
          have f2 : C.tmod 256 = C % 256 := Int.tmod_eq_emod_of_nonneg hC0
          obtain ⟨D, hD⟩ : ∃ D, C % 256 = D := ⟨_, rfl⟩
          have hDb : 0 ≤ D ∧ D ≤ 255 := by omega
          have wx := wrapk_u32 D (by omega) (by omega)
          obtain ⟨X, hX⟩ : ∃ X, ((h.toNat ^^^ D.toNat : Nat) : Int) = X := ⟨_, rfl⟩
          have f3 : bits .xor .u32 h D = X := by rw [u32_xor h D hhb.1 (by omega) hDb.1 (by omega)]; exact hX
          have f4 : IntKind.u32.wrap (X * 16777619) = X * 16777619 % 4294967296 := IntKind.wrap_u32 _
          have HST := Lib.hid (show ((dig N2 2).take (m + 1)).foldl hashStep Hi = X * 16777619 % 4294967296 by rw [HSTEP.out, HC.out, hD]; unfold hashStep; rw [hX])
          clear hX
          go_wp2
          exact ⟨⟨m + 1, by omega, by go_num, by rw [HST.out]⟩, by simp [intOf]; omega⟩
    · have hhb := hash_bd (PT 3) H0 HSB.out
      obtain ⟨Hi, hHi⟩ : ∃ h, (PT 3).foldl hashStep H0 = h := ⟨_, rfl⟩
      rw [hHi] at hhb ⊢
      have HNX := Lib.hid (show (PT 4).foldl hashStep H0 = (dig t.dst 4).foldl hashStep Hi by rw [HP.out.2.2.2.2.1, ← foldl_pl, hHi])
      have HHB := Lib.hid hhb
      clear hHi hhb
      go_wp2
      go_loop [5, 9, 10, 11] (fun h k c j => ∃ m : Nat, m ≤ 4 ∧ k = .int .i64 (3 - (m : Int)) ∧ h = .int .u32 (((dig t.dst 4).take m).foldl hashStep Hi)) (fun _ k _ _ => (intOf k + 1).toNat)
      case atStart => exact ⟨0, by omega, rfl, rfl⟩
      case round =>
        obtain ⟨m, hm, rfl, rfl⟩ := hrel
        by_cases hmS : m < 4
        case neg =>
          obtain rfl : m = 4 := by omega
          have HE := Lib.hid (show ((dig t.dst 4).take 4).foldl hashStep Hi = (PT 4).foldl hashStep H0 by rw [HNX.out, List.take_of_length_le (by rw [dig_len]; omega)])
          go_wp2
          exact ⟨⟨4, by omega, rfl, by rw [HE.out]⟩, by simp [intOf]⟩
        have hm2 : 0 ≤ 3 - (m : Int) := by omega
        obtain ⟨K, hK⟩ : ∃ K : Nat, 4 - 1 - m = K := ⟨_, rfl⟩
        have eK : 3 - (m : Int) = (K : Int) := by omega
        have hx := dig_get t.dst hmS
        have hstep := foldl_take_succ hx Hi
        have hhb := hash_bd ((dig t.dst 4).take m) Hi HHB.out
        rw [hK] at hx hstep
        obtain ⟨h, hh⟩ : ∃ h, ((dig t.dst 4).take m).foldl hashStep Hi = h := ⟨_, rfl⟩
        rw [hh] at hstep hhb ⊢
        have HSTEP := Lib.hid hstep
        have hK3 : K ≤ 3 := by omega
        have hmK : m + K = 3 := by omega
        clear hx hstep hh hK
        go_wp2
        go_loop [10, 11] (fun c j => ∃ q : Nat, q ≤ K ∧ j = .int .i64 (q : Int) ∧ c = .int .i64 (t.dst / 256 ^ q)) (fun _ j => K + 1 - (intOf j).toNat)
        case atStart => exact ⟨0, by omega, rfl, by rw [Int.pow_zero, Int.ediv_one]⟩
        case round =>
          obtain ⟨q, hq, rfl, rfl⟩ := hrel
          have hC0 : 0 ≤ t.dst / 256 ^ q := Int.ediv_nonneg (by omega) (Int.pow_nonneg (by omega))
          have hC1 : t.dst / 256 ^ q ≤ 4294967295 := Int.le_trans (Int.ediv_le_self _ (by omega)) (by omega)
          have hsucc : t.dst / 256 ^ (q + 1) = t.dst / 256 ^ q / 256 := by rw [Int.pow_succ, Int.ediv_ediv_of_nonneg (Int.pow_nonneg (by omega))]
          obtain ⟨C, hC⟩ : ∃ C, t.dst / 256 ^ q = C := ⟨_, rfl⟩
          rw [hC] at hC0 hC1 hsucc ⊢
          have HSU := Lib.hid hsucc
          have HC := Lib.hid hC
          clear hC hsucc
          by_cases hqK : q < K
          case pos =>
            have hq2 : (q : Int) < (K : Int) := by omega
            have f1 : C.tdiv 256 = C / 256 := Int.tdiv_eq_ediv_of_nonneg hC0
            go_wp2
            exact ⟨⟨q + 1, by omega, by go_num, by rw [HSU.out]⟩, by simp [intOf]; omega⟩
          have hq2 : ¬ (q : Int) < (K : Int) := by omega
          obtain rfl : q = K := by omega
          have f2 : C.tmod 256 = C % 256 := Int.tmod_eq_emod_of_nonneg hC0
          obtain ⟨D, hD⟩ : ∃ D, C % 256 = D := ⟨_, rfl⟩
          have hDb : 0 ≤ D ∧ D ≤ 255 := by omega
          have wx := wrapk_u32 D (by omega) (by omega)
          obtain ⟨X, hX⟩ : ∃ X, ((h.toNat ^^^ D.toNat : Nat) : Int) = X := ⟨_, rfl⟩
          have f3 : bits .xor .u32 h D = X := by rw [u32_xor h D hhb.1 (by omega) hDb.1 (by omega)]; exact hX
          have f4 : IntKind.u32.wrap (X * 16777619) = X * 16777619 % 4294967296 := IntKind.wrap_u32 _
          have HST := Lib.hid (show ((dig t.dst 4).take (m + 1)).foldl hashStep Hi = X * 16777619 % 4294967296 by rw [HSTEP.out, HC.out, hD]; unfold hashStep; rw [hX])
          clear hX
          go_wp2
          exact ⟨⟨m + 1, by omega, by go_num, by rw [HST.out]⟩, by simp [intOf]; omega⟩
    · have hhb := hash_bd (PT 4) H0 HSB.out
      obtain ⟨Hi, hHi⟩ : ∃ h, (PT 4).foldl hashStep H0 = h := ⟨_, rfl⟩
      rw [hHi] at hhb ⊢
      have HNX := Lib.hid (show (PT 5).foldl hashStep H0 = (dig N4 2).foldl hashStep Hi by rw [HP.out.2.2.2.2.2, ← foldl_pl, hHi])
      have HHB := Lib.hid hhb
      clear hHi hhb
      go_wp2
      go_loop [5, 9, 10, 11] (fun h k c j => ∃ m : Nat, m ≤ 2 ∧ k = .int .i64 (1 - (m : Int)) ∧ h = .int .u32 (((dig N4 2).take m).foldl hashStep Hi)) (fun _ k _ _ => (intOf k + 1).toNat)
      case atStart => exact ⟨0, by omega, rfl, rfl⟩
      case round =>
        obtain ⟨m, hm, rfl, rfl⟩ := hrel
        by_cases hmS : m < 2
        case neg =>
          obtain rfl : m = 2 := by omega
          have HE := Lib.hid (show ((dig N4 2).take 2).foldl hashStep Hi = (PT 5).foldl hashStep H0 by rw [HNX.out, List.take_of_length_le (by rw [dig_len]; omega)])
          go_wp2
          exact ⟨⟨5, by omega, rfl, by rw [HE.out]⟩, by simp [intOf]⟩
        have hm2 : 0 ≤ 1 - (m : Int) := by omega
        obtain ⟨K, hK⟩ : ∃ K : Nat, 2 - 1 - m = K := ⟨_, rfl⟩
        have eK : 1 - (m : Int) = (K : Int) := by omega
        have hx := dig_get N4 hmS
        have hstep := foldl_take_succ hx Hi
        have hhb := hash_bd ((dig N4 2).take m) Hi HHB.out
        rw [hK] at hx hstep
        obtain ⟨h, hh⟩ : ∃ h, ((dig N4 2).take m).foldl hashStep Hi = h := ⟨_, rfl⟩
        rw [hh] at hstep hhb ⊢
        have HSTEP := Lib.hid hstep
        have hK3 : K ≤ 3 := by omega
        have hmK : m + K = 1 := by omega
        clear hx hstep hh hK
        go_wp2
        go_loop [10, 11] (fun c j => ∃ q : Nat, q ≤ K ∧ j = .int .i64 (q : Int) ∧ c = .int .i64 (N4 / 256 ^ q)) (fun _ j => K + 1 - (intOf j).toNat)
        case atStart => exact ⟨0, by omega, rfl, by rw [Int.pow_zero, Int.ediv_one]⟩
        case round =>
          obtain ⟨q, hq, rfl, rfl⟩ := hrel
          have hC0 : 0 ≤ N4 / 256 ^ q := Int.ediv_nonneg (by omega) (Int.pow_nonneg (by omega))
          have hC1 : N4 / 256 ^ q ≤ 4294967295 := Int.le_trans (Int.ediv_le_self _ (by omega)) (by omega)
          have hsucc : N4 / 256 ^ (q + 1) = N4 / 256 ^ q / 256 := by rw [Int.pow_succ, Int.ediv_ediv_of_nonneg (Int.pow_nonneg (by omega))]
          obtain ⟨C, hC⟩ : ∃ C, N4 / 256 ^ q = C := ⟨_, rfl⟩
          rw [hC] at hC0 hC1 hsucc ⊢
          have HSU := Lib.hid hsucc
          have HC := Lib.hid hC
          clear hC hsucc
          by_cases hqK : q < K
          case pos =>
            have hq2 : (q : Int) < (K : Int) := by omega
            have f1 : C.tdiv 256 = C / 256 := Int.tdiv_eq_ediv_of_nonneg hC0
            go_wp2
            exact ⟨⟨q + 1, by omega, by go_num, by rw [HSU.out]⟩, by simp [intOf]; omega⟩
          have hq2 : ¬ (q : Int) < (K : Int) := by omega
          obtain rfl : q = K := by omega
          have f2 : C.tmod 256 = C % 256 := Int.tmod_eq_emod_of_nonneg hC0
          obtain ⟨D, hD⟩ : ∃ D, C % 256 = D := ⟨_, rfl⟩
          have hDb : 0 ≤ D ∧ D ≤ 255 := by omega
          have wx := wrapk_u32 D (by omega) (by omega)
          obtain ⟨X, hX⟩ : ∃ X, ((h.toNat ^^^ D.toNat : Nat) : Int) = X := ⟨_, rfl⟩
          have f3 : bits .xor .u32 h D = X := by rw [u32_xor h D hhb.1 (by omega) hDb.1 (by omega)]; exact hX
          have f4 : IntKind.u32.wrap (X * 16777619) = X * 16777619 % 4294967296 := IntKind.wrap_u32 _
          have HST := Lib.hid (show ((dig N4 2).take (m + 1)).foldl hashStep Hi = X * 16777619 % 4294967296 by rw [HSTEP.out, HC.out, hD]; unfold hashStep; rw [hX])
          clear hX
          go_wp2
          exact ⟨⟨m + 1, by omega, by go_num, by rw [HST.out]⟩, by simp [intOf]; omega⟩
    · go_wp2
      go_ret
      exact ⟨by rw [HH.out]; rfl, by (first | ((repeat (first | with_reducible exact Junk.refl _ | with_reducible exact Junk.app _ _ _ _ _ | with_reducible apply Junk.alloc | with_reducible apply Junk.junk | with_reducible apply Junk.drew | with_reducible apply Junk.drewN)); done) | ((try simp only [World.junk_junk, Array.append_assoc]); (repeat (first | with_reducible exact Junk.refl _ | with_reducible exact Junk.app _ _ _ _ _ | with_reducible exact Junk.app2 _ _ _ _ _ _ | with_reducible exact Junk.app3 _ _ _ _ _ _ _ | with_reducible exact Junk.app4 _ _ _ _ _ _ _ _ | with_reducible exact Junk.app5 _ _ _ _ _ _ _ _ _ | with_reducible apply Junk.alloc | with_reducible apply Junk.junk | with_reducible apply Junk.drew | with_reducible apply Junk.drewN))))⟩
end Go.Proofs.Ytjmofjcloebgmaa
