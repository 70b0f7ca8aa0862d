/- The law ReasmStays: whatever comes, a pool stays right, holds at most its room, and nothing that waited too long. -/
import Derived.Test.YtgjppmkadmfibaaRtM
import Derived.Deep.CutBlock
set_option linter.unusedVariables false
set_option maxRecDepth 100000
set_option linter.unusedSimpArgs false
namespace Go.Proofs.Ytgjppmkadmfibaa
open Go.RowKit
theorem new_bad {room life : Int} (h : (wiR room 1 1048576 && wiR life 1 1048576) = false) (w : World) : Calls Try.prog 9 #[.int .i64 room, .int .i64 life] w fun e w' => e = .returned (.tuple #[.agg #[.int .i64 0, .int .i64 0, .int .i64 0, .slice none 0 0], .int .i64 1]) ∧ Junk w w' :=
  (new_any room life w).mono fun e w' h1 => ⟨by rw [h1.2, h]; rfl, h1.1⟩
theorem new_good {room life : Int} (h : (wiR room 1 1048576 && wiR life 1 1048576) = true) (w : World) : Calls Try.prog 9 #[.int .i64 room, .int .i64 life] w fun e w' => e = .returned (.tuple #[.agg #[.int .i64 room, .int .i64 life, .int .i64 0, .slice none 0 0], .int .i64 0]) ∧ Junk w w' :=
  (new_any room life w).mono fun e w' h1 => ⟨by rw [h1.2, h]; rfl, h1.1⟩
theorem small_M {M k l : Nat} (h : M ≤ 255 * (k + 1)) (hk : k < l) (hl : l ≤ 60) : (M : Int) ≤ 1099511627776 := by omega
theorem le_sum {N X M : Nat} (h : N + X = M) : (N : Int) ≤ (M : Int) := by omega
theorem wrap_born {room life n : Int} {Q : List Bq} (h : PoK room life n Q) {b : Bq} (hb : b ∈ Q) : IntKind.i64.wrap (n - b.born) = n - b.born := by
  have h1 := rightQ_iff.1 h.right
  have h2 := h1.buf b hb
  unfold bufB at h2
  rw [Bool.and_eq_true, wiR_iff] at h2
  have h3 := h1.nw
  exact wrapk_i64 _ (by omega) (by omega)
/-- The eleven cells of a packet, one by one. -/
theorem cells11 {w : World} {g o : Nat} {x : Ipl} (h : ∀ j v, x.cells[j]? = some v → w.cell? ⟨g, o + j, none⟩ = some v) :
    w.cell? ⟨g, o, none⟩ = some (.int .i64 x.p.tos) ∧ w.cell? ⟨g, o + 1, none⟩ = some (.int .i64 x.p.id) ∧ w.cell? ⟨g, o + 2, none⟩ = some (.bool x.p.df) ∧ w.cell? ⟨g, o + 3, none⟩ = some (.bool x.p.mf) ∧ w.cell? ⟨g, o + 4, none⟩ = some (.int .i64 x.p.off) ∧
    w.cell? ⟨g, o + 5, none⟩ = some (.int .i64 x.p.ttl) ∧ w.cell? ⟨g, o + 6, none⟩ = some (.int .i64 x.p.proto) ∧ w.cell? ⟨g, o + 7, none⟩ = some (.int .u32 x.p.src) ∧ w.cell? ⟨g, o + 8, none⟩ = some (.int .u32 x.p.dst) ∧ w.cell? ⟨g, o + 9, none⟩ = some (.slice x.oo x.p.ol x.oc) ∧ w.cell? ⟨g, o + 10, none⟩ = some (.slice x.ob x.p.bl x.bc) :=
  ⟨h 0 _ rfl, h 1 _ rfl, h 2 _ rfl, h 3 _ rfl, h 4 _ rfl, h 5 _ rfl, h 6 _ rfl, h 7 _ rfl, h 8 _ rfl, h 9 _ rfl, h 10 _ rfl⟩
set_option maxRecDepth 100000 in
set_option maxHeartbeats 64000000 in
theorem reasmStays_walk (room life : Int) (oa ot : Option Addr) (l c tl tc : Nat) (L : List Ipl) (xs : Nat → Int) (w : World) (hP : IlAt w oa L) (hl : L.length = l) (hT : IntsAt w ot tl .u8 xs) (hx : ∀ i, i < tl → 0 ≤ xs i ∧ xs i ≤ 255) (htl : tl ≤ 9223372036854775807) (hll : l ≤ 9223372036854775807) :
    Calls Try.prog 4 #[.int .i64 room, .int .i64 life, .slice oa l c, .slice ot tl tc] w fun e w' => e = .returned (.bool true) ∧ Junk w w' := by
  have HP := Lib.hid hP
  have HL := Lib.hid hl
  have HT := Lib.hid hT
  have HXS := Lib.hid hx
  have HTL := Lib.hid htl
  have HLL := Lib.hid hll
  clear hP hl hT hx htl hll
  cases hg : wiR room 1 1048576 && wiR life 1 1048576 with
  | false =>
    have HN := Lib.hid (new_bad hg)
    clear hg
    go_enter Try.func4, Try.ntmps4
    go_wp2_with (first
      | (go_at_call 7; (with_reducible refine (awake7_any _).mono ?_); rintro e w' ⟨rfl, ⟨osj, dj, rfl⟩⟩)
      | (go_at_call 9; (with_reducible refine (HN.out _).mono ?_); rintro e w' ⟨rfl, ⟨osj2, dj2, rfl⟩⟩))
    go_ret
    exact ⟨rfl, by (exact jkc)⟩
  | true =>
    have HN := Lib.hid (new_good hg)
    have HG := Lib.hid hg
    clear hg
    by_cases h60 : 60 < l
    · have h60i : (60 : Int) < (l : Int) := by omega
      go_enter Try.func4, Try.ntmps4
      go_wp2_with (first
        | (go_at_call 7; (with_reducible refine (awake7_any _).mono ?_); rintro e w' ⟨rfl, ⟨osj, dj, rfl⟩⟩)
        | (go_at_call 9; (with_reducible refine (HN.out _).mono ?_); rintro e w' ⟨rfl, ⟨osj2, dj2, rfl⟩⟩))
      go_ret
      exact ⟨rfl, by (exact jkc)⟩
    have h60i : ¬ (60 : Int) < (l : Int) := by omega
    have H60 := Lib.hid h60
    clear h60
    go_enter Try.func4, Try.ntmps4
    go_upto_block 0 with (first
      | (go_at_call 7; (with_reducible refine (awake7_any _).mono ?_); rintro e w' ⟨rfl, ⟨osj, dj, rfl⟩⟩)
      | (go_at_call 9; (with_reducible refine (HN.out _).mono ?_); rintro e w' ⟨rfl, ⟨osj2, dj2, rfl⟩⟩))
    have BX := box_new (w.junk (osj ++ osj2) dj2) #[.int .i64 room, .int .i64 life, .int .i64 0, .slice none 0 0] 31
    rw [World.size_junk, Array.size_append] at BX
    generalize hr9 : w.heap.size + (osj.size + osj2.size) = r9 at BX ⊢
    refine wp_genX (fun V => StP w r9 room life 0 V) ⟨by (exact jkc), by omega, none, 0, 0, [], BX, qsat_nil _, PoK.new HG.out⟩ ?_
    intro V hV
    have HV := Lib.hid hV
    clear hV BX hr9 osj dj osj2 dj2 HN HG
    go_wp2
    go_loopw [11] (fun i wr => ∃ k : Nat, k ≤ l ∧ i = .int .i64 (k : Int) ∧ V = wr ∧ Hid (∀ j x, j < k → L[j]? = some x → x.p.bl ≤ 300 ∧ x.p.ol ≤ 40)) (fun i _ => l + 1 - (intOf i).toNat)
    case atStart => exact ⟨0, by omega, rfl, rfl, Lib.hid (fun j x hj => by omega)⟩
    case round =>
      obtain ⟨k, hk, rfl, rfl, hA⟩ := hrel
      have HA := Lib.hid hA.out
      clear hA
      by_cases hkl : k < l
      · have hkl2 : (k : Int) < (l : Int) := by omega
        have hk0 : (0 : Int) ≤ (k : Int) := by omega
        have pk := wrapk_i64 ((k : Int) + 1) (by omega) (by have := HLL.out; omega)
        obtain ⟨x, hx⟩ : ∃ x, L[k]? = some x := ⟨_, List.getElem?_eq_getElem (by rw [HL.out]; exact hkl)⟩
        obtain ⟨g, off, hob, hgl, hc, hin⟩ := (HP.out.on HV.out.1) k x hx
        obtain ⟨y0, y1, y2, y3, y4, y5, y6, y7, y8, y9, y10⟩ := cells11 hc
        subst hob
        have HX := Lib.hid hx
        clear hx hc hin y0 y1 y2 y3 y4 y5 y6 y7 y8
        by_cases d1 : 300 < x.p.bl
        · have e1 : decide ((300 : Int) < (x.p.bl : Int)) = true := decide_eq_true (by omega)
          go_wp2
          go_ret
          exact ⟨rfl, HV.out.1⟩
        · have e1 : decide ((300 : Int) < (x.p.bl : Int)) = false := decide_eq_false (by omega)
          by_cases d2 : 40 < x.p.ol
          · have e2 : decide ((40 : Int) < (x.p.ol : Int)) = true := decide_eq_true (by omega)
            go_wp2
            go_ret
            exact ⟨rfl, HV.out.1⟩
          · have e2 : decide ((40 : Int) < (x.p.ol : Int)) = false := decide_eq_false (by omega)
            have HD := Lib.hid (And.intro (Nat.le_of_not_lt d1) (Nat.le_of_not_lt d2))
            clear d1 d2
            go_wp2
            refine ⟨⟨k + 1, by omega, by go_num, trivial, Lib.hid (fun j z hj hz => ?_)⟩, by simp [intOf]; omega⟩
            by_cases hjk : j = k
            · subst hjk
              rw [HX.out] at hz
              cases hz
              exact HD.out
            · exact HA.out j z (by omega) hz
      · have hkl2 : ¬ (k : Int) < (l : Int) := by omega
        obtain rfl : l = k := by omega
        clear hk hkl hkl2
        go_wp2
        go_loopw [12, 13] (fun nw i wr => ∃ (k N : Nat), k ≤ l ∧ i = .int .i64 (k : Int) ∧ nw = .int .i64 (N : Int) ∧ N ≤ 255 * k ∧ Hid (StP w r9 room life (N : Int) wr)) (fun _ i _ => l + 1 - (intOf i).toNat)
        case atStart => exact ⟨0, 0, by omega, rfl, rfl, by omega, HV⟩
        case round =>
          obtain ⟨k, N, hk, rfl, rfl, hN, hS⟩ := hrel
          have HS := Lib.hid hS.out
          clear hS HV
          have l60 : l ≤ 60 := Nat.le_of_not_lt H60.out
          by_cases hkl : k < l
          · have hkl2 : (k : Int) < (l : Int) := by omega
            have hk0 : (0 : Int) ≤ (k : Int) := by omega
            have pk := wrapk_i64 ((k : Int) + 1) (by omega) (by omega)
            obtain ⟨x, hx⟩ : ∃ x, L[k]? = some x := ⟨_, List.getElem?_eq_getElem (by rw [HL.out]; exact hkl)⟩
            have HB := Lib.hid (HA.out k x hkl hx)
            obtain ⟨hjq, hr9, oq, lq, cq, Q, hbq, hqq, hKq⟩ := HS.out
            obtain ⟨g, off, hob, hgl, hc, hin⟩ := (HP.out.on hjq) k x hx
            obtain ⟨y0, y1, y2, y3, y4, y5, y6, y7, y8, y9, y10⟩ := cells11 hc
            have q0 : wr.cell? ⟨r9, 0, none⟩ = some (.int .i64 room) := hbq.cell rfl
            have q1 : wr.cell? ⟨r9, 1, none⟩ = some (.int .i64 life) := hbq.cell rfl
            have q2 : wr.cell? ⟨r9, 2, none⟩ = some (.int .i64 (N : Int)) := hbq.cell rfl
            have q3 : wr.cell? ⟨r9, 3, none⟩ = some (.slice oq lq cq) := hbq.cell rfl
            have s9 := hbq.lt
            have HTK := Lib.hid (fun w1 (hj : Junk wr w1) => take_law room life (N : Int) oq lq cq Q x w1 (hqq.on hj) hKq (hin.on hj) (by have := HB.out.2; omega) (by have := HB.out.1; omega))
            have HF := Lib.hid (And.intro hjq (And.intro hr9 (And.intro hbq (And.intro hqq hKq))))
            subst hob
            clear hx hc hin hjq hr9 hbq hqq hKq HB
            go_upto_region 15 with (fail)
            refine wp_region_mixa (wr) [(11, 31, [.int .i64 0, .int .i64 0, .int .i64 0, .slice none 0 0]), (12, 25, [.int .i64 0, .int .i64 0, .bool false, .bool false, .int .i64 0, .int .i64 0, .int .i64 0, .int .u32 0, .int .u32 0, .slice none 0 0, .slice none 0 0])] [13, 14, 15, 16] [8, 9, 10] #[true, true, true, true, true, true, true, true, true, true, true, true, true, false, false, false, false] [(0, true), (1, true), (2, true), (3, true), (4, true), (5, false), (6, true), (7, true), (8, true), (9, true), (10, true)] [(13, false), (14, false), (15, false), (16, false)] (by kernel_rfl) (by kernel_rfl) (by (exact jkc)) (by intro e he a w hj; rcases (show e = 11 ∨ e = 12 by simpa using he) with rfl | rfl <;> exact newVar_wpE rfl rfl rfl rfl (fun w => by first | rfl | kernel_rfl | simp [Instr.alloc]) a w hj) ?_; (iterate 5 (refine wpMixB_q rfl (fun K hK => ?_); (go_simp; try go_bits); (refine hK _ ?_; clear hK K))); refine wpMixB_e rfl (fun osm15_0 dm15_0 K hK => ?_); (go_simp; try go_bits); (go_at_call 10; (with_reducible refine (HTK.out _ (by (exact jkc))).mono ?_); rintro e w5 ⟨⟨os5, d5, rfl⟩, ol, cap, l2, Q2, y, o1, o2, c1, c2, ok, er, hq5, hK5, hok1, hok2, rfl⟩; have HQ5 := Lib.hid hq5; have HK5 := Lib.hid (And.intro hK5 (And.intro hok1 hok2)); clear hq5 hK5 hok1 hok2); refine hK _ _ (by first | exact jkc | assumption) ?_; clear hK K; (iterate 5 (refine wpMixB_q rfl (fun K hK => ?_); (go_simp; try go_bits); (refine hK _ ?_; clear hK K))); refine wpMixB_nil (fun osm15_1 dm15_1 => ?_); rintro _ ⟨r15_1, rfl, hr15_1, hv15_1⟩; rintro _ ⟨r15_0, rfl, hr15_0, hv15_0⟩; change wpMix _ _ _ _ _ (Act.put (Act.put _ (some 15) _) (some 14) _) _; have HV15_0 := Lib.hid (show (wr).heap.size ≤ r15_0 ∧ Box _ r15_0 31 [.int .i64 0, .int .i64 0, .int .i64 0, .slice none 0 0] from And.intro hr15_0 hv15_0); have HV15_1 := Lib.hid (show (wr).heap.size ≤ r15_1 ∧ Box _ r15_1 25 [.int .i64 0, .int .i64 0, .bool false, .bool false, .int .i64 0, .int .i64 0, .int .i64 0, .int .u32 0, .int .u32 0, .slice none 0 0, .slice none 0 0] from And.intro hr15_1 hv15_1); clear hr15_0 hv15_0; clear hr15_1 hv15_1; refine wpMix_e1 rfl rfl (fun osm15_2 dm15_2 K hK => ?_); (refine storeBox_wp 31 _ _ rfl (HV15_0.out.2.on ⟨osm15_2, dm15_2, rfl⟩) 0 #[.int .i64 room, .int .i64 life, .int .i64 (N : Int), .slice ol l2 cap] (show (Try.prog.info? 31).map (·.size) = some 4 from by kernel_rfl) rfl rfl (by simp) (by simp [Value.oneCell']) ?_; intro w6 hg6 hb6; have HJ6 := Lib.hid (below_of_grown (show Junk wr _ by (exact jkc)) hg6 (fun k hk => by cases hk; exact HV15_0.out.1)); have HX6 := Lib.hid ((HV15_1.out.2.on ⟨osm15_2, dm15_2, rfl⟩).grown hg6 (box_ne (HV15_1.out.2) (HV15_0.out.2) (by decide))); have HP6 := Lib.hid (show Box w6 r15_0 31 [.int .i64 room, .int .i64 life, .int .i64 (N : Int), .slice ol l2 cap] from hb6); have HQ6 := Lib.hid ((poolBox_nil (HV15_0.out.2.on ⟨osm15_2, dm15_2, rfl⟩)).qs (HQ5.out.on (show Junk _ _ by (exact jkc))) HK5.out.1.runs hg6); clear hg6 hb6); refine hK _ _ trivial ?_; clear hK K; refine wpMix_e1 rfl rfl (fun osm15_3 dm15_3 K hK => ?_); (refine storeBox_wp 25 _ _ rfl (HX6.out.on ⟨osm15_3, dm15_3, rfl⟩) 0 #[.int .i64 y.tos, .int .i64 y.id, .bool y.df, .bool y.mf, .int .i64 y.off, .int .i64 y.ttl, .int .i64 y.proto, .int .u32 y.src, .int .u32 y.dst, .slice o1 y.ol c1, .slice o2 y.bl c2] (show (Try.prog.info? 25).map (·.size) = some 11 from by kernel_rfl) rfl rfl (by simp) (by simp [Value.oneCell']) ?_; intro w7 hg7 hb7; have HJ7 := Lib.hid (below_of_grown (HJ6.out.trans ⟨osm15_3, dm15_3, rfl⟩) hg7 (fun k hk => by cases hk; exact HV15_1.out.1)); have HX7 := Lib.hid (show Box w7 r15_1 25 [.int .i64 y.tos, .int .i64 y.id, .bool y.df, .bool y.mf, .int .i64 y.off, .int .i64 y.ttl, .int .i64 y.proto, .int .u32 y.src, .int .u32 y.dst, .slice o1 y.ol c1, .slice o2 y.bl c2] from hb7); have HP7 := Lib.hid ((HP6.out.on ⟨osm15_3, dm15_3, rfl⟩).grown hg7 (box_ne (HP6.out.on ⟨osm15_3, dm15_3, rfl⟩) (HX6.out.on ⟨osm15_3, dm15_3, rfl⟩) (by decide))); have HQ7 := Lib.hid (zip_qs (HX6.out.on ⟨osm15_3, dm15_3, rfl⟩) (HQ6.out.on ⟨osm15_3, dm15_3, rfl⟩) (fun b hb => (HK5.out.1.runs b hb).1) hg7); clear hg7 hb7); refine hK _ _ trivial ?_; clear hK K; refine wpMix_e rfl (fun osm15_4 dm15_4 K hK => ?_); (go_simp; try go_bits); refine hK _ _ trivial ?_; clear hK K; refine wpMix_e rfl (fun osm15_5 dm15_5 K hK => ?_); (go_simp; try go_bits); refine hK _ _ trivial ?_; clear hK K; refine wpMix_nil (fun osm dm => ?_)
            refine then_genX (fun V8 => Junk w7 V8) (by (exact jkc)) ?_
            intro w8 hj8
            have HJ8 := Lib.hid (HJ7.out.trans hj8)
            have HX8 := Lib.hid (HX7.out.on hj8)
            have HP8 := Lib.hid (HP7.out.on hj8)
            have HQ8 := Lib.hid (HQ7.out.on hj8)
            have HB8 := Lib.hid (HF.out.2.2.1.on HJ8.out)
            clear hj8 HJ6 HX6 HP6 HQ6 HJ7 HX7 HP7 HQ7 HV15_0 HV15_1 HQ5 HTK y0 y1 y2 y3 y4 y5 y6 y7 y8 y9 y10 q0 q1 q2 q3 s9
            have x10 : w8.cell? ⟨r15_1, 10, none⟩ = some (.slice o2 y.bl c2) := HX8.out.cell rfl
            have sx := HX8.out.lt
            go_upto_region 16 with (fail)
            go_cut [90] (fun t wx => t = .bool false ∧ w8 = wx)
            case first =>
              cases ok with
              | false =>
                have hbl := HK5.out.2.1 rfl
                rw [hbl] at x10
                go_wp2
                go_meet
                exact ⟨rfl, rfl⟩
              | true =>
                have her := HK5.out.2.2 rfl
                subst her
                go_wp2
                go_meet
                exact ⟨rfl, rfl⟩
            case rest =>
              obtain ⟨rfl, rfl⟩ := hcut
              have p0 : w8.cell? ⟨r15_0, 0, none⟩ = some (.int .i64 room) := HP8.out.cell rfl
              have p1 : w8.cell? ⟨r15_0, 1, none⟩ = some (.int .i64 life) := HP8.out.cell rfl
              have p2 : w8.cell? ⟨r15_0, 2, none⟩ = some (.int .i64 (N : Int)) := HP8.out.cell rfl
              have p3 : w8.cell? ⟨r15_0, 3, none⟩ = some (.slice ol l2 cap) := HP8.out.cell rfl
              have sp := HP8.out.lt
              clear x10 sx
              go_upto_region 18 with (fail)
              refine wp_region_lit ?_
              refine wpList_loadBox rfl 31 _ rfl Try.isAgg31 4 Try.sizeOf31 HP8.out 0 rfl [.int .i64 room, .int .i64 life, .int .i64 (N : Int), .slice ol l2 cap] rfl rfl ?_
              refine wpList_storeBox rfl 31 _ _ rfl HB8.out 0 #[.int .i64 room, .int .i64 life, .int .i64 (N : Int), .slice ol l2 cap] (show (Try.prog.info? 31).map (·.size) = some 4 from by kernel_rfl) rfl rfl (by simp) (by simp [Value.oneCell']) ?_
              intro w9 hg9 hb9
              have HS9 := Lib.hid (stP_put (HF.out.1.trans HJ8.out) HF.out.2.1 HB8.out (HF.out.2.2.2.1.on HJ8.out) HQ8.out HK5.out.1 hg9 (show Box w9 r9 31 [.int .i64 room, .int .i64 life, .int .i64 (N : Int), .slice ol l2 cap] from hb9))
              clear hg9 hb9
              go_upto_region 19 with (fail)
              clear HP8 HQ8 HX8 HB8 HK5 HF HJ8 HS p0 p1 p2 p3 sp
              go_upto_if 95 with (fail)
              go_cut [12] (fun nw wx => ∃ M : Nat, nw = .int .i64 (M : Int) ∧ M ≤ 255 * (k + 1) ∧ Hid (StP w r9 room life (M : Int) wx))
              case first =>
                by_cases hkt : k < tl
                · have hkt2 : (k : Int) < (tl : Int) := by omega
                  obtain ⟨hj9, hr9, oq9, lq9, cq9, Q9, hb9, hq9, hK9⟩ := HS9.out
                  obtain ⟨gt, offt, hot, hgt, hct⟩ := (HT.out.on hj9) k hkt
                  have hxb := HXS.out k hkt
                  obtain ⟨X, hX⟩ : ∃ X : Nat, xs k = (X : Int) := ⟨(xs k).toNat, by omega⟩
                  rw [hX] at hct hxb
                  obtain ⟨M, hM⟩ : ∃ M, N + X = M := ⟨_, rfl⟩
                  have hM2 : M ≤ 255 * (k + 1) := by omega
                  have px := wrapk_i64 (X : Int) (by omega) (by omega)
                  have pm : IntKind.i64.wrap ((N : Int) + (X : Int)) = (M : Int) := by rw [wrapk_i64 _ (by omega) (by omega)]; omega
                  have pm2 : RowKit.wrap64 ((N : Int) + (X : Int)) = (M : Int) := (IntWalk.i64_left _).symm.trans pm
                  have HTI := Lib.hid (fun w1 (hj : Junk w9 w1) => tick_law room life (N : Int) (M : Int) oq9 lq9 cq9 Q9 w1 (hq9.on hj) hK9 (le_sum hM) (small_M hM2 hkl l60))
                  have q0 : w9.cell? ⟨r9, 0, none⟩ = some (.int .i64 room) := hb9.cell rfl
                  have q1 : w9.cell? ⟨r9, 1, none⟩ = some (.int .i64 life) := hb9.cell rfl
                  have q2 : w9.cell? ⟨r9, 2, none⟩ = some (.int .i64 (N : Int)) := hb9.cell rfl
                  have q3 : w9.cell? ⟨r9, 3, none⟩ = some (.slice oq9 lq9 cq9) := hb9.cell rfl
                  have s9 := hb9.lt
                  have HF := Lib.hid (And.intro hj9 (And.intro hr9 (And.intro hb9 (And.intro hq9 hK9))))
                  have HM := Lib.hid (And.intro hM hM2)
                  subst hot
                  clear hj9 hr9 hb9 hq9 hK9 hxb hX hM hM2
                  go_upto_region 24 with (first | (go_at_call 12; (with_reducible refine (HTI.out _ (by (exact jkc))).mono ?_); rintro e w' ⟨⟨osj, dj, rfl⟩, ol3, cap3, l3, Q3, m3, hq3, hK3, rfl⟩; have HQ3 := Lib.hid hq3; have HK3 := Lib.hid hK3; clear hq3 hK3))
                  refine wp_region_lit ?_
                  have HB3 := Lib.hid (show Box ((w9.junk osj dj).alloc (.cells #[.int .i64 room, .int .i64 life, .int .i64 (M : Int), .slice ol3 l3 cap3] 31)) (w9.heap.size + osj.size) 31 [.int .i64 room, .int .i64 life, .int .i64 (M : Int), .slice ol3 l3 cap3] from by have h := box_new (w9.junk osj dj) #[.int .i64 room, .int .i64 life, .int .i64 (M : Int), .slice ol3 l3 cap3] 31; rw [World.size_junk] at h; exact h)
                  refine wpList_loadBox rfl 31 _ rfl Try.isAgg31 4 Try.sizeOf31 HB3.out 0 rfl [.int .i64 room, .int .i64 life, .int .i64 (M : Int), .slice ol3 l3 cap3] rfl rfl ?_
                  refine wpList_storeBox rfl 31 _ _ rfl (HF.out.2.2.1.on (by (exact jkc))) 0 #[.int .i64 room, .int .i64 life, .int .i64 (M : Int), .slice ol3 l3 cap3] (show (Try.prog.info? 31).map (·.size) = some 4 from by kernel_rfl) rfl rfl (by simp) (by simp [Value.oneCell']) ?_
                  intro w10 hg10 hb10
                  have HSA := Lib.hid (stP_put (HF.out.1.trans (by (exact jkc))) HF.out.2.1 (HF.out.2.2.1.on (by (exact jkc))) (HF.out.2.2.2.1.on (by (exact jkc))) (HQ3.out.on (by (exact jkc))) HK3.out hg10 (show Box w10 r9 31 [.int .i64 room, .int .i64 life, .int .i64 (M : Int), .slice ol3 l3 cap3] from hb10))
                  clear hg10 hb10 HB3 HQ3 HK3 HF HTI q0 q1 q2 q3 s9
                  go_wp2
                  go_meet
                  exact ⟨M, rfl, HM.out.2, HSA⟩
                · have hkt2 : ¬ (k : Int) < (tl : Int) := by omega
                  go_wp2
                  go_meet
                  exact ⟨N, rfl, by omega, HS9⟩
              case rest =>
                obtain ⟨M, rfl, hM, hSZ⟩ := hcut
                obtain ⟨hjz, hr9, oq, lq, cq, Q, hbz, hqz, hKz⟩ := hSZ.out
                have HZ := Lib.hid hSZ.out
                have hl64 := hKz.len
                have hlq := hqz.len
                have hh := (rightQ_iff.1 hKz.right).held
                obtain ⟨H, hH⟩ : ∃ H, heldQ Q = H := ⟨_, rfl⟩
                rw [hH] at hh
                have hh2 : decide (room < (H : Int)) = false := decide_eq_false (by omega)
                have hl2 : decide ((64 : Int) < (lq : Int)) = false := decide_eq_false (by omega)
                have HRI := Lib.hid (fun w1 hj => show Calls Try.prog 13 #[.agg #[.int .i64 room, .int .i64 life, .int .i64 (M : Int), .slice oq lq cq]] w1 fun e w' => e = .returned (.bool true) ∧ Junk w1 w' from hKz.right ▸ qst_right (hqz.on hj) hKz.ok (by omega) room life (M : Int))
                have HHE := Lib.hid (fun w1 hj => show Calls Try.prog 14 #[.agg #[.int .i64 room, .int .i64 life, .int .i64 (M : Int), .slice oq lq cq]] w1 fun e w' => e = .returned (.int .i64 (H : Int)) ∧ Junk w1 w' from hH ▸ qst_held (hqz.on hj) hKz.ok (by omega) room life (M : Int))
                have q0 : wc.cell? ⟨r9, 0, none⟩ = some (.int .i64 room) := hbz.cell rfl
                have q1 : wc.cell? ⟨r9, 1, none⟩ = some (.int .i64 life) := hbz.cell rfl
                have q2 : wc.cell? ⟨r9, 2, none⟩ = some (.int .i64 (M : Int)) := hbz.cell rfl
                have q3 : wc.cell? ⟨r9, 3, none⟩ = some (.slice oq lq cq) := hbz.cell rfl
                have s9 := hbz.lt
                have HQZ := Lib.hid hqz
                have HKZ := Lib.hid hKz
                have HLQ := Lib.hid (show lq ≤ 64 by omega)
                have HM := Lib.hid hM
                clear hjz hr9 hbz hqz hKz hl64 hlq hh hH hSZ HS9 hM hN
                go_wp2_with (first
                  | (go_at_call 13; (with_reducible refine (HRI.out _ (by (exact jkc))).mono ?_); rintro e w' ⟨rfl, ⟨osr, dr, rfl⟩⟩)
                  | (go_at_call 14; (with_reducible refine (HHE.out _ (by (exact jkc))).mono ?_); rintro e w' ⟨rfl, ⟨osh, dh, rfl⟩⟩))
                go_loopw [21] (fun i wy => ∃ m : Nat, m ≤ lq ∧ i = .int .i64 (m : Int) ∧ Junk wc wy) (fun i _ => lq + 1 - (intOf i).toNat)
                case atStart => exact ⟨0, by omega, rfl, by (exact jkc)⟩
                case round =>
                  obtain ⟨m, hm, rfl, hj⟩ := hrel
                  have q0 := cells_on q0 s9 hj
                  have q1 := cells_on q1 s9 hj
                  have q2 := cells_on q2 s9 hj
                  have q3 := cells_on q3 s9 hj
                  have HJY := Lib.hid hj
                  have lq64 := HLQ.out
                  by_cases hml : m < lq
                  · have hml2 : (m : Int) < (lq : Int) := by omega
                    have hm0 : (0 : Int) ≤ (m : Int) := by omega
                    have pm1 := wrapk_i64 ((m : Int) + 1) (by omega) (by omega)
                    obtain ⟨L9, hP9, hM9⟩ := HQZ.out.ex
                    obtain ⟨b, hb⟩ : ∃ b, L9[m]? = some b := ⟨_, List.getElem?_eq_getElem (by rw [← List.length_map (f := Bf.q), hM9, HQZ.out.len]; exact hml)⟩
                    obtain ⟨gb, ob, hob, hlt, hcb, -⟩ := (hP9.on hj) m b hb
                    have c4 : wr.cell? ⟨gb, ob + m * 19 + 4, none⟩ = some (.int .i64 b.born) := hcb 4 _ rfl
                    have hbm : b.q ∈ Q := by rw [← hM9]; exact List.mem_map.2 ⟨b, List.mem_of_getElem? hb, rfl⟩
                    have hy : decide (life ≤ (M : Int) - b.born) = false := HKZ.out.young _ hbm
                    have hy2 : ¬ life ≤ (M : Int) - b.born := of_decide_eq_false hy
                    have pw : IntKind.i64.wrap ((M : Int) - b.born) = (M : Int) - b.born := wrap_born HKZ.out hbm
                    have pw2 : RowKit.wrap64 ((M : Int) - b.born) = (M : Int) - b.born := (IntWalk.i64_left _).symm.trans pw
                    rw [hob] at q3
                    clear hP9 hM9 hb hcb hbm hj hob
                    go_wp2
                    exact ⟨⟨m + 1, by omega, by go_num, HJY.out.trans (by (exact jkc))⟩, by simp [intOf]; omega⟩
                  · have hml2 : ¬ (m : Int) < (lq : Int) := by omega
                    obtain rfl : m = lq := by omega
                    clear hj
                    go_wp2
                    exact ⟨⟨k + 1, M, by omega, by go_num, rfl, HM.out, Lib.hid (HZ.out.on HJY.out)⟩, by simp [intOf]; omega⟩
          · have hkl2 : ¬ (k : Int) < (l : Int) := by omega
            obtain rfl : l = k := by omega
            clear hk hkl
            go_wp2
            go_ret
            exact ⟨rfl, HS.out.1⟩
theorem reasmStays_core (W : World) (base : Nat) (v0 v1 v2 v3 : Value) (a0 : Arg Try.prog W base 3 v0) (a1 : Arg Try.prog W base 3 v1) (a2 : Arg Try.prog W base 28 v2) (a3 : Arg Try.prog W base 23 v3) :
    Calls Try.prog 4 #[v0, v1, v2, v3] W fun e W' => e = .returned (.bool true) ∧ Junk W W' := by
  obtain ⟨room, rfl, w_room⟩ := a0.int Try.underlying3
  obtain ⟨life, rfl, w_life⟩ := a1.int Try.underlying3
  have f_l := a2.slice Try.underlying28
  obtain ⟨l_a, l_l, l_c, l, e_l, lc_l, cm_l, S_l, r_l⟩ := f_l.slice Try.underlying28 (Nat.lt_of_lt_of_eq (by decide : 0 < 11) (by kernel_rfl)); cases e_l
  have f_ticks := a3.slice Try.underlying23
  obtain ⟨ticks_a, ticks_l, ticks_c, ticks, e_ticks, lc_ticks, cm_ticks, S_ticks, w_ticks⟩ := f_ticks.ints Try.underlying23 Try.underlying5 (by kernel_rfl); cases e_ticks
  obtain ⟨L, hL, hP, hw⟩ := ips_of S_l r_l
  exact reasmStays_walk room life l_a ticks_a l_l l_c ticks_l ticks_c L ticks W hP hL S_ticks (fun i hi => bounds_u8 (w_ticks i hi)) (Nat.le_trans (Nat.le_trans lc_ticks cm_ticks) (by decide)) (Nat.le_trans (Nat.le_trans lc_l cm_l) (by decide))
set_option maxRecDepth 100000 in
theorem reasmStays_lifted (os : Os) (started : os.Started) (H : Type) (enc : TypeId × Value → H) :
    ReturnsInHanded {} Try.checked os 4 .any (Rows.reasmStaysSpec.pre6 enc Try.prog Try.f4 Rows.reasmStaysRow.domain false) (Rows.reasmStaysSpec.post enc Try.prog Try.f4 false true false false) := by
  refine returnsInHanded_of_change (C := Try.checked) (by kernel_rfl) started (by kernel_rfl) Try.func4
    (ChangeSpec.witness6 (enc := enc) (C := Try.checked) false ⟨#[], #[.int .i64 0, .int .i64 0, .slice none 0 0, .slice none 0 0], []⟩ 8 (by kernel_rfl) (by kernel_rfl) (by kernel_rfl) (by kernel_rfl)) ?_
  intro W base args ds gs before hval hW _ _
  obtain ⟨p, q, hA, _, _, _, _⟩ := id hW
  have hargs : Args Try.prog W base Try.f4.params.toList args.toList := args_of (fun j t v h1 h2 => hval j t v (by simpa using h1) (by simpa using h2)) hA
  rw [Try.params4] at hargs
  obtain ⟨v0, l0, e0, a0, r0⟩ := args_cons hargs
  obtain ⟨v1, l1, e1, a1, r1⟩ := args_cons r0
  obtain ⟨v2, l2, e2, a2, r2⟩ := args_cons r1
  obtain ⟨v3, l3, e3, a3, r3⟩ := args_cons r2
  have hn := args_nil r3
  have he : args = #[v0, v1, v2, v3] := by
    apply Array.ext'
    simp only [e0, e1, e2, e3, hn]
  subst he
  exact (reasmStays_core W base v0 v1 v2 v3 a0 a1 a2 a3).mono fun e W' ⟨he, hj⟩ => ⟨_, he, post_true (tb := 4) (by kernel_rfl) (by kernel_rfl) rfl (by kernel_rfl) rfl hW (fun hg hl => by
    subst hg
    match ds, hl with
    | [_, _, _, _], _ => exact ⟨rfl, rfl, rfl⟩) hj⟩
theorem reasmStays_holds : Rows.ReasmStaysSaid :=
  OpenClaim.holds_of_wide 4 Try.f4 rfl rfl rfl rfl rfl rfl rfl ⟨rfl, rfl, rfl, rfl, rfl⟩ rfl rfl rfl rfl rfl (by kernel_rfl) Try.func4 (by kernel_rfl)
    (of_decide_eq_true (by kernel_rfl)) (by unfold Func.isWrapper; rw [if_neg (of_decide_eq_false (by kernel_rfl))]; exact ⟨rfl, rfl⟩)
    (fun os started H enc _ => reasmStays_lifted os started H enc)

end Go.Proofs.Ytgjppmkadmfibaa
