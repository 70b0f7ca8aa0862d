/- The law CutWhole, of a packet that is cut for its way: its pieces, cut once more, come together. -/
import Derived.Test.YtgjppmkadmfibaaRvB
import Derived.Deep.CutBlock
set_option linter.unusedVariables false
set_option maxRecDepth 100000
set_option linter.unusedSimpArgs false
namespace Go.Proofs.Ytgjppmkadmfibaa
open Go.RowKit
theorem flat_take {α β : Type} {l : List α} {k : Nat} {y : α} {F : α → List β} (h : l[k]? = some y) : (l.take (k + 1)).flatMap F = (l.take k).flatMap F ++ F y := by
  rw [List.take_add_one, h, List.flatMap_append]
  simp
/-- The first loop: the pieces of the first k pieces. -/
def CwP (V wr : World) (X : Ip) (mtu narrow : Int) (k m : Nat) (oq : Option Addr) (cq : Nat) (L : List Fr) : Prop :=
  Junk V wr ∧ Own V.heap.size wr 25 11 oq cq m (cellsL L) ∧ (∀ f ∈ L, f.At wr ∧ f.Off (rowOf oq)) ∧ L.map Fr.p = ((cutL X mtu).take k).flatMap (fun Y => cutL Y narrow) ∧ (∀ Y ∈ (cutL X mtu).take k, cutErr Y narrow = 0) ∧ m ≤ k * 126
set_option maxRecDepth 100000 in
set_option maxHeartbeats 64000000 in
theorem cutWhole_main (tos id : Int) (df mf0 : Bool) (off0 ttl proto src dst : Int) (ol : Nat) (opts : Nat → Int) (bl : Nat) (body : Nat → Int) (mtu narrow : Int) (oo ob : Option Addr) (oc bc : Nat) (oor : Option Addr) (rl rc : Nat) (ys : Nat → Int) (w : World) (hP : IpAt w (Ip.mk tos id df false 0 ttl proto src dst ol opts bl body) oo oc ob bc) (hO : IntsAt w oor rl .u8 ys) (hy : ∀ i, i < rl → 0 ≤ ys i ∧ ys i ≤ 255) (hrl : rl ≤ 9223372036854775807)
    (hs : ∀ w1, Calls Try.prog 17 #[.agg #[.int .i64 tos, .int .i64 id, .bool df, .bool false, .int .i64 0, .int .i64 ttl, .int .i64 proto, .int .u32 src, .int .u32 dst, .slice oo ol oc, .slice ob bl bc]] w1 fun e w' => e = .returned (.bool true) ∧ Junk w1 w') (h1000 : bl ≤ 1000) (hE : cutErr (Ip.mk tos id df false 0 ttl proto src dst ol opts bl body) mtu = 0) : Calls Try.prog 6 #[.agg #[.int .i64 tos, .int .i64 id, .bool df, .bool mf0, .int .i64 off0, .int .i64 ttl, .int .i64 proto, .int .u32 src, .int .u32 dst, .slice oo ol oc, .slice ob bl bc], .int .i64 mtu, .int .i64 narrow, .slice oor rl rc] w fun e w' => e = .returned (.bool true) ∧ Junk w w' := by
  have hm := (cutErr_zero hE).may
  have hol := hm.ol
  have HSH := Lib.hid hs
  have HCU := Lib.hid (fun w1 (hj : Junk w w1) => cut_ok (Ip.mk tos id df false 0 ttl proto src dst ol opts bl body) mtu oo ob oc bc w1 (by show ol ≤ _; have h : ol ≤ 40 := hol; omega) (by show bl ≤ _; omega) (hP.on hj) hE)
  have HP := Lib.hid hP
  have HO := Lib.hid hO
  have HYS := Lib.hid hy
  have HRL := Lib.hid hrl
  have HMY := Lib.hid (may_iff.2 hm)
  have HE := Lib.hid hE
  have H9 := Lib.hid h1000
  have HOL := Lib.hid (show ol ≤ 40 from hol)
  have n1000 : ¬ (1000 : Int) < (bl : Int) := by omega
  clear hP hO hy hrl hs hE hm hol h1000
  go_enter Try.func6, Try.ntmps6
  go_upto_block 0 with (first
    | (go_at_call 16; (with_reducible refine (awake08_any _).mono ?_); rintro e w' ⟨rfl, ⟨osj, dj, rfl⟩⟩)
    | (go_at_call 17; (with_reducible refine (HSH.out _).mono ?_); rintro e w' ⟨rfl, ⟨osj2, dj2, rfl⟩⟩)
    | (go_at_call 18; (with_reducible refine (HCU.out _ (by (exact jkc))).mono ?_); rintro e w' ⟨⟨osj3, dj3, rfl⟩, L1, oa1, cap1, n1, rfl, hL1, hn1, hown1, hat1, -⟩; have HL1 := Lib.hid (And.intro hL1 hn1); have HO1 := Lib.hid hown1; have HA1 := Lib.hid hat1; clear hL1 hn1 hown1 hat1))
  have BX := (box_new w #[.int .i64 tos, .int .i64 id, .bool df, .bool false, .int .i64 0, .int .i64 ttl, .int .i64 proto, .int .u32 src, .int .u32 dst, .slice oo ol oc, .slice ob bl bc] 25).on (show Junk _ ((w.alloc (.cells #[.int .i64 tos, .int .i64 id, .bool df, .bool false, .int .i64 0, .int .i64 ttl, .int .i64 proto, .int .u32 src, .int .u32 dst, .slice oo ol oc, .slice ob bl bc] 25)).junk (osj ++ (osj2 ++ osj3)) dj3) by (exact jkc))
  generalize hr4 : w.heap.size = r4 at BX ⊢
  refine wp_genX (fun V => Junk w V ∧ Box V r4 25 [.int .i64 tos, .int .i64 id, .bool df, .bool false, .int .i64 0, .int .i64 ttl, .int .i64 proto, .int .u32 src, .int .u32 dst, .slice oo ol oc, .slice ob bl bc] ∧ Own 0 V 25 11 oa1 cap1 n1 (cellsL L1) ∧ ∀ f ∈ L1, f.At V) ⟨by (exact jkc), BX, ?_, ?_⟩ ?_
  · have h := HO1.out.lower (Nat.zero_le _)
    (try simp only [World.junk_junk, Array.append_assoc] at h)
    exact h
  · have h := HA1.out
    (try simp only [World.junk_junk, Array.append_assoc] at h)
    exact h
  rintro V ⟨hjv, hbv, hov, hav⟩
  have HJV := Lib.hid hjv
  have HBV := Lib.hid hbv
  have HOV := Lib.hid hov
  have HAV := Lib.hid hav
  have HR4 := Lib.hid hr4
  have hn126 : n1 ≤ 126 := by rw [HL1.out.2, ← List.length_map (f := Fr.p), HL1.out.1]; exact cutL_len126 (show bl ≤ 1000 from H9.out)
  have HN1 := Lib.hid hn126
  clear hjv hbv hov hav hr4 BX osj dj osj2 dj2 osj3 dj3 HSH HCU HO1 HA1 n1000 hn126
  go_wp2
  go_loopw [11, 12] (fun sl i wr => ∃ (k m : Nat) (oq : Option Addr) (cq : Nat) (L : List Fr), k ≤ n1 ∧ i = .int .i64 (k : Int) ∧ sl = .slice oq m cq ∧ Hid (CwP V wr (Ip.mk tos id df false 0 ttl proto src dst ol opts bl body) mtu narrow k m oq cq L)) (fun _ i _ => n1 + 1 - (intOf i).toNat)
  case atStart => exact ⟨0, 0, none, 0, [], by omega, rfl, rfl, Lib.hid ⟨Junk.refl _, Own.nil _ _ _ _, (fun f hf => by cases hf), rfl, (fun Y hY => by simp at hY), by omega⟩⟩
  case round =>
    obtain ⟨k, m, oq, cq, L, hk, rfl, rfl, hS⟩ := hrel
    have HS := Lib.hid hS.out
    clear hS
    have hn126 := HN1.out
    by_cases hkn : k < n1
    case pos =>
      have hkn2 : (k : Int) < (n1 : Int) := by omega
      have hk0 : (0 : Int) ≤ (k : Int) := by omega
      have pk := wrapk_i64 ((k : Int) + 1) (by omega) (by omega)
      obtain ⟨f, hf⟩ : ∃ f, L1[k]? = some f := ⟨_, List.getElem?_eq_getElem (by rw [← HL1.out.2]; exact hkn)⟩
      have hfm := List.mem_of_getElem? hf
      have hfY : (cutL (Ip.mk tos id df false 0 ttl proto src dst ol opts bl body) mtu)[k]? = some f.p := by rw [← HL1.out.1, List.getElem?_map, hf]; rfl
      have hYm := cutL_mem HE.out (List.mem_of_getElem? hfY)
      obtain ⟨hY1, hY2⟩ := hYm
      have hY3 : f.p.ol ≤ 40 := by rw [hY1]; exact HOL.out
      have hY4 : f.p.bl ≤ 1000 := Nat.le_trans hY2 H9.out
      obtain ⟨hjr, hown, hat, hLp, hEk, hm126⟩ := HS.out
      obtain ⟨g, hog⟩ : ∃ g, oa1 = some ⟨g, 0, none⟩ := by
        rcases HOV.out.form with ⟨_, h, _⟩ | ⟨g, _, h, _⟩
        · omega
        · exact ⟨g, h⟩
      subst hog
      obtain ⟨y0, y1, y2, y3, y4, y5, y6, y7, y8, y9, y10⟩ := cells_fr (HOV.out.on hjr) k f hf
      have hgl : g < wr.heap.size := own_lt (HOV.out.on hjr)
      by_cases hE2 : cutErr f.p narrow = 0
      case neg =>
        have HCN := Lib.hid (fun w1 (hj : Junk wr w1) => cut_no f.p narrow f.oo f.ob f.oc f.bc w1 (by omega) (by omega) ((HAV.out f hfm).on (hjr.trans hj)) hE2)
        have HJR := Lib.hid hjr
        clear hjr hown hat hLp hEk hm126 hf hfm hfY hY1 hY2 hE2
        go_wp2_with (first | (go_at_call 18; (with_reducible refine (HCN.out _ (by (exact jkc))).mono ?_); rintro e w' ⟨⟨osj, dj, rfl⟩, oa2, cap2, n2, er, rfl, her⟩))
        go_ret
        exact ⟨rfl, (HJV.out.trans HJR.out).trans (by (exact jkc))⟩
      have HCK := Lib.hid (fun w1 (hj : Junk wr w1) => cut_ok f.p narrow f.oo f.ob f.oc f.bc w1 (by omega) (by omega) ((HAV.out f hfm).on (hjr.trans hj)) hE2)
      have HJR := Lib.hid hjr
      have HOW := Lib.hid hown
      have HF := Lib.hid (And.intro hat (And.intro hLp (And.intro hEk hm126)))
      have HY := Lib.hid (And.intro hfY (And.intro hE2 hY4))
      clear hjr hown hat hLp hEk hm126 hf hfm hfY hY1 hY2 hE2
      go_upto_region 16 with (first | (go_at_call 18; (with_reducible refine (HCK.out _ (by (exact jkc))).mono ?_); rintro e w' ⟨⟨osj, dj, rfl⟩, M, oa2, cap2, n2, rfl, hM1, hn2, hown2, hat2, hfr2⟩; have HM2 := Lib.hid (And.intro hM1 (And.intro hn2 (And.intro hown2 (And.intro hat2 hfr2)))); clear hM1 hn2 hown2 hat2 hfr2))
      have hn2p : 0 < n2 := by rw [HM2.out.2.1, ← List.length_map (f := Fr.p), HM2.out.1]; exact cutL_pos HY.out.2.1
      have hn2b : n2 ≤ 126 := by rw [HM2.out.2.1, ← List.length_map (f := Fr.p), HM2.out.1]; exact cutL_len126 HY.out.2.2
      have hmb := HF.out.2.2.2
      have hmb2 : m ≤ 126 * 126 := Nat.le_trans hmb (Nat.mul_le_mul_right _ (by omega))
      obtain ⟨g2, hog2⟩ : ∃ g, oa2 = some ⟨g, 0, none⟩ := by
        rcases HM2.out.2.2.1.form with ⟨_, h, _⟩ | ⟨g, _, h, _⟩
        · omega
        · exact ⟨g, h⟩
      subst hog2
      go_wp2_with (first | (at_builtin; (refine ap_own2 (W0 := V) rfl _ _ 28 rfl 25 (.agg #[.int .i64 0, .int .i64 0, .bool false, .bool false, .int .i64 0, .int .i64 0, .int .i64 0, .int .u32 0, .int .u32 0, .slice none 0 0, .slice none 0 0]) 11 104 (by kernel_rfl) rfl (by decide) Try.underlying28 (HJR.out.trans (by (exact jkc))) oq cq m _ rfl (HOW.out.on (by (exact jkc))) ⟨g2, 0, none⟩ n2 cap2 rfl (cellsL M) (by rw [cellsL_len, ← HM2.out.2.1]) (fun j u hu => by have h := own_src HM2.out.2.2.1 0 M (fun i f h => by rwa [Nat.zero_add]) j u hu; rw [Addr.add_lit]; simpa using h) all_one (by simp only [maxLen]; omega) (by omega) hn2p ?_; intro oa' cap' os' d' hown' hg hrow; have hkp := keepFs (L := L ++ M) (fun f hf => (List.mem_append.1 hf).elim (fun h => ⟨(HF.out.1 f h).1.on (by (exact jkc)), (HF.out.1 f h).2⟩) (fun h => ⟨HM2.out.2.2.2.1 f h, Fresh.off (HM2.out.2.2.2.2 f h).1 (own_row HOW.out), Fresh.off (HM2.out.2.2.2.2 f h).2 (own_row HOW.out)⟩)) hg hrow; have HK := Lib.hid hkp; have HN := Lib.hid hown'; clear hkp hown' hg hrow)))
      exact ⟨⟨k + 1, m + n2, oa', cap', L ++ M, by omega, by go_num, by first | rfl | trivial, Lib.hid ⟨by (exact jkc), by rw [cellsL_app]; exact HN.out, HK.out, by rw [flat_take HY.out.1, List.map_append, HF.out.2.1, HM2.out.1], mem_take_succ HY.out.1 HF.out.2.2.1 HY.out.2.1, by rw [Nat.succ_mul]; omega⟩⟩, by simp [intOf]; omega⟩
    have hkn2 : ¬ (k : Int) < (n1 : Int) := by omega
    obtain rfl : n1 = k := by omega
    clear hk hkn
    obtain ⟨hjr, hown, hat, hLp, hEk, hm126⟩ := HS.out
    have hlen : (cutL (Ip.mk tos id df false 0 ttl proto src dst ol opts bl body) mtu).length = n1 := by rw [← HL1.out.1, List.length_map, HL1.out.2]
    rw [List.take_of_length_le (Nat.le_of_eq hlen)] at hLp hEk
    obtain ⟨R, hR1, hR2⟩ := cuts_go (X := (Ip.mk tos id df false 0 ttl proto src dst ol opts bl body)) (n := bl) rfl rfl rfl HE.out hEk
    have hmL : L.length = m := by have h := hown.len; rw [cellsL_len] at h; omega
    have hRm : R.length = m := by rw [← hmL, ← List.length_map (f := pcI (Ip.mk tos id df false 0 ttl proto src dst ol opts bl body)), ← hR1, ← hLp, List.length_map]
    have HJU := Lib.hid (HJV.out.trans hjr)
    have HOU := Lib.hid (HO.out.on (HJV.out.trans hjr))
    have HPU := Lib.hid (HP.out.on (HJV.out.trans hjr))
    have HLR := Lib.hid (And.intro (hLp.trans hR1) (And.intro hRm (And.intro hR2 (fun f hf => (hat f hf).1))))
    have HOW := Lib.hid (hown.lower (Nat.zero_le _))
    have HBU := Lib.hid (HBV.out.on hjr)
    have hmb2 : m ≤ 126 * 126 := Nat.le_trans hm126 (Nat.mul_le_mul_right _ hn126)
    have HX := Lib.hid (show WhX (Ip.mk tos id df false 0 ttl proto src dst ol opts bl body) bl from ⟨HMY.out, rfl, rfl, rfl⟩)
    clear hjr hown hat hLp hEk hm126 hlen hR1 hR2 hmL hRm HS HJV HBV HOV HAV HL1 HO HP hn126
    go_upto_block 2 with (first | (go_at_call 9; (with_reducible refine (new_2000 _).mono ?_); rintro e w' ⟨rfl, ⟨osj, dj, rfl⟩⟩))
    have BX := box_new (wr.junk osj dj) #[.int .i64 2000, .int .i64 10, .int .i64 0, .slice none 0 0] 31
    rw [World.size_junk] at BX
    have HLA := Lib.hid (show LpV wr (Ip.mk tos id df false 0 ttl proto src dst ol opts bl body) bl R r4 _ 2000 10 [.int .i64 tos, .int .i64 id, .bool df, .bool false, .int .i64 0, .int .i64 ttl, .int .i64 proto, .int .u32 src, .int .u32 dst, .slice oo ol oc, .slice ob bl bc] oq cq m L _ from
      ⟨StW.start (by (exact jkc)) (by omega) BX (by decide) HLR.out.2.2.1, HBU.out.on (by (exact jkc)), HOW.out.on (by (exact jkc)), HLR.out.1, HLR.out.2.2.2, HLR.out.2.1⟩)
    obtain ⟨M, hM⟩ : ∃ M, m = M := ⟨_, rfl⟩
    have HM := Lib.hid (show M ≤ 126 * 126 by omega)
    rw [hM] at HLA ⊢
    generalize wr.heap.size + osj.size = r15 at HLA ⊢
    refine wp_genX (fun W => LpV wr (Ip.mk tos id df false 0 ttl proto src dst ol opts bl body) bl R r4 r15 2000 10 [.int .i64 tos, .int .i64 id, .bool df, .bool false, .int .i64 0, .int .i64 ttl, .int .i64 proto, .int .u32 src, .int .u32 dst, .slice oo ol oc, .slice ob bl bc] oq cq M L W) HLA.out ?_
    intro V2 hV2
    have HV2 := Lib.hid hV2
    clear hV2 HLA HLR HOW HBU BX hM hmb2
    generalize wr = U at HV2 HJU HOU HPU
    go_wp2
    go_loopw [11, 17] (fun sl i wr => ∃ (k mm : Nat) (oq : Option Addr) (cq : Nat) (L : List Fr) (R : List Pc), sl = .slice oq mm cq ∧ i = .int .i64 (k : Int) ∧ k + mm = M ∧ Hid (LpV U (Ip.mk tos id df false 0 ttl proto src dst ol opts bl body) bl R r4 r15 2000 10 [.int .i64 tos, .int .i64 id, .bool df, .bool false, .int .i64 0, .int .i64 ttl, .int .i64 proto, .int .u32 src, .int .u32 dst, .slice oo ol oc, .slice ob bl bc] oq cq mm L wr)) (fun _ i _ => M + 1 - (intOf i).toNat)
    case atStart => exact ⟨0, M, oq, cq, L, R, rfl, rfl, by omega, HV2⟩
    case round =>
      obtain ⟨k, mm, oq, cq, L, R, rfl, rfl, hkm, hS⟩ := hrel
      have HS := Lib.hid hS.out
      clear hS HV2
      have M20 := HM.out
      by_cases hmm : mm = 0
      · subst hmm
        obtain ⟨hj, hr, ox, lx, cx, Q, hb, hq, hk, hw1⟩ := HS.out.1
        have hR : R = [] := List.eq_nil_of_length_eq_zero HS.out.2.2.2.2.2
        have hl0 := hq.len
        rw [hR] at hw1
        rw [gw_done hw1] at hl0
        have hlx : lx = 0 := hl0.symm
        subst hlx
        have q3 : wr.cell? ⟨r15, 3, none⟩ = some (.slice ox 0 cx) := hb.cell rfl
        have s15 := hb.lt
        have HJ := Lib.hid hj
        clear hj hr hb hq hk hw1 hR hl0
        go_wp2
        go_ret
        exact ⟨rfl, HJU.out.trans HJ.out⟩
      have g0 : ¬ (mm : Int) ≤ 0 := by omega
      have g1 : (0 : Int) < (mm : Int) := by omega
      have g2 : ((mm : Int) == 0) = false := by simp; omega
      have mpos : 0 < mm := by omega
      clear hmm
      go_upto_if 76 with (fail)
      go_cut [18] (fun t wx => ∃ KI : Nat, t = .int .i64 (KI : Int) ∧ KI < mm ∧ wr = wx)
      case first =>
        by_cases hkr : k < rl
        · have hkr2 : (k : Int) < (rl : Int) := by omega
          have hk0 : (0 : Int) ≤ (k : Int) := by omega
          obtain ⟨gc, goff, hgc, hgl, hgx⟩ := (HOU.out.on HS.out.1.1) k hkr
          have hxb := HYS.out k hkr
          obtain ⟨C, hC⟩ : ∃ C : Nat, ys k = (C : Int) := ⟨(ys k).toNat, by omega⟩
          rw [hC] at hgx hxb
          have e1 : (C : Int) % (mm : Int) = ((C % mm : Nat) : Int) := by omega
          have e2 : Int.tmod (C : Int) (mm : Int) = ((C % mm : Nat) : Int) := by rw [Int.tmod_eq_emod_of_nonneg (by omega)]; exact e1
          have e3 : C % mm < mm := Nat.mod_lt _ mpos
          subst hgc
          generalize C % mm = KI at e1 e2 e3
          go_wp2
          go_meet
          exact ⟨KI, rfl, e3, rfl⟩
        · have hkr2 : ¬ (k : Int) < (rl : Int) := by omega
          go_wp2
          go_meet
          exact ⟨0, rfl, mpos, rfl⟩
      case rest =>
        obtain ⟨KI, rfl, hKI, rfl⟩ := hcut
        obtain ⟨⟨hjw, hr15, ox, lx, cx, Q, hbx, hqx, hkx, hw1⟩, hbX, hown, hLR, hat, hRl⟩ := HS.out
        have hLl : L.length = mm := by rw [← hRl, ← List.length_map (f := pcI (Ip.mk tos id df false 0 ttl proto src dst ol opts bl body)), ← hLR, List.length_map]
        have hRne : R ≠ [] := fun h => by rw [h] at hRl; simp at hRl; omega
        obtain ⟨f, hf⟩ : ∃ f, L[KI]? = some f := ⟨_, List.getElem?_eq_getElem (by omega)⟩
        obtain ⟨pc, hpc⟩ : ∃ pc, R[KI]? = some pc := ⟨_, List.getElem?_eq_getElem (by omega)⟩
        have hfp : f.p = pcI (Ip.mk tos id df false 0 ttl proto src dst ol opts bl body) pc := by
          have h1 : (L.map Fr.p)[KI]? = some f.p := by rw [List.getElem?_map, hf]; rfl
          rw [hLR, List.getElem?_map, hpc] at h1
          exact (Option.some.inj h1).symm
        have hfm := List.mem_of_getElem? hf
        have HTK := Lib.hid (fun w1 (hj : Junk wr w1) => take_pc HX.out (by have := H9.out; omega) (by have := H9.out; omega) (hqx.on hj) hkx hw1 hpc hfp ((hat f hfm).on (hjw.trans hj)))
        obtain ⟨g, hog⟩ : ∃ g, oq = some ⟨g, 0, none⟩ := by
          rcases hown.form with ⟨_, h, _⟩ | ⟨g, _, h, _⟩
          · omega
          · exact ⟨g, h⟩
        subst hog
        obtain ⟨y0, y1, y2, y3, y4, y5, y6, y7, y8, y9, y10⟩ := cells_fr hown KI f hf
        have hgl : g < wr.heap.size := own_lt hown
        have q0 : wr.cell? ⟨r15, 0, none⟩ = some (.int .i64 2000) := hbx.cell rfl
        have q1 : wr.cell? ⟨r15, 1, none⟩ = some (.int .i64 10) := hbx.cell rfl
        have q2 : wr.cell? ⟨r15, 2, none⟩ = some (.int .i64 0) := hbx.cell rfl
        have q3 : wr.cell? ⟨r15, 3, none⟩ = some (.slice ox lx cx) := hbx.cell rfl
        have s15 := hbx.lt
        have HF := Lib.hid (And.intro hjw (And.intro hr15 (And.intro hbx (And.intro hqx (And.intro hbX hown)))))
        have HL := Lib.hid (And.intro hLl (And.intro hRl (And.intro hLR hat)))
        have k2 : (KI : Int) < (mm : Int) := by omega
        have k0 : (0 : Int) ≤ (KI : Int) := by omega
        clear hjw hr15 hbx hqx hkx hw1 hbX hown hLR hat hRl hLl hRne hf hpc hfp hfm HS
        go_upto_region 24 with (fail)
        refine wp_region_mixa (wr) [(11, 31, [.int .i64 0, .int .i64 0, .int .i64 0, .slice none 0 0]), (12, 25, [.int .i64 0, .int .i64 0, .bool false, .bool false, .int .i64 0, .int .i64 0, .int .i64 0, .int .u32 0, .int .u32 0, .slice none 0 0, .slice none 0 0])] [13, 14, 15, 16] [8, 9, 10] #[true, true, true, true, true, true, true, true, true, true, true, true, true, false, false, false, false] [(0, true), (1, true), (2, true), (3, true), (4, true), (5, false), (6, true), (7, true), (8, true), (9, true), (10, true)] [(13, false), (14, false), (15, false), (16, false)] (by kernel_rfl) (by kernel_rfl) (by (exact jkc)) (by intro e he a w hj; rcases (show e = 11 ∨ e = 12 by simpa using he) with rfl | rfl <;> exact newVar_wpE rfl rfl rfl rfl (fun w => by first | rfl | kernel_rfl | simp [Instr.alloc]) a w hj) ?_; (iterate 5 (refine wpMixB_q rfl (fun K hK => ?_); (go_simp; try go_bits); (refine hK _ ?_; clear hK K))); refine wpMixB_e rfl (fun osm24_0 dm24_0 K hK => ?_); (go_simp; try go_bits); (go_at_call 10; (with_reducible refine (HTK.out _ (by (exact jkc))).mono ?_); rintro e w5 ⟨⟨os5, d5, rfl⟩, ol2, cap2, l2, Q2, y, o1, o2, c1, c2, ok, hq5, hK5, hok1, hok2, hgw5, hy5, rfl⟩; have HQ5 := Lib.hid hq5; have HY5 := Lib.hid hy5; have HK5 := Lib.hid (And.intro hK5 (And.intro hok1 (And.intro hok2 hgw5))); clear hq5 hK5 hok1 hok2 hy5 hgw5); refine hK _ _ (by first | exact jkc | assumption) ?_; clear hK K; (iterate 5 (refine wpMixB_q rfl (fun K hK => ?_); (go_simp; try go_bits); (refine hK _ ?_; clear hK K))); refine wpMixB_nil (fun osm24_1 dm24_1 => ?_); rintro _ ⟨r24_1, rfl, hr24_1, hv24_1⟩; rintro _ ⟨r24_0, rfl, hr24_0, hv24_0⟩; change wpMix _ _ _ _ _ (Act.put (Act.put _ (some 20) _) (some 19) _) _; have HV24_0 := Lib.hid (show (wr).heap.size ≤ r24_0 ∧ Box _ r24_0 31 [.int .i64 0, .int .i64 0, .int .i64 0, .slice none 0 0] from And.intro hr24_0 hv24_0); have HV24_1 := Lib.hid (show (wr).heap.size ≤ r24_1 ∧ Box _ r24_1 25 [.int .i64 0, .int .i64 0, .bool false, .bool false, .int .i64 0, .int .i64 0, .int .i64 0, .int .u32 0, .int .u32 0, .slice none 0 0, .slice none 0 0] from And.intro hr24_1 hv24_1); clear hr24_0 hv24_0; clear hr24_1 hv24_1; refine wpMix_e1 rfl rfl (fun osm24_2 dm24_2 K hK => ?_); (refine storeBox_wp 31 _ _ rfl (HV24_0.out.2.on ⟨osm24_2, dm24_2, rfl⟩) 0 #[.int .i64 2000, .int .i64 10, .int .i64 0, .slice ol2 l2 cap2] (show (Try.prog.info? 31).map (·.size) = some 4 from by kernel_rfl) rfl rfl (by simp) (by simp [Value.oneCell']) ?_; intro w6 hg6 hb6; have HJ6 := Lib.hid (below_of_grown (show Junk wr _ by (exact jkc)) hg6 (fun k hk => by cases hk; exact HV24_0.out.1)); have HX6 := Lib.hid ((HV24_1.out.2.on ⟨osm24_2, dm24_2, rfl⟩).grown hg6 (box_ne (HV24_1.out.2) (HV24_0.out.2) (by decide))); have HP6 := Lib.hid (show Box w6 r24_0 31 [.int .i64 2000, .int .i64 10, .int .i64 0, .slice ol2 l2 cap2] from hb6); have HQ6 := Lib.hid ((poolBox_nil (HV24_0.out.2.on ⟨osm24_2, dm24_2, rfl⟩)).qs (HQ5.out.on (show Junk _ _ by (exact jkc))) HK5.out.1.runs hg6); have HY6 := Lib.hid (ipAt_keep (HY5.out.on (show Junk _ _ by (exact jkc))) (box_noByte (HV24_0.out.2.on ⟨osm24_2, dm24_2, rfl⟩) rfl) hg6); clear hg6 hb6); refine hK _ _ trivial ?_; clear hK K; refine wpMix_e1 rfl rfl (fun osm24_3 dm24_3 K hK => ?_); (refine storeBox_wp 25 _ _ rfl (HX6.out.on ⟨osm24_3, dm24_3, rfl⟩) 0 #[.int .i64 y.tos, .int .i64 y.id, .bool y.df, .bool y.mf, .int .i64 y.off, .int .i64 y.ttl, .int .i64 y.proto, .int .u32 y.src, .int .u32 y.dst, .slice o1 y.ol c1, .slice o2 y.bl c2] (show (Try.prog.info? 25).map (·.size) = some 11 from by kernel_rfl) rfl rfl (by simp) (by simp [Value.oneCell']) ?_; intro w7 hg7 hb7; have HJ7 := Lib.hid (below_of_grown (HJ6.out.trans ⟨osm24_3, dm24_3, rfl⟩) hg7 (fun k hk => by cases hk; exact HV24_1.out.1)); have HX7 := Lib.hid (show Box w7 r24_1 25 [.int .i64 y.tos, .int .i64 y.id, .bool y.df, .bool y.mf, .int .i64 y.off, .int .i64 y.ttl, .int .i64 y.proto, .int .u32 y.src, .int .u32 y.dst, .slice o1 y.ol c1, .slice o2 y.bl c2] from hb7); have HP7 := Lib.hid ((HP6.out.on ⟨osm24_3, dm24_3, rfl⟩).grown hg7 (box_ne (HP6.out.on ⟨osm24_3, dm24_3, rfl⟩) (HX6.out.on ⟨osm24_3, dm24_3, rfl⟩) (by decide))); have HQ7 := Lib.hid (zip_qs (HX6.out.on ⟨osm24_3, dm24_3, rfl⟩) (HQ6.out.on ⟨osm24_3, dm24_3, rfl⟩) (fun b hb => (HK5.out.1.runs b hb).1) hg7); have HY7 := Lib.hid (ipAt_keep (HY6.out.on ⟨osm24_3, dm24_3, rfl⟩) (zip_noByte (HX6.out.on ⟨osm24_3, dm24_3, rfl⟩)) hg7); clear hg7 hb7); refine hK _ _ trivial ?_; clear hK K; refine wpMix_e rfl (fun osm24_4 dm24_4 K hK => ?_); (go_simp; try go_bits); refine hK _ _ trivial ?_; clear hK K; refine wpMix_e rfl (fun osm24_5 dm24_5 K hK => ?_); (go_simp; try go_bits); refine hK _ _ trivial ?_; clear hK K; refine wpMix_nil (fun osm dm => ?_)
        refine then_genX (fun V8 => Junk w7 V8) (by (exact jkc)) ?_
        intro w8 hj8
        have HJ8 := Lib.hid (HJ7.out.trans hj8)
        have HX8 := Lib.hid (HX7.out.on hj8)
        have HP8 := Lib.hid (HP7.out.on hj8)
        have HQ8 := Lib.hid (HQ7.out.on hj8)
        have HY8 := Lib.hid (HY7.out.on hj8)
        have HB8 := Lib.hid (HF.out.2.2.1.on HJ8.out)
        have HR24 := Lib.hid (And.intro HV24_0.out.1 HV24_1.out.1)
        clear hj8 HJ6 HX6 HP6 HQ6 HY6 HJ7 HX7 HP7 HQ7 HY7 HV24_0 HV24_1 HQ5 HY5 HTK y0 y1 y2 y3 y4 y5 y6 y7 y8 y9 y10 q0 q1 q2 q3 s15
        go_upto_region 25 with (fail)
        refine wp_region_lit ?_
        refine wpList_loadBox rfl 31 _ rfl Try.isAgg31 4 Try.sizeOf31 HP8.out 0 rfl [.int .i64 2000, .int .i64 10, .int .i64 0, .slice ol2 l2 cap2] rfl rfl ?_
        refine wpList_storeBox rfl 31 _ _ rfl HB8.out 0 #[.int .i64 2000, .int .i64 10, .int .i64 0, .slice ol2 l2 cap2] (show (Try.prog.info? 31).map (·.size) = some 4 from by kernel_rfl) rfl rfl (by simp) (by simp [Value.oneCell']) ?_
        intro w9 hg9 hb9
        have HW9 := Lib.hid (stW_put (X := (Ip.mk tos id df false 0 ttl proto src dst ol opts bl body)) (n := bl) (R2 := R.eraseIdx KI) (HF.out.1.trans HJ8.out) HF.out.2.1 HB8.out (HF.out.2.2.2.1.on HJ8.out) HQ8.out HK5.out.1 hg9 (show Box w9 r15 31 [.int .i64 2000, .int .i64 10, .int .i64 0, .slice ol2 l2 cap2] from hb9) HK5.out.2.2.2)
        have HX9 := Lib.hid ((HF.out.2.2.2.2.1.on HJ8.out).grown hg9 (box_ne (HF.out.2.2.2.2.1.on HJ8.out) HB8.out (by decide)))
        have HO9 := Lib.hid (own_keep (HF.out.2.2.2.2.2.on HJ8.out) HB8.out (by decide) hg9)
        have HZ9 := Lib.hid (HX8.out.grown hg9 (box_ne HX8.out HB8.out (by decide)))
        have HY9 := Lib.hid (ipAt_keep HY8.out (box_noByte HB8.out rfl) hg9)
        clear hg9 hb9 HP8 HQ8 HX8 HB8 HY8 HF HJ8 HR24
        go_upto_region 26 with (fail)
        go_simp
        go_cut [11] (fun sl wx => ∃ (oq2 : Option Addr) (cq2 : Nat), sl = .slice oq2 (mm - 1) cq2 ∧ Junk w9 wx ∧ Hid (Own 0 wx 25 11 oq2 cq2 (mm - 1) (cellsL (L.eraseIdx KI))))
        case first =>
          have hcap := HO9.out.capLe
          have hcm : cq ≤ 9223372036854775807 := by have := hcap.2; simp only [maxLen] at this; omega
          have t1 : (KI : Int) ≤ (cq : Int) := by omega
          have t2 : (KI : Int) + 1 ≤ (mm : Int) := by omega
          have t3 : (0 : Int) ≤ (KI : Int) + 1 := by omega
          have t4 : (mm : Int) ≤ (cq : Int) := by omega
          have t5 : (KI : Int) + 1 ≤ (cq : Int) := by omega
          have pk1 := wrapk_i64 ((KI : Int) + 1) (by omega) (by omega)
          have t6 : (KI : Int) ≤ (KI : Int) + 1 := by omega
          by_cases hcK : cq = KI + 1
          · refine wp_region_mixj (w9) [(1, true), (2, true), (3, true), (5, true), (6, true), (7, true), (8, true), (0, false), (4, false), (9, false), (10, true)] (by kernel_rfl) (by kernel_rfl) (by (exact jkc)) ?_; (iterate 7 (refine wpMix_q rfl (fun K hK => ?_); (go_simp; try go_bits); (refine hK _ ?_; clear hK K))); refine wpMix_e rfl (fun osm26_0 dm26_0 K hK => ?_); (go_simp; try go_bits); refine hK _ _ (Junk.pair (by (first | exact jkc | repeat (first | with_reducible exact Junk.refl _ | with_reducible exact Junk.app _ _ _ _ _ | with_reducible apply Junk.alloc | with_reducible apply Junk.junk | with_reducible apply Junk.drew | with_reducible apply Junk.drewN | (with_reducible refine Junk.setCell ?_ (by simp) _))))) ?_; clear hK K; refine wpMix_e1 rfl rfl (fun osm26_1 dm26_1 K hK => ?_); (try simp only [World.drew_junk, World.junk_junk]); (refine ap_own_wp (W0 := w9) _ _ 28 rfl 25 (.agg #[.int .i64 0, .int .i64 0, .bool false, .bool false, .int .i64 0, .int .i64 0, .int .i64 0, .int .u32 0, .int .u32 0, .slice none 0 0, .slice none 0 0]) 11 104 (by kernel_rfl) rfl (by decide) Try.underlying28 (by (exact jkc)) _ 0 0 [] rfl ((own_litk (w9.junk osm26_0 dm26_0) 25 11 _ 0 #[] (by simp) (by simp) rfl (by decide)).on (by (exact jkc))) (some ⟨g, 0, none⟩) KI _ rfl (cellsL (L.take KI)) (by rw [cellsL_len, List.length_take, HL.out.1, Nat.min_eq_left (Nat.le_of_lt hKI)]) (fun ad had j u hu => by cases had; have h := own_src (HO9.out.on (show Junk w9 (((w9.junk osm26_0 dm26_0).alloc (.cells #[] 25)).junk osm26_1 dm26_1) by (exact jkc))) 0 _ take_src j u hu; rw [Addr.add_lit]; simpa using h) (fun h => by cases h) all_one (by simp only [maxLen]; omega) (by omega) ?_; intro oa3 cap3 os3 d3 hown3 _; rw [Nat.zero_add] at hown3 ⊢; have HO3 := Lib.hid (show Own w9.heap.size _ 25 11 oa3 cap3 KI (cellsL (L.take KI)) from hown3); clear hown3); refine hK _ _ (Junk.pair (by (first | exact jkc | repeat (first | with_reducible exact Junk.refl _ | with_reducible exact Junk.app _ _ _ _ _ | with_reducible apply Junk.alloc | with_reducible apply Junk.junk | with_reducible apply Junk.drew | with_reducible apply Junk.drewN | (with_reducible refine Junk.setCell ?_ (by simp) _))))) ?_; clear hK K; refine wpMix_e1 rfl rfl (fun osm26_2 dm26_2 K hK => ?_); (try simp only [World.drew_junk, World.junk_junk]); (refine ap_own_wp (W0 := w9) _ _ 28 rfl 25 (.agg #[.int .i64 0, .int .i64 0, .bool false, .bool false, .int .i64 0, .int .i64 0, .int .i64 0, .int .u32 0, .int .u32 0, .slice none 0 0, .slice none 0 0]) 11 104 (by kernel_rfl) rfl (by decide) Try.underlying28 (by (exact jkc)) oa3 cap3 KI _ rfl (HO3.out.on (by (exact jkc))) _ (mm - (KI + 1)) _ rfl (cellsL (L.drop (KI + 1))) (by rw [cellsL_len, List.length_drop, HL.out.1]) (fun ad had j u hu => by rw [List.drop_of_length_le (by rw [HL.out.1]; omega)] at hu; simp [cellsL_nil] at hu) (fun h => by cases h) all_one (by simp only [maxLen]; omega) (by omega) ?_; intro oa4 cap4 os4 d4 hown4 _; have HO4 := Lib.hid (show Own w9.heap.size _ 25 11 oa4 cap4 (KI + (mm - (KI + 1))) (cellsL (L.eraseIdx KI)) from by rw [← cells_cut]; exact hown4); clear hown4); refine hK _ _ (Junk.pair (by (first | exact jkc | repeat (first | with_reducible exact Junk.refl _ | with_reducible exact Junk.app _ _ _ _ _ | with_reducible apply Junk.alloc | with_reducible apply Junk.junk | with_reducible apply Junk.drew | with_reducible apply Junk.drewN | (with_reducible refine Junk.setCell ?_ (by simp) _))))) ?_; clear hK K; (iterate 1 (refine wpMix_q rfl (fun K hK => ?_); (go_simp; try go_bits); (refine hK _ ?_; clear hK K))); refine wpMix_nil (fun osm dm => ?_)
            go_wp2
            go_meet
            rw [show KI + (mm - (KI + 1)) = mm - 1 by omega] at HO4 ⊢
            exact ⟨oa4, cap4, rfl, by (exact jkc), Lib.hid ((HO4.out.lower (Nat.zero_le _)).on (by (exact jkc)))⟩
          · refine wp_region_mixj (w9) [(1, true), (2, true), (3, true), (5, true), (6, true), (7, true), (8, true), (0, false), (4, false), (9, false), (10, true)] (by kernel_rfl) (by kernel_rfl) (by (exact jkc)) ?_; (iterate 7 (refine wpMix_q rfl (fun K hK => ?_); (go_simp; try go_bits); (refine hK _ ?_; clear hK K))); refine wpMix_e rfl (fun osm26_0 dm26_0 K hK => ?_); (go_simp; try go_bits); refine hK _ _ (Junk.pair (by (first | exact jkc | repeat (first | with_reducible exact Junk.refl _ | with_reducible exact Junk.app _ _ _ _ _ | with_reducible apply Junk.alloc | with_reducible apply Junk.junk | with_reducible apply Junk.drew | with_reducible apply Junk.drewN | (with_reducible refine Junk.setCell ?_ (by simp) _))))) ?_; clear hK K; refine wpMix_e1 rfl rfl (fun osm26_1 dm26_1 K hK => ?_); (try simp only [World.drew_junk, World.junk_junk]); (refine ap_own_wp (W0 := w9) _ _ 28 rfl 25 (.agg #[.int .i64 0, .int .i64 0, .bool false, .bool false, .int .i64 0, .int .i64 0, .int .i64 0, .int .u32 0, .int .u32 0, .slice none 0 0, .slice none 0 0]) 11 104 (by kernel_rfl) rfl (by decide) Try.underlying28 (by (exact jkc)) _ 0 0 [] rfl ((own_litk (w9.junk osm26_0 dm26_0) 25 11 _ 0 #[] (by simp) (by simp) rfl (by decide)).on (by (exact jkc))) (some ⟨g, 0, none⟩) KI _ rfl (cellsL (L.take KI)) (by rw [cellsL_len, List.length_take, HL.out.1, Nat.min_eq_left (Nat.le_of_lt hKI)]) (fun ad had j u hu => by cases had; have h := own_src (HO9.out.on (show Junk w9 (((w9.junk osm26_0 dm26_0).alloc (.cells #[] 25)).junk osm26_1 dm26_1) by (exact jkc))) 0 _ take_src j u hu; rw [Addr.add_lit]; simpa using h) (fun h => by cases h) all_one (by simp only [maxLen]; omega) (by omega) ?_; intro oa3 cap3 os3 d3 hown3 _; rw [Nat.zero_add] at hown3 ⊢; have HO3 := Lib.hid (show Own w9.heap.size _ 25 11 oa3 cap3 KI (cellsL (L.take KI)) from hown3); clear hown3); refine hK _ _ (Junk.pair (by (first | exact jkc | repeat (first | with_reducible exact Junk.refl _ | with_reducible exact Junk.app _ _ _ _ _ | with_reducible apply Junk.alloc | with_reducible apply Junk.junk | with_reducible apply Junk.drew | with_reducible apply Junk.drewN | (with_reducible refine Junk.setCell ?_ (by simp) _))))) ?_; clear hK K; refine wpMix_e1 rfl rfl (fun osm26_2 dm26_2 K hK => ?_); (try simp only [World.drew_junk, World.junk_junk]); (refine ap_own_wp (W0 := w9) _ _ 28 rfl 25 (.agg #[.int .i64 0, .int .i64 0, .bool false, .bool false, .int .i64 0, .int .i64 0, .int .i64 0, .int .u32 0, .int .u32 0, .slice none 0 0, .slice none 0 0]) 11 104 (by kernel_rfl) rfl (by decide) Try.underlying28 (by (exact jkc)) oa3 cap3 KI _ rfl (HO3.out.on (by (exact jkc))) _ (mm - (KI + 1)) _ rfl (cellsL (L.drop (KI + 1))) (by rw [cellsL_len, List.length_drop, HL.out.1]) (fun ad had j u hu => by cases had; rw [Addr.add_lit]; exact own_src (HO9.out.on (by (exact jkc))) (KI + 1) _ drop_src j u hu) (fun h => by cases h) all_one (by simp only [maxLen]; omega) (by omega) ?_; intro oa4 cap4 os4 d4 hown4 _; have HO4 := Lib.hid (show Own w9.heap.size _ 25 11 oa4 cap4 (KI + (mm - (KI + 1))) (cellsL (L.eraseIdx KI)) from by rw [← cells_cut]; exact hown4); clear hown4); refine hK _ _ (Junk.pair (by (first | exact jkc | repeat (first | with_reducible exact Junk.refl _ | with_reducible exact Junk.app _ _ _ _ _ | with_reducible apply Junk.alloc | with_reducible apply Junk.junk | with_reducible apply Junk.drew | with_reducible apply Junk.drewN | (with_reducible refine Junk.setCell ?_ (by simp) _))))) ?_; clear hK K; (iterate 1 (refine wpMix_q rfl (fun K hK => ?_); (go_simp; try go_bits); (refine hK _ ?_; clear hK K))); refine wpMix_nil (fun osm dm => ?_)
            go_wp2
            go_meet
            rw [show KI + (mm - (KI + 1)) = mm - 1 by omega] at HO4 ⊢
            exact ⟨oa4, cap4, rfl, by (exact jkc), Lib.hid ((HO4.out.lower (Nat.zero_le _)).on (by (exact jkc)))⟩
        case rest =>
          obtain ⟨oq2, cq2, rfl, hj10, hO10⟩ := hcut
          have HJ10 := Lib.hid hj10
          have HLE := Lib.hid (show (R.eraseIdx KI).length = mm - 1 from by rw [List.length_eraseIdx, if_pos (by rw [HL.out.2.1]; exact hKI), HL.out.2.1])
          cases ok with
          | true =>
            obtain ⟨e1, e3⟩ := HK5.out.2.1 rfl
            have hz0 : mm - 1 = 0 := by rw [← HLE.out, e1]; rfl
            have hz1 : ((mm - 1 : Nat) : Int) = 0 := by omega
            have HZ0 := Lib.hid hz0
            clear hz0
            subst e3
            have HZB := Lib.hid (show Box wc r24_1 25 [.int .i64 tos, .int .i64 id, .bool df, .bool false, .int .i64 0, .int .i64 ttl, .int .i64 proto, .int .u32 src, .int .u32 dst, .slice o1 ol c1, .slice o2 bl c2] from HZ9.out.on hj10)
            have HXB := Lib.hid (HX9.out.on hj10)
            have HSM := Lib.hid (fun w1 (hj : Junk wc w1) => show Calls Try.prog 19 #[.agg #[.int .i64 tos, .int .i64 id, .bool df, .bool false, .int .i64 0, .int .i64 ttl, .int .i64 proto, .int .u32 src, .int .u32 dst, .slice o1 ol c1, .slice o2 bl c2], .agg #[.int .i64 tos, .int .i64 id, .bool df, .bool false, .int .i64 0, .int .i64 ttl, .int .i64 proto, .int .u32 src, .int .u32 dst, .slice oo ol oc, .slice ob bl bc]] w1 fun e w' => e = .returned (.bool true) ∧ Junk w1 w' from sameIp_refl (Ip.mk tos id df false 0 ttl proto src dst ol opts bl body) ▸ ipSame_any (Ip.mk tos id df false 0 ttl proto src dst ol opts bl body) (Ip.mk tos id df false 0 ttl proto src dst ol opts bl body) o1 o2 oo ob c1 c2 oc bc w1 (HY9.out.on (hj10.trans hj)) (HPU.out.on (HW9.out.1.trans (hj10.trans hj))))
            have z0 : wc.cell? ⟨r24_1, 0, none⟩ = some (.int .i64 tos) := HZB.out.cell rfl
            have z1 : wc.cell? ⟨r24_1, 1, none⟩ = some (.int .i64 id) := HZB.out.cell rfl
            have z2 : wc.cell? ⟨r24_1, 2, none⟩ = some (.bool df) := HZB.out.cell rfl
            have z3 : wc.cell? ⟨r24_1, 3, none⟩ = some (.bool false) := HZB.out.cell rfl
            have z4 : wc.cell? ⟨r24_1, 4, none⟩ = some (.int .i64 0) := HZB.out.cell rfl
            have z5 : wc.cell? ⟨r24_1, 5, none⟩ = some (.int .i64 ttl) := HZB.out.cell rfl
            have z6 : wc.cell? ⟨r24_1, 6, none⟩ = some (.int .i64 proto) := HZB.out.cell rfl
            have z7 : wc.cell? ⟨r24_1, 7, none⟩ = some (.int .u32 src) := HZB.out.cell rfl
            have z8 : wc.cell? ⟨r24_1, 8, none⟩ = some (.int .u32 dst) := HZB.out.cell rfl
            have z9 : wc.cell? ⟨r24_1, 9, none⟩ = some (.slice o1 ol c1) := HZB.out.cell rfl
            have z10 : wc.cell? ⟨r24_1, 10, none⟩ = some (.slice o2 bl c2) := HZB.out.cell rfl
            have x0 : wc.cell? ⟨r4, 0, none⟩ = some (.int .i64 tos) := HXB.out.cell rfl
            have x1 : wc.cell? ⟨r4, 1, none⟩ = some (.int .i64 id) := HXB.out.cell rfl
            have x2 : wc.cell? ⟨r4, 2, none⟩ = some (.bool df) := HXB.out.cell rfl
            have x3 : wc.cell? ⟨r4, 3, none⟩ = some (.bool false) := HXB.out.cell rfl
            have x4 : wc.cell? ⟨r4, 4, none⟩ = some (.int .i64 0) := HXB.out.cell rfl
            have x5 : wc.cell? ⟨r4, 5, none⟩ = some (.int .i64 ttl) := HXB.out.cell rfl
            have x6 : wc.cell? ⟨r4, 6, none⟩ = some (.int .i64 proto) := HXB.out.cell rfl
            have x7 : wc.cell? ⟨r4, 7, none⟩ = some (.int .u32 src) := HXB.out.cell rfl
            have x8 : wc.cell? ⟨r4, 8, none⟩ = some (.int .u32 dst) := HXB.out.cell rfl
            have x9 : wc.cell? ⟨r4, 9, none⟩ = some (.slice oo ol oc) := HXB.out.cell rfl
            have x10 : wc.cell? ⟨r4, 10, none⟩ = some (.slice ob bl bc) := HXB.out.cell rfl
            have sz := HZB.out.lt
            have sx := HXB.out.lt
            clear e1 hj10 HZ9
            go_wp2_with (first | (go_at_call 19; (with_reducible refine (HSM.out _ (by (exact jkc))).mono ?_); rintro e w' ⟨rfl, ⟨osj, dj, rfl⟩⟩))
            exact ⟨⟨k + 1, mm - 1, oq2, cq2, L.eraseIdx KI, R.eraseIdx KI, by first | rfl | trivial | (rw [HZ0.out]), by go_num, by omega, Lib.hid ⟨HW9.out.on (HJ10.out.trans (by (exact jkc))), HX9.out.on (HJ10.out.trans (by (exact jkc))), hO10.out.on (by (exact jkc)), by rw [map_erase2, map_erase2, HL.out.2.2.1], fun f hf => HL.out.2.2.2 f (List.mem_of_mem_eraseIdx hf), HLE.out⟩⟩, by simp [intOf]; omega⟩
          | false =>
            have hne := HK5.out.2.2.1 rfl
            have hz0 : mm - 1 ≠ 0 := fun h => hne (List.eq_nil_of_length_eq_zero (by rw [HLE.out]; exact h))
            have hz1 : (((mm - 1 : Nat) : Int) == 0) = false := by simp; omega
            clear hne hj10
            go_wp2
            exact ⟨⟨k + 1, mm - 1, oq2, cq2, L.eraseIdx KI, R.eraseIdx KI, by first | rfl | trivial | (rw [HZ0.out]), by go_num, by omega, Lib.hid ⟨HW9.out.on HJ10.out, HX9.out.on HJ10.out, hO10.out.on (by (exact jkc)), by rw [map_erase2, map_erase2, HL.out.2.2.1], fun f hf => HL.out.2.2.2 f (List.mem_of_mem_eraseIdx hf), HLE.out⟩⟩, by simp [intOf]; omega⟩
end Go.Proofs.Ytgjppmkadmfibaa
