/- The law ReasmWhole, of a packet that may be put and has between 9 and 600 bytes: its pieces come together. -/
import Derived.Test.YtgjppmkadmfibaaRuB
import Derived.Test.YtgjppmkadmfibaaIpRSame
import Derived.Deep.CutBlock
set_option linter.unusedVariables false
set_option maxRecDepth 100000
set_option linter.unusedSimpArgs false
namespace Go.Proofs.Ytgjppmkadmfibaa
open Go.RowKit
/-- The list of pieces that a law has built so far. -/
def LsP (w V wx : World) (X : Ip) (n a m : Nat) (oq : Option Addr) (cq : Nat) (L : List Fr) (P : List Pc) : Prop :=
  Junk V wx ∧ contig 0 a P ∧ a < n ∧ (∀ p ∈ P, p.mf = true ∧ p.l % 8 = 0) ∧ L.map Fr.p = P.map (pcI X) ∧ Own V.heap.size wx 25 11 oq cq m (cellsL L) ∧ (∀ f ∈ L, f.At w) ∧ P.length = m
set_option maxRecDepth 100000 in
set_option maxHeartbeats 64000000 in
theorem reasmWhole_main (tos id : Int) (df mf0 : Bool) (off0 ttl proto src dst : Int) (ol : Nat) (opts : Nat → Int) (bl : Nat) (body : Nat → Int) (oo : Option Addr) (oc bc : Nat) (ocu oor : Option Addr) (cl cc rl rc : Nat) (xs ys : Nat → Int) (w : World) (b boff : Nat) (hP : IpAt w (Ip.mk tos id df false 0 ttl proto src dst ol opts bl body) oo oc (some ⟨b, boff, none⟩) bc) (hC : IntsAt w ocu cl .u8 xs) (hx : ∀ i, i < cl → 0 ≤ xs i ∧ xs i ≤ 255) (hO : IntsAt w oor rl .u8 ys) (hy : ∀ i, i < rl → 0 ≤ ys i ∧ ys i ≤ 255) (hcl : cl ≤ 9223372036854775807) (hrl : rl ≤ 9223372036854775807)
    (hm : mayB (Ip.mk tos id df false 0 ttl proto src dst ol opts bl body) = true) (h9 : 9 ≤ bl) (h600 : bl ≤ 600) : Calls Try.prog 3 #[.agg #[.int .i64 tos, .int .i64 id, .bool df, .bool mf0, .int .i64 off0, .int .i64 ttl, .int .i64 proto, .int .u32 src, .int .u32 dst, .slice oo ol oc, .slice (some ⟨b, boff, none⟩) bl bc], .slice ocu cl cc, .slice oor rl rc] w fun e w' => e = .returned (.bool true) ∧ Junk w w' := by
  have HM := Lib.hid (fun w1 => show Calls Try.prog 8 #[.agg #[.int .i64 tos, .int .i64 id, .bool df, .bool false, .int .i64 0, .int .i64 ttl, .int .i64 proto, .int .u32 src, .int .u32 dst, .slice oo ol oc, .slice (some ⟨b, boff, none⟩) bl bc]] w1 fun e w' => e = .returned (.bool true) ∧ Junk w1 w' from hm ▸ rmay_any (Ip.mk tos id df false 0 ttl proto src dst ol opts bl body) oo (some ⟨b, boff, none⟩) oc bc w1 (by have h1 := hP.opts.le; have h2 := hP.opts.cap; simp only [maxLen] at h2; omega) (by show bl ≤ _; omega))
  have HP := Lib.hid hP
  have HC := Lib.hid hC
  have HXS := Lib.hid hx
  have HO := Lib.hid hO
  have HYS := Lib.hid hy
  have HCL := Lib.hid hcl
  have HRL := Lib.hid hrl
  have HMY := Lib.hid hm
  have HBC := Lib.hid (show bl ≤ bc from hP.body.le)
  clear hP hC hx hO hy hcl hrl hm
  have n600 : ¬ (600 : Int) < (bl : Int) := by omega
  have n9 : ¬ (bl : Int) < (9 : Int) := by omega
  have H9 := Lib.hid (And.intro h9 h600)
  clear h9 h600
  go_enter Try.func3, Try.ntmps3
  go_upto_block 0 with (first
    | (go_at_call 7; (with_reducible refine (awake7_any _).mono ?_); rintro e w' ⟨rfl, ⟨osj, dj, rfl⟩⟩)
    | (go_at_call 8; (with_reducible refine (HM.out _).mono ?_); rintro e w' ⟨rfl, ⟨osj2, dj2, rfl⟩⟩))
  have BX := (box_new w #[.int .i64 tos, .int .i64 id, .bool df, .bool false, .int .i64 0, .int .i64 ttl, .int .i64 proto, .int .u32 src, .int .u32 dst, .slice oo ol oc, .slice (some ⟨b, boff, none⟩) bl bc] 25).on (show Junk _ ((w.alloc (.cells #[.int .i64 tos, .int .i64 id, .bool df, .bool false, .int .i64 0, .int .i64 ttl, .int .i64 proto, .int .u32 src, .int .u32 dst, .slice oo ol oc, .slice (some ⟨b, boff, none⟩) bl bc] 25)).junk (osj ++ osj2) dj2) by (exact jkc))
  generalize hr3 : w.heap.size = r3 at BX ⊢
  refine wp_genX (fun V => Junk w V ∧ Box V r3 25 [.int .i64 tos, .int .i64 id, .bool df, .bool false, .int .i64 0, .int .i64 ttl, .int .i64 proto, .int .u32 src, .int .u32 dst, .slice oo ol oc, .slice (some ⟨b, boff, none⟩) bl bc]) ⟨by (exact jkc), BX⟩ ?_
  rintro V ⟨hjv, hbv⟩
  have HJV := Lib.hid hjv
  have HBV := Lib.hid hbv
  have HR3 := Lib.hid hr3
  clear hjv hbv hr3 BX osj dj osj2 dj2 HM n600 n9
  have v10 : V.cell? ⟨r3, 10, none⟩ = some (.slice (some ⟨b, boff, none⟩) bl bc) := HBV.out.cell rfl
  have s3 := HBV.out.lt
  have c0 : V.cell? ⟨r3, 0, none⟩ = some (.int .i64 tos) := HBV.out.cell rfl
  have c1 : V.cell? ⟨r3, 1, none⟩ = some (.int .i64 id) := HBV.out.cell rfl
  have c2 : V.cell? ⟨r3, 2, none⟩ = some (.bool df) := HBV.out.cell rfl
  have c3 : V.cell? ⟨r3, 3, none⟩ = some (.bool false) := HBV.out.cell rfl
  have c4 : V.cell? ⟨r3, 4, none⟩ = some (.int .i64 0) := HBV.out.cell rfl
  have c5 : V.cell? ⟨r3, 5, none⟩ = some (.int .i64 ttl) := HBV.out.cell rfl
  have c6 : V.cell? ⟨r3, 6, none⟩ = some (.int .i64 proto) := HBV.out.cell rfl
  have c7 : V.cell? ⟨r3, 7, none⟩ = some (.int .u32 src) := HBV.out.cell rfl
  have c8 : V.cell? ⟨r3, 8, none⟩ = some (.int .u32 dst) := HBV.out.cell rfl
  have c9 : V.cell? ⟨r3, 9, none⟩ = some (.slice oo ol oc) := HBV.out.cell rfl
  go_cut [7, 8] (fun sl at_ wx => ∃ (a m : Nat) (oq : Option Addr) (cq : Nat) (L : List Fr) (P : List Pc), sl = .slice oq m cq ∧ at_ = .int .i64 (a : Int) ∧ m ≤ 19 ∧ Hid (LsP w V wx (Ip.mk tos id df false 0 ttl proto src dst ol opts bl body) bl a m oq cq L P))
  case first =>
    go_wp2
    go_loopw [7, 8, 9] (fun sl at_ i wr => ∃ (k a : Nat) (oq : Option Addr) (cq : Nat) (L : List Fr) (P : List Pc), k ≤ 19 ∧ i = .int .i64 (k : Int) ∧ sl = .slice oq k cq ∧ at_ = .int .i64 (a : Int) ∧ Hid (LsP w V wr (Ip.mk tos id df false 0 ttl proto src dst ol opts bl body) bl a k oq cq L P)) (fun _ _ i _ => 20 - (intOf i).toNat)
    case atStart => exact ⟨0, 0, none, 0, [], [], by omega, rfl, rfl, rfl, Lib.hid ⟨Junk.refl _, rfl, by have := H9.out; omega, (fun p hp => by cases hp), rfl, Own.nil _ _ _ _, (fun f hf => by cases hf), rfl⟩⟩
    case round =>
      obtain ⟨k, a, oq, cq, L, P, hk, rfl, rfl, rfl, hS⟩ := hrel
      have HS := Lib.hid hS.out
      clear hS
      by_cases hkc : k < cl
      case neg =>
        have hkc2 : ¬ (k : Int) < (cl : Int) := by omega
        go_wp2
        go_meet
        exact ⟨a, k, oq, cq, L, P, rfl, rfl, hk, HS⟩
      have hkc2 : (k : Int) < (cl : Int) := by omega
      by_cases hk19 : k < 19
      case neg =>
        have hk19b : ¬ (k : Int) < 19 := by omega
        go_wp2
        go_meet
        exact ⟨a, k, oq, cq, L, P, rfl, rfl, hk, HS⟩
      have hk19b : (k : Int) < 19 := by omega
      obtain ⟨hjr, hct, han, hpm, hLP, hown, hat, hpl⟩ := HS.out
      obtain ⟨gc, goff, hgc, hgl, hgx⟩ := (HC.out.on (HJV.out.trans hjr)) k hkc
      have hxb := HXS.out k hkc
      obtain ⟨C, hC⟩ : ∃ C : Nat, xs k = (C : Int) := ⟨(xs k).toNat, by omega⟩
      rw [hC] at hgx hxb
      obtain ⟨D, hD⟩ : ∃ D : Nat, C % 16 = D := ⟨_, rfl⟩
      obtain ⟨TO, hTO⟩ : ∃ TO : Nat, a + 8 + 8 * D = TO := ⟨_, rfl⟩
      subst hgc
      have d0 := cells_on c0 s3 hjr
      have d1 := cells_on c1 s3 hjr
      have d2 := cells_on c2 s3 hjr
      have d3 := cells_on c3 s3 hjr
      have d4 := cells_on c4 s3 hjr
      have d5 := cells_on c5 s3 hjr
      have d6 := cells_on c6 s3 hjr
      have d7 := cells_on c7 s3 hjr
      have d8 := cells_on c8 s3 hjr
      have d9 := cells_on c9 s3 hjr
      have r10 := cells_on v10 s3 hjr
      have s3r := Nat.lt_of_lt_of_le s3 hjr.size
      have hD15 : D ≤ 15 := by omega
      have e16 : (C : Int) % 16 = (D : Int) := by omega
      have e16t : Int.tmod (C : Int) 16 = (D : Int) := by rw [Int.tmod_eq_emod_of_nonneg (by omega)]; exact e16
      have eTO : (a : Int) + 8 + 8 * (D : Int) = (TO : Int) := by omega
      have a600 : a < 600 := by have := H9.out; omega
      have HTO := Lib.hid (And.intro hD hTO)
      have HJR := Lib.hid hjr
      have HOW := Lib.hid hown
      have HPA := Lib.hid (fun h1 h2 h3 => part_at (mf := true) (a := a) (e := TO) HP.out h1 h2 h3)
      clear hjr hct hpm hLP hown hat hpl hC hD hTO hxb
      by_cases hlt : TO < bl
      case neg =>
        have hlt2 : ¬ (TO : Int) < (bl : Int) := by omega
        have hlt3 : (bl : Int) ≤ (TO : Int) := by omega
        go_wp2
        go_meet
        exact ⟨a, k, oq, cq, L, P, rfl, rfl, hk, HS⟩
      have hlt2 : (TO : Int) < (bl : Int) := by omega
      have hlt3 : ¬ (bl : Int) ≤ (TO : Int) := by omega
      have q1 : (a : Int) ≤ (TO : Int) := by omega
      have q2 : (TO : Int) ≤ (bc : Int) := by have := HBC.out; omega
      have q3 : ¬ bc = a := by have := HBC.out; omega
      have q4 : ¬ bc = TO := by have := HBC.out; omega
      have q5 : (0 : Int) ≤ (a : Int) := by omega
      have q6 : (0 : Int) ≤ (TO : Int) := by omega
      go_upto_region 14 with (fail)
      refine wp_genX (fun V => ∃ os d, V = (wr.alloc (.cells #[.int .i64 tos, .int .i64 id, .bool df, .bool false, .int .i64 0, .int .i64 ttl, .int .i64 proto, .int .u32 src, .int .u32 dst, .slice oo ol oc, .slice (some ⟨b, boff, none⟩) bl bc] 25)).junk os d) ⟨#[], _, junk_nil9 _⟩ ?_
      rintro _ ⟨osB, dB, rfl⟩
      refine wp_region_mixo (wr) 25 (osB) (dB) #[.int .i64 tos, .int .i64 id, .bool df, .bool false, .int .i64 0, .int .i64 ttl, .int .i64 proto, .int .u32 src, .int .u32 dst, .slice oo ol oc, .slice (some ⟨b, boff, none⟩) bl bc] [(0, true), (1, true), (2, true), (3, true), (4, true), (5, true), (6, true), (7, false), (8, true), (9, false), (10, true), (11, false)] (by kernel_rfl) (by kernel_rfl) (by (exact jkc)) ?_; (iterate 7 (refine wpMix_q rfl (fun K hK => ?_); (go_simp; try go_bits); (refine hK _ ?_; clear hK K))); refine wpMix_e rfl (fun osm14_0 dm14_0 K hK => ?_); (go_simp; try go_bits); refine hK _ _ (in_own (d0 := dB) _ (by (repeat (first | with_reducible exact Junk.refl _ | with_reducible exact Junk.app _ _ _ _ _ | with_reducible apply Junk.alloc | with_reducible apply Junk.junk | with_reducible apply Junk.drew | with_reducible apply Junk.drewN)))) ?_; clear hK K; (iterate 1 (refine wpMix_q rfl (fun K hK => ?_); (go_simp; try go_bits); (refine hK _ ?_; clear hK K))); refine wpMix_e rfl (fun osm14_1 dm14_1 K hK => ?_); (go_simp; try go_bits); refine hK _ _ (in_own (d0 := dB) _ (by (repeat (first | with_reducible exact Junk.refl _ | with_reducible exact Junk.app _ _ _ _ _ | with_reducible apply Junk.alloc | with_reducible apply Junk.junk | with_reducible apply Junk.drew | with_reducible apply Junk.drewN)))) ?_; clear hK K; (iterate 1 (refine wpMix_q rfl (fun K hK => ?_); (go_simp; try go_bits); (refine hK _ ?_; clear hK K))); refine wpMix_e rfl (fun osm14_2 dm14_2 K hK => ?_); (go_simp; try go_bits); refine hK _ _ (in_own (d0 := dB) _ (by (repeat (first | with_reducible exact Junk.refl _ | with_reducible exact Junk.app _ _ _ _ _ | with_reducible apply Junk.alloc | with_reducible apply Junk.junk | with_reducible apply Junk.drew | with_reducible apply Junk.drewN)))) ?_; clear hK K; refine wpMix_nil (fun osm dm => ?_)
      go_wp2_with (first | (at_builtin; (refine ap_own (W0 := V) rfl _ _ 28 rfl 25 (.agg #[.int .i64 0, .int .i64 0, .bool false, .bool false, .int .i64 0, .int .i64 0, .int .i64 0, .int .u32 0, .int .u32 0, .slice none 0 0, .slice none 0 0]) 11 104 (by kernel_rfl) rfl (by decide) Try.underlying28 (HJR.out.trans (by (exact jkc))) oq cq k _ rfl (HOW.out.on (by (exact jkc))) _ 1 1 rfl (Fr.cells ⟨pcI (Ip.mk tos id df false 0 ttl proto src dst ol opts bl body) ⟨a, TO - a, true⟩, oo, oc, some ⟨b, boff + a, none⟩, bc - a⟩) rfl (built_cells (by simp)) (fun h => by cases h) (Fr.one _) (by simp only [maxLen]; omega) (by omega) ?_; intro oa' cap' os' d' hown' _; have HN := Lib.hid hown'; clear hown')))
      exact ⟨⟨k + 1, TO, oa', cap', L ++ [⟨pcI (Ip.mk tos id df false 0 ttl proto src dst ol opts bl body) ⟨a, TO - a, true⟩, oo, oc, some ⟨b, boff + a, none⟩, bc - a⟩], P ++ [⟨a, TO - a, true⟩], by omega, by go_num, by first | rfl | trivial, by first | rfl | trivial, Lib.hid ⟨by (exact jkc), by have h := contig_snoc (p := ⟨a, TO - a, true⟩) HS.out.2.1 rfl (by show 0 < TO - a; have := HTO.out; omega); simp only at h; rwa [show a + (TO - a) = TO by have := HTO.out; omega] at h, hlt, mem_snoc HS.out.2.2.2.1 ⟨rfl, by show (TO - a) % 8 = 0; have := HTO.out; omega⟩, by rw [List.map_append, List.map_append, HS.out.2.2.2.2.1]; rfl, by rw [← cellsL_one]; exact HN.out, mem_snoc HS.out.2.2.2.2.2.2.1 (HPA.out (by have := HTO.out; omega) (by show TO ≤ bl; omega) q3), by rw [List.length_append, HS.out.2.2.2.2.2.2.2]; rfl⟩⟩, by simp [intOf]; omega⟩
  case rest =>
    obtain ⟨a, m, oq, cq, L, P, rfl, rfl, hm19, hS⟩ := hcut
    have HS := Lib.hid hS.out
    clear hS
    by_cases hm0 : m = 0
    · subst hm0
      go_wp2
      go_ret
      exact ⟨rfl, HJV.out.trans HS.out.1⟩
    have m0 : ((m : Int) == 0) = false := by simp; omega
    obtain ⟨hjr, hct, han, hpm, hLP, hown, hat, hpl⟩ := HS.out
    have d0 := cells_on c0 s3 hjr
    have d1 := cells_on c1 s3 hjr
    have d2 := cells_on c2 s3 hjr
    have d3 := cells_on c3 s3 hjr
    have d4 := cells_on c4 s3 hjr
    have d5 := cells_on c5 s3 hjr
    have d6 := cells_on c6 s3 hjr
    have d7 := cells_on c7 s3 hjr
    have d8 := cells_on c8 s3 hjr
    have d9 := cells_on c9 s3 hjr
    have r10 := cells_on v10 s3 hjr
    have s3r := Nat.lt_of_lt_of_le s3 hjr.size
    have HJR := Lib.hid hjr
    have HOW := Lib.hid hown
    have HPA := Lib.hid (fun h1 h2 h3 => part_at (mf := false) (a := a) (e := bl) HP.out h1 h2 h3)
    have HCO := Lib.hid (contig_to hct han hpm)
    have q1 : (a : Int) ≤ (bl : Int) := by omega
    have q2 : (bl : Int) ≤ (bc : Int) := by have := HBC.out; omega
    have q3 : ¬ bc = a := by have := HBC.out; omega
    have q5 : (0 : Int) ≤ (a : Int) := by omega
    have a600 : a < 600 := by have := H9.out; omega
    have HAN := Lib.hid han
    have HM0 := Lib.hid hm0
    clear hjr hct hpm hLP hown hat hpl hm0 c0 c1 c2 c3 c4 c5 c6 c7 c8 c9
    go_upto_region 20 with (fail)
    refine wp_genX (fun V => ∃ os d, V = (wc.alloc (.cells #[.int .i64 tos, .int .i64 id, .bool df, .bool false, .int .i64 0, .int .i64 ttl, .int .i64 proto, .int .u32 src, .int .u32 dst, .slice oo ol oc, .slice (some ⟨b, boff, none⟩) bl bc] 25)).junk os d) ⟨#[], _, junk_nil9 _⟩ ?_
    rintro _ ⟨osB, dB, rfl⟩
    refine wp_region_mixo (wc) 25 (osB) (dB) #[.int .i64 tos, .int .i64 id, .bool df, .bool false, .int .i64 0, .int .i64 ttl, .int .i64 proto, .int .u32 src, .int .u32 dst, .slice oo ol oc, .slice (some ⟨b, boff, none⟩) bl bc] [(0, true), (1, true), (2, true), (3, true), (4, true), (5, true), (6, false), (7, true), (8, false)] (by kernel_rfl) (by kernel_rfl) (by (exact jkc)) ?_; (iterate 6 (refine wpMix_q rfl (fun K hK => ?_); (go_simp; try go_bits); (refine hK _ ?_; clear hK K))); refine wpMix_e rfl (fun osm20_0 dm20_0 K hK => ?_); (go_simp; try go_bits); refine hK _ _ (in_own (d0 := dB) _ (by (repeat (first | with_reducible exact Junk.refl _ | with_reducible exact Junk.app _ _ _ _ _ | with_reducible apply Junk.alloc | with_reducible apply Junk.junk | with_reducible apply Junk.drew | with_reducible apply Junk.drewN)))) ?_; clear hK K; (iterate 1 (refine wpMix_q rfl (fun K hK => ?_); (go_simp; try go_bits); (refine hK _ ?_; clear hK K))); refine wpMix_e rfl (fun osm20_1 dm20_1 K hK => ?_); (go_simp; try go_bits); refine hK _ _ (in_own (d0 := dB) _ (by (repeat (first | with_reducible exact Junk.refl _ | with_reducible exact Junk.app _ _ _ _ _ | with_reducible apply Junk.alloc | with_reducible apply Junk.junk | with_reducible apply Junk.drew | with_reducible apply Junk.drewN)))) ?_; clear hK K; refine wpMix_nil (fun osm dm => ?_)
    go_upto_block 2 with (first
      | (at_builtin; (refine ap_own (W0 := V) rfl _ _ 28 rfl 25 (.agg #[.int .i64 0, .int .i64 0, .bool false, .bool false, .int .i64 0, .int .i64 0, .int .i64 0, .int .u32 0, .int .u32 0, .slice none 0 0, .slice none 0 0]) 11 104 (by kernel_rfl) rfl (by decide) Try.underlying28 (HJR.out.trans (by (exact jkc))) oq cq m _ rfl (HOW.out.on (by (exact jkc))) _ 1 1 rfl (Fr.cells ⟨pcI (Ip.mk tos id df false 0 ttl proto src dst ol opts bl body) ⟨a, bl - a, false⟩, oo, oc, some ⟨b, boff + a, none⟩, bc - a⟩) rfl (built_cells (by simp)) (fun h => by cases h) (Fr.one _) (by simp only [maxLen]; omega) (by omega) ?_; intro oa' cap' os' d' hown' _; have HN := Lib.hid hown'; clear hown'))
      | (go_at_call 9; (with_reducible refine (new_1000 _).mono ?_); rintro e w' ⟨rfl, ⟨osj, dj, rfl⟩⟩))
    have BX := box_new ((V.junk os' d').junk osj dj) #[.int .i64 1000, .int .i64 10, .int .i64 0, .slice none 0 0] 31
    simp only [World.junk_junk, World.size_junk, Array.size_append] at BX
    have HCX := Lib.hid (show Box V r3 25 [.int .i64 tos, .int .i64 id, .bool df, .bool false, .int .i64 0, .int .i64 ttl, .int .i64 proto, .int .u32 src, .int .u32 dst, .slice oo ol oc, .slice (some ⟨b, boff, none⟩) bl bc] from HBV.out)
    have H2 := Lib.hid (show 2 ≤ (P ++ [(⟨a, bl - a, false⟩ : Pc)]).length from by rw [List.length_append, HS.out.2.2.2.2.2.2.2]; show 2 ≤ m + 1; have := HM0.out; omega)
    have HLA := Lib.hid (show LpW w (Ip.mk tos id df false 0 ttl proto src dst ol opts bl body) bl (P ++ [⟨a, bl - a, false⟩]) r3 _ 1000 10 [.int .i64 tos, .int .i64 id, .bool df, .bool false, .int .i64 0, .int .i64 ttl, .int .i64 proto, .int .u32 src, .int .u32 dst, .slice oo ol oc, .slice (some ⟨b, boff, none⟩) bl bc] oa' cap' (m + 1) (L ++ [⟨pcI (Ip.mk tos id df false 0 ttl proto src dst ol opts bl body) ⟨a, bl - a, false⟩, oo, oc, some ⟨b, boff + a, none⟩, bc - a⟩]) _ from
      ⟨StW.start (HJV.out.trans (by (exact jkc))) (by have := HJV.out.size; omega) BX (by decide) (gw_start HCO.out H2.out), HCX.out.on (by (exact jkc)), by rw [← cellsL_one]; exact (HN.out.lower HJV.out.size).on (by (exact jkc)), by rw [List.map_append, List.map_append, HS.out.2.2.2.2.1]; rfl, mem_snoc HS.out.2.2.2.2.2.2.1 (HPA.out (by omega) (Nat.le_refl _) q3), by rw [List.length_append, HS.out.2.2.2.2.2.2.2]; rfl⟩)
    obtain ⟨M, hM⟩ : ∃ M, m + 1 = M := ⟨_, rfl⟩
    have HM := Lib.hid (show M ≤ 20 by omega)
    rw [hM] at HLA ⊢
    have HX := Lib.hid (show WhX (Ip.mk tos id df false 0 ttl proto src dst ol opts bl body) bl from ⟨HMY.out, rfl, rfl, rfl⟩)
    generalize P ++ [(⟨a, bl - a, false⟩ : Pc)] = P2 at HLA HCO H2
    generalize L ++ [(⟨pcI (Ip.mk tos id df false 0 ttl proto src dst ol opts bl body) ⟨a, bl - a, false⟩, oo, oc, some ⟨b, boff + a, none⟩, bc - a⟩ : Fr)] = L2 at HLA
    generalize V.heap.size + (os'.size + osj.size) = r13 at HLA ⊢
    refine wp_genX (fun W => LpW w (Ip.mk tos id df false 0 ttl proto src dst ol opts bl body) bl P2 r3 r13 1000 10 [.int .i64 tos, .int .i64 id, .bool df, .bool false, .int .i64 0, .int .i64 ttl, .int .i64 proto, .int .u32 src, .int .u32 dst, .slice oo ol oc, .slice (some ⟨b, boff, none⟩) bl bc] oa' cap' M L2 W) HLA.out ?_
    intro V2 hV2
    have HV2 := Lib.hid hV2
    clear hV2 HLA HN HPA HOW HJR HS HJV HBV HCX BX hM d0 d1 d2 d3 d4 d5 d6 d7 d8 d9 r10 s3r v10 s3 q1 q2 q3 q5 m0
    go_wp2
    go_loopw [7, 15] (fun sl i wr => ∃ (k mm : Nat) (oq : Option Addr) (cq : Nat) (L : List Fr) (R : List Pc), sl = .slice oq mm cq ∧ i = .int .i64 (k : Int) ∧ k + mm = M ∧ Hid (LpW w (Ip.mk tos id df false 0 ttl proto src dst ol opts bl body) bl R r3 r13 1000 10 [.int .i64 tos, .int .i64 id, .bool df, .bool false, .int .i64 0, .int .i64 ttl, .int .i64 proto, .int .u32 src, .int .u32 dst, .slice oo ol oc, .slice (some ⟨b, boff, none⟩) bl bc] oq cq mm L wr)) (fun _ i _ => M + 1 - (intOf i).toNat)
    case atStart => exact ⟨0, M, oa', cap', L2, P2, rfl, rfl, by omega, HV2⟩
    case round =>
      obtain ⟨k, mm, oq, cq, L, R, rfl, rfl, hkm, hS⟩ := hrel
      have HS := Lib.hid hS.out
      clear hS HV2
      have M20 := HM.out
      by_cases hmm : mm = 0
      · subst hmm
        obtain ⟨hj, hr, ox, lx, cx, Q, hb, hq, hk, hw1⟩ := HS.out.1
        have hR : R = [] := List.eq_nil_of_length_eq_zero HS.out.2.2.2.2.2
        have hl0 := hq.len
        rw [hR] at hw1
        rw [gw_done hw1] at hl0
        have hlx : lx = 0 := hl0.symm
        subst hlx
        have q3 : wr.cell? ⟨r13, 3, none⟩ = some (.slice ox 0 cx) := hb.cell rfl
        have s13 := hb.lt
        have HJ := Lib.hid hj
        clear hj hr hb hq hk hw1 hR hl0
        go_wp2
        go_ret
        exact ⟨rfl, HJ.out⟩
      have g0 : ¬ (mm : Int) ≤ 0 := by omega
      have g1 : (0 : Int) < (mm : Int) := by omega
      have g2 : ((mm : Int) == 0) = false := by simp; omega
      have mpos : 0 < mm := by omega
      clear hmm
      go_upto_if 107 with (fail)
      go_cut [16] (fun t wx => ∃ KI : Nat, t = .int .i64 (KI : Int) ∧ KI < mm ∧ wr = wx)
      case first =>
        by_cases hkr : k < rl
        · have hkr2 : (k : Int) < (rl : Int) := by omega
          have hk0 : (0 : Int) ≤ (k : Int) := by omega
          obtain ⟨gc, goff, hgc, hgl, hgx⟩ := (HO.out.on HS.out.1.1) k hkr
          have hxb := HYS.out k hkr
          obtain ⟨C, hC⟩ : ∃ C : Nat, ys k = (C : Int) := ⟨(ys k).toNat, by omega⟩
          rw [hC] at hgx hxb
          have e1 : (C : Int) % (mm : Int) = ((C % mm : Nat) : Int) := by omega
          have e2 : Int.tmod (C : Int) (mm : Int) = ((C % mm : Nat) : Int) := by rw [Int.tmod_eq_emod_of_nonneg (by omega)]; exact e1
          have e3 : C % mm < mm := Nat.mod_lt _ mpos
          subst hgc
          generalize C % mm = KI at e1 e2 e3
          go_wp2
          go_meet
          exact ⟨KI, rfl, e3, rfl⟩
        · have hkr2 : ¬ (k : Int) < (rl : Int) := by omega
          go_wp2
          go_meet
          exact ⟨0, rfl, mpos, rfl⟩
      case rest =>
        obtain ⟨KI, rfl, hKI, rfl⟩ := hcut
        obtain ⟨⟨hjw, hr13, ox, lx, cx, Q, hbx, hqx, hkx, hw1⟩, hbX, hown, hLR, hat, hRl⟩ := HS.out
        have hLl : L.length = mm := by rw [← hRl, ← List.length_map (f := pcI (Ip.mk tos id df false 0 ttl proto src dst ol opts bl body)), ← hLR, List.length_map]
        have hRne : R ≠ [] := fun h => by rw [h] at hRl; simp at hRl; omega
        obtain ⟨f, hf⟩ : ∃ f, L[KI]? = some f := ⟨_, List.getElem?_eq_getElem (by omega)⟩
        obtain ⟨pc, hpc⟩ : ∃ pc, R[KI]? = some pc := ⟨_, List.getElem?_eq_getElem (by omega)⟩
        have hfp : f.p = pcI (Ip.mk tos id df false 0 ttl proto src dst ol opts bl body) pc := by
          have h1 : (L.map Fr.p)[KI]? = some f.p := by rw [List.getElem?_map, hf]; rfl
          rw [hLR, List.getElem?_map, hpc] at h1
          exact (Option.some.inj h1).symm
        have hfm := List.mem_of_getElem? hf
        have HTK := Lib.hid (fun w1 (hj : Junk wr w1) => take_pc HX.out (by have := H9.out; omega) (by have := H9.out; omega) (hqx.on hj) hkx hw1 hpc hfp ((hat f hfm).on (hjw.trans hj)))
        obtain ⟨g, hog⟩ : ∃ g, oq = some ⟨g, 0, none⟩ := by
          rcases hown.form with ⟨_, h, _⟩ | ⟨g, _, h, _⟩
          · omega
          · exact ⟨g, h⟩
        subst hog
        obtain ⟨y0, y1, y2, y3, y4, y5, y6, y7, y8, y9, y10⟩ := cells_fr hown KI f hf
        have hgl : g < wr.heap.size := own_lt hown
        have q0 : wr.cell? ⟨r13, 0, none⟩ = some (.int .i64 1000) := hbx.cell rfl
        have q1 : wr.cell? ⟨r13, 1, none⟩ = some (.int .i64 10) := hbx.cell rfl
        have q2 : wr.cell? ⟨r13, 2, none⟩ = some (.int .i64 0) := hbx.cell rfl
        have q3 : wr.cell? ⟨r13, 3, none⟩ = some (.slice ox lx cx) := hbx.cell rfl
        have s13 := hbx.lt
        have HF := Lib.hid (And.intro hjw (And.intro hr13 (And.intro hbx (And.intro hqx (And.intro hbX hown)))))
        have HL := Lib.hid (And.intro hLl (And.intro hRl (And.intro hLR hat)))
        have k2 : (KI : Int) < (mm : Int) := by omega
        have k0 : (0 : Int) ≤ (KI : Int) := by omega
        clear hjw hr13 hbx hqx hkx hw1 hbX hown hLR hat hRl hLl hRne hf hpc hfp hfm HS
        go_upto_region 29 with (fail)
        refine wp_region_mixa (wr) [(11, 31, [.int .i64 0, .int .i64 0, .int .i64 0, .slice none 0 0]), (12, 25, [.int .i64 0, .int .i64 0, .bool false, .bool false, .int .i64 0, .int .i64 0, .int .i64 0, .int .u32 0, .int .u32 0, .slice none 0 0, .slice none 0 0])] [13, 14, 15, 16] [8, 9, 10] #[true, true, true, true, true, true, true, true, true, true, true, true, true, false, false, false, false] [(0, true), (1, true), (2, true), (3, true), (4, true), (5, false), (6, true), (7, true), (8, true), (9, true), (10, true)] [(13, false), (14, false), (15, false), (16, false)] (by kernel_rfl) (by kernel_rfl) (by (exact jkc)) (by intro e he a w hj; rcases (show e = 11 ∨ e = 12 by simpa using he) with rfl | rfl <;> exact newVar_wpE rfl rfl rfl rfl (fun w => by first | rfl | kernel_rfl | simp [Instr.alloc]) a w hj) ?_; (iterate 5 (refine wpMixB_q rfl (fun K hK => ?_); (go_simp; try go_bits); (refine hK _ ?_; clear hK K))); refine wpMixB_e rfl (fun osm29_0 dm29_0 K hK => ?_); (go_simp; try go_bits); (go_at_call 10; (with_reducible refine (HTK.out _ (by (exact jkc))).mono ?_); rintro e w5 ⟨⟨os5, d5, rfl⟩, ol2, cap2, l2, Q2, y, o1, o2, c1, c2, ok, hq5, hK5, hok1, hok2, hgw5, hy5, rfl⟩; have HQ5 := Lib.hid hq5; have HY5 := Lib.hid hy5; have HK5 := Lib.hid (And.intro hK5 (And.intro hok1 (And.intro hok2 hgw5))); clear hq5 hK5 hok1 hok2 hy5 hgw5); refine hK _ _ (by first | exact jkc | assumption) ?_; clear hK K; (iterate 5 (refine wpMixB_q rfl (fun K hK => ?_); (go_simp; try go_bits); (refine hK _ ?_; clear hK K))); refine wpMixB_nil (fun osm29_1 dm29_1 => ?_); rintro _ ⟨r29_1, rfl, hr29_1, hv29_1⟩; rintro _ ⟨r29_0, rfl, hr29_0, hv29_0⟩; change wpMix _ _ _ _ _ (Act.put (Act.put _ (some 18) _) (some 17) _) _; have HV29_0 := Lib.hid (show (wr).heap.size ≤ r29_0 ∧ Box _ r29_0 31 [.int .i64 0, .int .i64 0, .int .i64 0, .slice none 0 0] from And.intro hr29_0 hv29_0); have HV29_1 := Lib.hid (show (wr).heap.size ≤ r29_1 ∧ Box _ r29_1 25 [.int .i64 0, .int .i64 0, .bool false, .bool false, .int .i64 0, .int .i64 0, .int .i64 0, .int .u32 0, .int .u32 0, .slice none 0 0, .slice none 0 0] from And.intro hr29_1 hv29_1); clear hr29_0 hv29_0; clear hr29_1 hv29_1; refine wpMix_e1 rfl rfl (fun osm29_2 dm29_2 K hK => ?_); (refine storeBox_wp 31 _ _ rfl (HV29_0.out.2.on ⟨osm29_2, dm29_2, rfl⟩) 0 #[.int .i64 1000, .int .i64 10, .int .i64 0, .slice ol2 l2 cap2] (show (Try.prog.info? 31).map (·.size) = some 4 from by kernel_rfl) rfl rfl (by simp) (by simp [Value.oneCell']) ?_; intro w6 hg6 hb6; have HJ6 := Lib.hid (below_of_grown (show Junk wr _ by (exact jkc)) hg6 (fun k hk => by cases hk; exact HV29_0.out.1)); have HX6 := Lib.hid ((HV29_1.out.2.on ⟨osm29_2, dm29_2, rfl⟩).grown hg6 (box_ne (HV29_1.out.2) (HV29_0.out.2) (by decide))); have HP6 := Lib.hid (show Box w6 r29_0 31 [.int .i64 1000, .int .i64 10, .int .i64 0, .slice ol2 l2 cap2] from hb6); have HQ6 := Lib.hid ((poolBox_nil (HV29_0.out.2.on ⟨osm29_2, dm29_2, rfl⟩)).qs (HQ5.out.on (show Junk _ _ by (exact jkc))) HK5.out.1.runs hg6); have HY6 := Lib.hid (ipAt_keep (HY5.out.on (show Junk _ _ by (exact jkc))) (box_noByte (HV29_0.out.2.on ⟨osm29_2, dm29_2, rfl⟩) rfl) hg6); clear hg6 hb6); refine hK _ _ trivial ?_; clear hK K; refine wpMix_e1 rfl rfl (fun osm29_3 dm29_3 K hK => ?_); (refine storeBox_wp 25 _ _ rfl (HX6.out.on ⟨osm29_3, dm29_3, rfl⟩) 0 #[.int .i64 y.tos, .int .i64 y.id, .bool y.df, .bool y.mf, .int .i64 y.off, .int .i64 y.ttl, .int .i64 y.proto, .int .u32 y.src, .int .u32 y.dst, .slice o1 y.ol c1, .slice o2 y.bl c2] (show (Try.prog.info? 25).map (·.size) = some 11 from by kernel_rfl) rfl rfl (by simp) (by simp [Value.oneCell']) ?_; intro w7 hg7 hb7; have HJ7 := Lib.hid (below_of_grown (HJ6.out.trans ⟨osm29_3, dm29_3, rfl⟩) hg7 (fun k hk => by cases hk; exact HV29_1.out.1)); have HX7 := Lib.hid (show Box w7 r29_1 25 [.int .i64 y.tos, .int .i64 y.id, .bool y.df, .bool y.mf, .int .i64 y.off, .int .i64 y.ttl, .int .i64 y.proto, .int .u32 y.src, .int .u32 y.dst, .slice o1 y.ol c1, .slice o2 y.bl c2] from hb7); have HP7 := Lib.hid ((HP6.out.on ⟨osm29_3, dm29_3, rfl⟩).grown hg7 (box_ne (HP6.out.on ⟨osm29_3, dm29_3, rfl⟩) (HX6.out.on ⟨osm29_3, dm29_3, rfl⟩) (by decide))); have HQ7 := Lib.hid (zip_qs (HX6.out.on ⟨osm29_3, dm29_3, rfl⟩) (HQ6.out.on ⟨osm29_3, dm29_3, rfl⟩) (fun b hb => (HK5.out.1.runs b hb).1) hg7); have HY7 := Lib.hid (ipAt_keep (HY6.out.on ⟨osm29_3, dm29_3, rfl⟩) (zip_noByte (HX6.out.on ⟨osm29_3, dm29_3, rfl⟩)) hg7); clear hg7 hb7); refine hK _ _ trivial ?_; clear hK K; refine wpMix_e rfl (fun osm29_4 dm29_4 K hK => ?_); (go_simp; try go_bits); refine hK _ _ trivial ?_; clear hK K; refine wpMix_e rfl (fun osm29_5 dm29_5 K hK => ?_); (go_simp; try go_bits); refine hK _ _ trivial ?_; clear hK K; refine wpMix_nil (fun osm dm => ?_)
        refine then_genX (fun V8 => Junk w7 V8) (by (exact jkc)) ?_
        intro w8 hj8
        have HJ8 := Lib.hid (HJ7.out.trans hj8)
        have HX8 := Lib.hid (HX7.out.on hj8)
        have HP8 := Lib.hid (HP7.out.on hj8)
        have HQ8 := Lib.hid (HQ7.out.on hj8)
        have HY8 := Lib.hid (HY7.out.on hj8)
        have HB8 := Lib.hid (HF.out.2.2.1.on HJ8.out)
        have HR29 := Lib.hid (And.intro HV29_0.out.1 HV29_1.out.1)
        clear hj8 HJ6 HX6 HP6 HQ6 HY6 HJ7 HX7 HP7 HQ7 HY7 HV29_0 HV29_1 HQ5 HY5 HTK y0 y1 y2 y3 y4 y5 y6 y7 y8 y9 y10 q0 q1 q2 q3 s13
        go_upto_region 30 with (fail)
        refine wp_region_lit ?_
        refine wpList_loadBox rfl 31 _ rfl Try.isAgg31 4 Try.sizeOf31 HP8.out 0 rfl [.int .i64 1000, .int .i64 10, .int .i64 0, .slice ol2 l2 cap2] rfl rfl ?_
        refine wpList_storeBox rfl 31 _ _ rfl HB8.out 0 #[.int .i64 1000, .int .i64 10, .int .i64 0, .slice ol2 l2 cap2] (show (Try.prog.info? 31).map (·.size) = some 4 from by kernel_rfl) rfl rfl (by simp) (by simp [Value.oneCell']) ?_
        intro w9 hg9 hb9
        have HW9 := Lib.hid (stW_put (X := (Ip.mk tos id df false 0 ttl proto src dst ol opts bl body)) (n := bl) (R2 := R.eraseIdx KI) (HF.out.1.trans HJ8.out) HF.out.2.1 HB8.out (HF.out.2.2.2.1.on HJ8.out) HQ8.out HK5.out.1 hg9 (show Box w9 r13 31 [.int .i64 1000, .int .i64 10, .int .i64 0, .slice ol2 l2 cap2] from hb9) HK5.out.2.2.2)
        have HX9 := Lib.hid ((HF.out.2.2.2.2.1.on HJ8.out).grown hg9 (box_ne (HF.out.2.2.2.2.1.on HJ8.out) HB8.out (by decide)))
        have HO9 := Lib.hid (own_keep (HF.out.2.2.2.2.2.on HJ8.out) HB8.out (by decide) hg9)
        have HZ9 := Lib.hid (HX8.out.grown hg9 (box_ne HX8.out HB8.out (by decide)))
        have HY9 := Lib.hid (ipAt_keep HY8.out (box_noByte HB8.out rfl) hg9)
        clear hg9 hb9 HP8 HQ8 HX8 HB8 HY8 HF HJ8 HR29
        go_upto_region 31 with (fail)
        go_simp
        go_cut [7] (fun sl wx => ∃ (oq2 : Option Addr) (cq2 : Nat), sl = .slice oq2 (mm - 1) cq2 ∧ Junk w9 wx ∧ Hid (Own w.heap.size wx 25 11 oq2 cq2 (mm - 1) (cellsL (L.eraseIdx KI))))
        case first =>
          have hcap := HO9.out.capLe
          have hcm : cq ≤ 9223372036854775807 := by have := hcap.2; simp only [maxLen] at this; omega
          have t1 : (KI : Int) ≤ (cq : Int) := by omega
          have t2 : (KI : Int) + 1 ≤ (mm : Int) := by omega
          have t3 : (0 : Int) ≤ (KI : Int) + 1 := by omega
          have t4 : (mm : Int) ≤ (cq : Int) := by omega
          have t5 : (KI : Int) + 1 ≤ (cq : Int) := by omega
          have pk1 := wrapk_i64 ((KI : Int) + 1) (by omega) (by omega)
          have t6 : (KI : Int) ≤ (KI : Int) + 1 := by omega
          by_cases hcK : cq = KI + 1
          · refine wp_region_mixj (w9) [(1, true), (2, true), (3, true), (5, true), (6, true), (7, true), (8, true), (0, false), (4, false), (9, false), (10, true)] (by kernel_rfl) (by kernel_rfl) (by (exact jkc)) ?_; (iterate 7 (refine wpMix_q rfl (fun K hK => ?_); (go_simp; try go_bits); (refine hK _ ?_; clear hK K))); refine wpMix_e rfl (fun osm31_0 dm31_0 K hK => ?_); (go_simp; try go_bits); refine hK _ _ (Junk.pair (by (first | exact jkc | repeat (first | with_reducible exact Junk.refl _ | with_reducible exact Junk.app _ _ _ _ _ | with_reducible apply Junk.alloc | with_reducible apply Junk.junk | with_reducible apply Junk.drew | with_reducible apply Junk.drewN | (with_reducible refine Junk.setCell ?_ (by simp) _))))) ?_; clear hK K; refine wpMix_e1 rfl rfl (fun osm31_1 dm31_1 K hK => ?_); (try simp only [World.drew_junk, World.junk_junk]); (refine ap_own_wp (W0 := w9) _ _ 28 rfl 25 (.agg #[.int .i64 0, .int .i64 0, .bool false, .bool false, .int .i64 0, .int .i64 0, .int .i64 0, .int .u32 0, .int .u32 0, .slice none 0 0, .slice none 0 0]) 11 104 (by kernel_rfl) rfl (by decide) Try.underlying28 (by (exact jkc)) _ 0 0 [] rfl ((own_litk (w9.junk osm31_0 dm31_0) 25 11 _ 0 #[] (by simp) (by simp) rfl (by decide)).on (by (exact jkc))) (some ⟨g, 0, none⟩) KI _ rfl (cellsL (L.take KI)) (by rw [cellsL_len, List.length_take, HL.out.1, Nat.min_eq_left (Nat.le_of_lt hKI)]) (fun ad had j u hu => by cases had; have h := own_src (HO9.out.on (show Junk w9 (((w9.junk osm31_0 dm31_0).alloc (.cells #[] 25)).junk osm31_1 dm31_1) by (exact jkc))) 0 _ take_src j u hu; rw [Addr.add_lit]; simpa using h) (fun h => by cases h) all_one (by simp only [maxLen]; omega) (by omega) ?_; intro oa3 cap3 os3 d3 hown3 _; rw [Nat.zero_add] at hown3 ⊢; have HO3 := Lib.hid (show Own w9.heap.size _ 25 11 oa3 cap3 KI (cellsL (L.take KI)) from hown3); clear hown3); refine hK _ _ (Junk.pair (by (first | exact jkc | repeat (first | with_reducible exact Junk.refl _ | with_reducible exact Junk.app _ _ _ _ _ | with_reducible apply Junk.alloc | with_reducible apply Junk.junk | with_reducible apply Junk.drew | with_reducible apply Junk.drewN | (with_reducible refine Junk.setCell ?_ (by simp) _))))) ?_; clear hK K; refine wpMix_e1 rfl rfl (fun osm31_2 dm31_2 K hK => ?_); (try simp only [World.drew_junk, World.junk_junk]); (refine ap_own_wp (W0 := w9) _ _ 28 rfl 25 (.agg #[.int .i64 0, .int .i64 0, .bool false, .bool false, .int .i64 0, .int .i64 0, .int .i64 0, .int .u32 0, .int .u32 0, .slice none 0 0, .slice none 0 0]) 11 104 (by kernel_rfl) rfl (by decide) Try.underlying28 (by (exact jkc)) oa3 cap3 KI _ rfl (HO3.out.on (by (exact jkc))) _ (mm - (KI + 1)) _ rfl (cellsL (L.drop (KI + 1))) (by rw [cellsL_len, List.length_drop, HL.out.1]) (fun ad had j u hu => by rw [List.drop_of_length_le (by rw [HL.out.1]; omega)] at hu; simp [cellsL_nil] at hu) (fun h => by cases h) all_one (by simp only [maxLen]; omega) (by omega) ?_; intro oa4 cap4 os4 d4 hown4 _; have HO4 := Lib.hid (show Own w9.heap.size _ 25 11 oa4 cap4 (KI + (mm - (KI + 1))) (cellsL (L.eraseIdx KI)) from by rw [← cells_cut]; exact hown4); clear hown4); refine hK _ _ (Junk.pair (by (first | exact jkc | repeat (first | with_reducible exact Junk.refl _ | with_reducible exact Junk.app _ _ _ _ _ | with_reducible apply Junk.alloc | with_reducible apply Junk.junk | with_reducible apply Junk.drew | with_reducible apply Junk.drewN | (with_reducible refine Junk.setCell ?_ (by simp) _))))) ?_; clear hK K; (iterate 1 (refine wpMix_q rfl (fun K hK => ?_); (go_simp; try go_bits); (refine hK _ ?_; clear hK K))); refine wpMix_nil (fun osm dm => ?_)
            go_wp2
            go_meet
            rw [show KI + (mm - (KI + 1)) = mm - 1 by omega] at HO4 ⊢
            exact ⟨oa4, cap4, rfl, by (exact jkc), Lib.hid ((HO4.out.lower HW9.out.1.size).on (by (exact jkc)))⟩
          · refine wp_region_mixj (w9) [(1, true), (2, true), (3, true), (5, true), (6, true), (7, true), (8, true), (0, false), (4, false), (9, false), (10, true)] (by kernel_rfl) (by kernel_rfl) (by (exact jkc)) ?_; (iterate 7 (refine wpMix_q rfl (fun K hK => ?_); (go_simp; try go_bits); (refine hK _ ?_; clear hK K))); refine wpMix_e rfl (fun osm31_0 dm31_0 K hK => ?_); (go_simp; try go_bits); refine hK _ _ (Junk.pair (by (first | exact jkc | repeat (first | with_reducible exact Junk.refl _ | with_reducible exact Junk.app _ _ _ _ _ | with_reducible apply Junk.alloc | with_reducible apply Junk.junk | with_reducible apply Junk.drew | with_reducible apply Junk.drewN | (with_reducible refine Junk.setCell ?_ (by simp) _))))) ?_; clear hK K; refine wpMix_e1 rfl rfl (fun osm31_1 dm31_1 K hK => ?_); (try simp only [World.drew_junk, World.junk_junk]); (refine ap_own_wp (W0 := w9) _ _ 28 rfl 25 (.agg #[.int .i64 0, .int .i64 0, .bool false, .bool false, .int .i64 0, .int .i64 0, .int .i64 0, .int .u32 0, .int .u32 0, .slice none 0 0, .slice none 0 0]) 11 104 (by kernel_rfl) rfl (by decide) Try.underlying28 (by (exact jkc)) _ 0 0 [] rfl ((own_litk (w9.junk osm31_0 dm31_0) 25 11 _ 0 #[] (by simp) (by simp) rfl (by decide)).on (by (exact jkc))) (some ⟨g, 0, none⟩) KI _ rfl (cellsL (L.take KI)) (by rw [cellsL_len, List.length_take, HL.out.1, Nat.min_eq_left (Nat.le_of_lt hKI)]) (fun ad had j u hu => by cases had; have h := own_src (HO9.out.on (show Junk w9 (((w9.junk osm31_0 dm31_0).alloc (.cells #[] 25)).junk osm31_1 dm31_1) by (exact jkc))) 0 _ take_src j u hu; rw [Addr.add_lit]; simpa using h) (fun h => by cases h) all_one (by simp only [maxLen]; omega) (by omega) ?_; intro oa3 cap3 os3 d3 hown3 _; rw [Nat.zero_add] at hown3 ⊢; have HO3 := Lib.hid (show Own w9.heap.size _ 25 11 oa3 cap3 KI (cellsL (L.take KI)) from hown3); clear hown3); refine hK _ _ (Junk.pair (by (first | exact jkc | repeat (first | with_reducible exact Junk.refl _ | with_reducible exact Junk.app _ _ _ _ _ | with_reducible apply Junk.alloc | with_reducible apply Junk.junk | with_reducible apply Junk.drew | with_reducible apply Junk.drewN | (with_reducible refine Junk.setCell ?_ (by simp) _))))) ?_; clear hK K; refine wpMix_e1 rfl rfl (fun osm31_2 dm31_2 K hK => ?_); (try simp only [World.drew_junk, World.junk_junk]); (refine ap_own_wp (W0 := w9) _ _ 28 rfl 25 (.agg #[.int .i64 0, .int .i64 0, .bool false, .bool false, .int .i64 0, .int .i64 0, .int .i64 0, .int .u32 0, .int .u32 0, .slice none 0 0, .slice none 0 0]) 11 104 (by kernel_rfl) rfl (by decide) Try.underlying28 (by (exact jkc)) oa3 cap3 KI _ rfl (HO3.out.on (by (exact jkc))) _ (mm - (KI + 1)) _ rfl (cellsL (L.drop (KI + 1))) (by rw [cellsL_len, List.length_drop, HL.out.1]) (fun ad had j u hu => by cases had; rw [Addr.add_lit]; exact own_src (HO9.out.on (by (exact jkc))) (KI + 1) _ drop_src j u hu) (fun h => by cases h) all_one (by simp only [maxLen]; omega) (by omega) ?_; intro oa4 cap4 os4 d4 hown4 _; have HO4 := Lib.hid (show Own w9.heap.size _ 25 11 oa4 cap4 (KI + (mm - (KI + 1))) (cellsL (L.eraseIdx KI)) from by rw [← cells_cut]; exact hown4); clear hown4); refine hK _ _ (Junk.pair (by (first | exact jkc | repeat (first | with_reducible exact Junk.refl _ | with_reducible exact Junk.app _ _ _ _ _ | with_reducible apply Junk.alloc | with_reducible apply Junk.junk | with_reducible apply Junk.drew | with_reducible apply Junk.drewN | (with_reducible refine Junk.setCell ?_ (by simp) _))))) ?_; clear hK K; (iterate 1 (refine wpMix_q rfl (fun K hK => ?_); (go_simp; try go_bits); (refine hK _ ?_; clear hK K))); refine wpMix_nil (fun osm dm => ?_)
            go_wp2
            go_meet
            rw [show KI + (mm - (KI + 1)) = mm - 1 by omega] at HO4 ⊢
            exact ⟨oa4, cap4, rfl, by (exact jkc), Lib.hid ((HO4.out.lower HW9.out.1.size).on (by (exact jkc)))⟩
        case rest =>
          obtain ⟨oq2, cq2, rfl, hj10, hO10⟩ := hcut
          have HJ10 := Lib.hid hj10
          have HLE := Lib.hid (show (R.eraseIdx KI).length = mm - 1 from by rw [List.length_eraseIdx, if_pos (by rw [HL.out.2.1]; exact hKI), HL.out.2.1])
          cases ok with
          | true =>
            obtain ⟨e1, e3⟩ := HK5.out.2.1 rfl
            have hz0 : mm - 1 = 0 := by rw [← HLE.out, e1]; rfl
            have hz1 : ((mm - 1 : Nat) : Int) = 0 := by omega
            have HZ0 := Lib.hid hz0
            clear hz0
            subst e3
            have HZB := Lib.hid (show Box wc r29_1 25 [.int .i64 tos, .int .i64 id, .bool df, .bool false, .int .i64 0, .int .i64 ttl, .int .i64 proto, .int .u32 src, .int .u32 dst, .slice o1 ol c1, .slice o2 bl c2] from HZ9.out.on hj10)
            have HXB := Lib.hid (HX9.out.on hj10)
            have HSM := Lib.hid (fun w1 (hj : Junk wc w1) => show Calls Try.prog 11 #[.agg #[.int .i64 tos, .int .i64 id, .bool df, .bool false, .int .i64 0, .int .i64 ttl, .int .i64 proto, .int .u32 src, .int .u32 dst, .slice o1 ol c1, .slice o2 bl c2], .agg #[.int .i64 tos, .int .i64 id, .bool df, .bool false, .int .i64 0, .int .i64 ttl, .int .i64 proto, .int .u32 src, .int .u32 dst, .slice oo ol oc, .slice (some ⟨b, boff, none⟩) bl bc]] w1 fun e w' => e = .returned (.bool true) ∧ Junk w1 w' from ipRSame_any (Ip.mk tos id df false 0 ttl proto src dst ol opts bl body) o1 o2 oo (some ⟨b, boff, none⟩) c1 c2 oc bc w1 (may_iff.1 HMY.out).head (HY9.out.on (hj10.trans hj)) (HP.out.on (HW9.out.1.trans (hj10.trans hj))))
            have z0 : wc.cell? ⟨r29_1, 0, none⟩ = some (.int .i64 tos) := HZB.out.cell rfl
            have z1 : wc.cell? ⟨r29_1, 1, none⟩ = some (.int .i64 id) := HZB.out.cell rfl
            have z2 : wc.cell? ⟨r29_1, 2, none⟩ = some (.bool df) := HZB.out.cell rfl
            have z3 : wc.cell? ⟨r29_1, 3, none⟩ = some (.bool false) := HZB.out.cell rfl
            have z4 : wc.cell? ⟨r29_1, 4, none⟩ = some (.int .i64 0) := HZB.out.cell rfl
            have z5 : wc.cell? ⟨r29_1, 5, none⟩ = some (.int .i64 ttl) := HZB.out.cell rfl
            have z6 : wc.cell? ⟨r29_1, 6, none⟩ = some (.int .i64 proto) := HZB.out.cell rfl
            have z7 : wc.cell? ⟨r29_1, 7, none⟩ = some (.int .u32 src) := HZB.out.cell rfl
            have z8 : wc.cell? ⟨r29_1, 8, none⟩ = some (.int .u32 dst) := HZB.out.cell rfl
            have z9 : wc.cell? ⟨r29_1, 9, none⟩ = some (.slice o1 ol c1) := HZB.out.cell rfl
            have z10 : wc.cell? ⟨r29_1, 10, none⟩ = some (.slice o2 bl c2) := HZB.out.cell rfl
            have x0 : wc.cell? ⟨r3, 0, none⟩ = some (.int .i64 tos) := HXB.out.cell rfl
            have x1 : wc.cell? ⟨r3, 1, none⟩ = some (.int .i64 id) := HXB.out.cell rfl
            have x2 : wc.cell? ⟨r3, 2, none⟩ = some (.bool df) := HXB.out.cell rfl
            have x3 : wc.cell? ⟨r3, 3, none⟩ = some (.bool false) := HXB.out.cell rfl
            have x4 : wc.cell? ⟨r3, 4, none⟩ = some (.int .i64 0) := HXB.out.cell rfl
            have x5 : wc.cell? ⟨r3, 5, none⟩ = some (.int .i64 ttl) := HXB.out.cell rfl
            have x6 : wc.cell? ⟨r3, 6, none⟩ = some (.int .i64 proto) := HXB.out.cell rfl
            have x7 : wc.cell? ⟨r3, 7, none⟩ = some (.int .u32 src) := HXB.out.cell rfl
            have x8 : wc.cell? ⟨r3, 8, none⟩ = some (.int .u32 dst) := HXB.out.cell rfl
            have x9 : wc.cell? ⟨r3, 9, none⟩ = some (.slice oo ol oc) := HXB.out.cell rfl
            have x10 : wc.cell? ⟨r3, 10, none⟩ = some (.slice (some ⟨b, boff, none⟩) bl bc) := HXB.out.cell rfl
            have sz := HZB.out.lt
            have sx := HXB.out.lt
            clear e1 hj10 HZ9
            go_wp2_with (first | (go_at_call 11; (with_reducible refine (HSM.out _ (by (exact jkc))).mono ?_); rintro e w' ⟨rfl, ⟨osj, dj, rfl⟩⟩))
            exact ⟨⟨k + 1, mm - 1, oq2, cq2, L.eraseIdx KI, R.eraseIdx KI, by first | rfl | trivial | (rw [HZ0.out]), by go_num, by omega, Lib.hid ⟨HW9.out.on (HJ10.out.trans (by (exact jkc))), HX9.out.on (HJ10.out.trans (by (exact jkc))), hO10.out.on (by (exact jkc)), by rw [map_erase2, map_erase2, HL.out.2.2.1], fun f hf => HL.out.2.2.2 f (List.mem_of_mem_eraseIdx hf), HLE.out⟩⟩, by simp [intOf]; omega⟩
          | false =>
            have hne := HK5.out.2.2.1 rfl
            have hz0 : mm - 1 ≠ 0 := fun h => hne (List.eq_nil_of_length_eq_zero (by rw [HLE.out]; exact h))
            have hz1 : (((mm - 1 : Nat) : Int) == 0) = false := by simp; omega
            clear hne hj10
            go_wp2
            exact ⟨⟨k + 1, mm - 1, oq2, cq2, L.eraseIdx KI, R.eraseIdx KI, by first | rfl | trivial | (rw [HZ0.out]), by go_num, by omega, Lib.hid ⟨HW9.out.on HJ10.out, HX9.out.on HJ10.out, hO10.out.on (by (exact jkc)), by rw [map_erase2, map_erase2, HL.out.2.2.1], fun f hf => HL.out.2.2.2 f (List.mem_of_mem_eraseIdx hf), HLE.out⟩⟩, by simp [intOf]; omega⟩
end Go.Proofs.Ytgjppmkadmfibaa
