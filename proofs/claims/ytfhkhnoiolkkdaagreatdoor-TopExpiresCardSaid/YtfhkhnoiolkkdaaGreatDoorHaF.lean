/- TopExpires, when the flow is over. -/
import Derived.Test.YtfhkhnoiolkkdaaGreatDoorGuD
import Derived.Test.YtfhkhnoiolkkdaaGreatDoorXfO
import Derived.Test.YtfhkhnoiolkkdaaGreatDoorHaB
import Derived.Test.YtfhkhnoiolkkdaaGreatDoorGzU
set_option linter.unusedVariables false
set_option maxRecDepth 100000
set_option linter.unusedSimpArgs false
namespace Go.Proofs.YtfhkhnoiolkkdaaGreatDoor
open Go.RowKit
theorem results_cell2t {P : Program} {w : World} {fn : Func} {a b c : Tmp} {ta tb : TypeId} {tmps : Array Value} {x y : Addr} {u v : Value} (h : fn.results = #[.cell a ta, .cell b tb, .tmp c]) (ha : tmps.getD a Go.undef = .pointer (some x)) (hb : tmps.getD b Go.undef = .pointer (some y)) (hl : (Go.loadVar ta x).run P w = .ok u w) (hm : (Go.loadVar tb y).run P w = .ok v w) : (results fn tmps).run P w = .ok (.tuple #[u, v, tmps.getD c Go.undef]) w := by
  simp only [Array.getD_eq_getD_getElem?] at ha hb
  simp [results, h, ha, hb, Go.asAddr, hl, hm, Result.andThen]
theorem bts_non (w : World) (xs : Nat → Int) : Bts w none 0 0 xs := ⟨fun i hi => by omega, fun i hi => by omega, fun _ => ⟨rfl, rfl⟩, Nat.le_refl _, Nat.zero_le _⟩
theorem ud_p {T src dst sp dp : Int} {body : Nat → Int} {l : Nat} (h1 : 0 ≤ src ∧ src ≤ 4294967295) (h2 : 0 ≤ dst ∧ dst ≤ 4294967295) (hs : 0 ≤ sp ∧ sp ≤ 65535) (hd : 0 ≤ dp ∧ dp ≤ 65535) (hl : 8 + l ≤ 65535) (hb : ∀ i, i < l → 0 ≤ body i ∧ body i ≤ 255) :
    UdP (Pk T src dst (8 + l) (udOf src dst sp dp body l)) sp dp := by
  have hS := udSum_bd h1 h2 hs hd hl hb
  have hsz : uSize (udOf src dst sp dp body l) = 8 + l := by
    show (((8 + l : Nat) : Int) / 256 * 256 + ((8 + l : Nat) : Int) % 256).toNat = 8 + l
    omega
  refine ⟨rfl, rfl, rfl, ?_, ?_, ⟨h1, h2, udOf_byte h1 h2 hs hd hl hb⟩, ?_, ?_⟩
  · show udpErr src dst (udOf src dst sp dp body l) (8 + l) = 0
    unfold udpErr
    rw [if_neg (by omega), hsz, if_neg (by omega), udOf_sum h1 h2 hs hd hl hb, if_neg (by simp)]
  · show ¬ (udSum src dst sp dp body l / 256 * 256 + udSum src dst sp dp body l % 256 = 0)
    omega
  · show sp / 256 * 256 + sp % 256 = sp
    omega
  · show dp / 256 * 256 + dp % 256 = dp
    omega
set_option maxHeartbeats 1000000 in
theorem datagram_any (src dst sp dp : Int) (oa : Option Addr) (l ca : Nat) (body : Nat → Int) (w : World) (h1 : 0 ≤ src ∧ src ≤ 4294967295) (h2 : 0 ≤ dst ∧ dst ≤ 4294967295) (hs : 0 ≤ sp ∧ sp ≤ 65535) (hd : 0 ≤ dp ∧ dp ≤ 65535) (hl : l ≤ 900) (hB : Bts w oa l ca body) :
    Calls Tryz.prog 8 #[.int .u32 src, .int .u32 dst, .int .i64 sp, .int .i64 dp, .slice oa l ca, .int .i64 64] w fun e w' => ∃ (o : Option Addr) (c : Nat), e = .returned (.tuple #[.slice o (20 + (8 + l)) c, .bool true]) ∧ Junk w w' ∧ Bts w' o (20 + (8 + l)) c (pktB (Pk 64 src dst (8 + l) (udOf src dst sp dp body l))) := by
  have HU := Lib.hid (fun w1 (hj : Junk w w1) => uput_any src dst sp dp oa l ca body w1 h1 h2 hs hd (by omega) (hB.on hj))
  have HP := Lib.hid (fun ob cb w1 hb => pk_put 64 src dst (8 + l) (udOf src dst sp dp body l) none ob 0 cb w1 (by decide) (by omega) ⟨bts_non _ _, hb, h1, h2⟩)
  clear h1 h2 hs hd hB
  go_enter Tryz.func8, Tryz.ntmps8
  go_wp2_with (first
    | (go_at_call 27; (with_reducible refine (HU.out _ (by (exact jkc))).mono ?_); rintro e w1 ⟨ob, cb, rfl, ⟨os1, d1, rfl⟩, hb⟩; have HB := Lib.hid hb; clear hb)
    | (go_at_call 28; (with_reducible refine (HP.out ob cb _ (HB.out.on (by (exact jkc)))).mono ?_); rintro e w2 ⟨o, c, rfl, ⟨os2, d2, rfl⟩, hp, -⟩; have HQ := Lib.hid hp; clear hp))
  go_returns
  exact ⟨o, c, rfl, by (exact jkc), HQ.out.on (by (exact jkc))⟩
theorem first_any (n cn : Nat) (z : Int) (o : Option Addr) (l c : Nat) (w : World) (h : Own 0 w 70 2 (some ⟨n, 0, none⟩) cn 1 [.int .i64 z, .slice o l c]) :
    Calls Tryz.prog 11 #[.slice (some ⟨n, 0, none⟩) 1 cn] w fun e w' => e = .returned (.slice o l c) ∧ Junk w w' := by
  obtain ⟨g', h1, -, hn, hc, -⟩ := h.cells 1 _ rfl
  cases h1
  clear h
  go_enter Tryz.func11, Tryz.ntmps11
  go_wp2
  go_ret
  exact ⟨rfl, by (exact jkc)⟩
structure WhE (w V : World) (p t : Nat) (L M : List Value) : Prop where
  b0 : Bxn V w.heap.size 36 11
  b1 : Bxn V (w.heap.size + 1) 38 5
  b2 : Box V p 36 L
  b3 : Box V t 38 M
  lp : w.heap.size + 1 < p
  lt : w.heap.size + 1 < t
  j : Junk w V
section
variable {w V V' : World} {p t : Nat} {L M : List Value}
theorem WhE.on (h : WhE w V p t L M) (j : Junk V V') : WhE w V' p t L M := ⟨h.b0.on j, h.b1.on j, h.b2.on j, h.b3.on j, h.lp, h.lt, h.j.trans j⟩
theorem WhE.set0 (h : WhE w V p t L M) (hg : V.grownBy V' (some w.heap.size)) {l : List Value} (hb : Box V' w.heap.size 36 l) (hl : l.length = 11) : WhE w V' p t L M :=
  ⟨⟨l, hb, hl⟩, h.b1.grown hg (by simp), h.b2.grown hg (by have := h.lp; simp; omega), h.b3.grown hg (by have := h.lt; simp; omega), h.lp, h.lt, below_of_grown h.j hg (fun k hk => by cases hk; omega)⟩
theorem WhE.set1 (h : WhE w V p t L M) (hg : V.grownBy V' (some (w.heap.size + 1))) {l : List Value} (hb : Box V' (w.heap.size + 1) 38 l) (hl : l.length = 5) : WhE w V' p t L M :=
  ⟨h.b0.grown hg (by simp), ⟨l, hb, hl⟩, h.b2.grown hg (by have := h.lp; simp; omega), h.b3.grown hg (by have := h.lt; simp; omega), h.lp, h.lt, below_of_grown h.j hg (fun k hk => by cases hk; omega)⟩
end
set_option maxHeartbeats 2000000 in
theorem whole_any (T src dst : Int) (bl : Nat) (body : Nat → Int) (s d : Int) (o : Option Addr) (c : Nat) (w : World) (hT : 0 ≤ T ∧ T ≤ 255) (hb : bl ≤ 1000) (hU : UdP (Pk T src dst bl body) s d) (hB : Bts w o (20 + bl) c (pktB (Pk T src dst bl body))) :
    Calls Tryz.prog 10 #[.slice o ((20 + bl : Nat)) c] w fun e w' => ∃ (oo ob : Option Addr) (oc bc : Nat), e = .returned (.tuple #[pkV T src dst bl oo ob oc bc, .agg #[.int .i64 17, .int .u32 src, .int .i64 s, .int .u32 dst, .int .i64 d], .bool true]) ∧ Junk w w' := by
  have HP := Lib.hid (fun w1 (hj : Junk w w1) => pk_parse T src dst bl body o c w1 hT hb hU.w.src hU.w.dst hU.w.body (hB.on hj))
  have HO := Lib.hid (fun oo ob oc bc w1 h => pk_of T src dst bl body s d oo ob oc bc w1 hU hb h)
  clear hU hB hT
  go_enter Tryz.func10, Tryz.ntmps10
  go_upto_region 3 with (first
    | (go_at_call 29; (with_reducible refine (HP.out _ (by (exact jkc))).mono ?_); rintro e w1 ⟨oo, ob, oc, bc, rfl, ⟨os1, d1, rfl⟩, hb⟩; have HB := Lib.hid hb; clear hb)
    | (go_at_call 32; (with_reducible refine (HO.out oo ob oc bc _ (HB.out.on (by (exact jkc)))).mono ?_); rintro e w2 ⟨rfl, ⟨os2, d2, rfl⟩⟩))
  obtain ⟨p, hp⟩ : ∃ p, w.heap.size + 1 + 1 + os1.size = p := ⟨_, rfl⟩
  rw [hp]
  obtain ⟨t, ht⟩ : ∃ t, p + 1 + os2.size = t := ⟨_, rfl⟩
  rw [ht]
  refine wp_keep (fun V => WhE w V p t [.int .i64 0, .int .i64 0, .bool false, .bool false, .int .i64 0, .int .i64 T, .int .i64 17, .int .u32 src, .int .u32 dst, .slice oo 0 oc, .slice ob bl bc] [.int .i64 17, .int .u32 src, .int .i64 s, .int .u32 dst, .int .i64 d]) ⟨⟨_, (box_at' (V := w) (cs := #[.int .i64 0, .int .i64 0, .bool false, .bool false, .int .i64 0, .int .i64 0, .int .i64 0, .int .u32 0, .int .u32 0, .slice none 0 0, .slice none 0 0]) rfl rfl).on (by (exact jkc)), rfl⟩, ⟨_, (box_at' (V := w.alloc (.cells #[.int .i64 0, .int .i64 0, .bool false, .bool false, .int .i64 0, .int .i64 0, .int .i64 0, .int .u32 0, .int .u32 0, .slice none 0 0, .slice none 0 0] 36)) (cs := #[.int .i64 0, .int .u32 0, .int .i64 0, .int .u32 0, .int .i64 0]) (by simp) rfl).on (by (exact jkc)), rfl⟩, (box_at' (V := ((w.alloc (.cells #[.int .i64 0, .int .i64 0, .bool false, .bool false, .int .i64 0, .int .i64 0, .int .i64 0, .int .u32 0, .int .u32 0, .slice none 0 0, .slice none 0 0] 36)).alloc (.cells #[.int .i64 0, .int .u32 0, .int .i64 0, .int .u32 0, .int .i64 0] 38)).junk os1 d1) (cs := #[.int .i64 0, .int .i64 0, .bool false, .bool false, .int .i64 0, .int .i64 T, .int .i64 17, .int .u32 src, .int .u32 dst, .slice oo 0 oc, .slice ob bl bc]) (by rw [← hp]; simp) rfl).on (by (exact jkc)), box_at' (by rw [← ht, ← hp]; simp) rfl, by omega, by omega, by (exact jkc)⟩ ?_
  intro V hV
  have HV := Lib.hid hV
  clear HP HO HB hp ht
  haveI hne : Nonempty (PW (fun V => WhE w V p t [.int .i64 0, .int .i64 0, .bool false, .bool false, .int .i64 0, .int .i64 T, .int .i64 17, .int .u32 src, .int .u32 dst, .slice oo 0 oc, .slice ob bl bc] [.int .i64 17, .int .u32 src, .int .i64 s, .int .u32 dst, .int .i64 d])) := ⟨⟨V, hV⟩⟩
  have ki0 : ∀ x : PW (fun V => WhE w V p t [.int .i64 0, .int .i64 0, .bool false, .bool false, .int .i64 0, .int .i64 T, .int .i64 17, .int .u32 src, .int .u32 dst, .slice oo 0 oc, .slice ob bl bc] [.int .i64 17, .int .u32 src, .int .i64 s, .int .u32 dst, .int .i64 d]), x.V.cell? ⟨p, 0, none⟩ = some (.int .i64 0) := fun x => x.h.b2.cell rfl
  have ki1 : ∀ x : PW (fun V => WhE w V p t [.int .i64 0, .int .i64 0, .bool false, .bool false, .int .i64 0, .int .i64 T, .int .i64 17, .int .u32 src, .int .u32 dst, .slice oo 0 oc, .slice ob bl bc] [.int .i64 17, .int .u32 src, .int .i64 s, .int .u32 dst, .int .i64 d]), x.V.cell? ⟨p, 1, none⟩ = some (.int .i64 0) := fun x => x.h.b2.cell rfl
  have ki2 : ∀ x : PW (fun V => WhE w V p t [.int .i64 0, .int .i64 0, .bool false, .bool false, .int .i64 0, .int .i64 T, .int .i64 17, .int .u32 src, .int .u32 dst, .slice oo 0 oc, .slice ob bl bc] [.int .i64 17, .int .u32 src, .int .i64 s, .int .u32 dst, .int .i64 d]), x.V.cell? ⟨p, 2, none⟩ = some (.bool false) := fun x => x.h.b2.cell rfl
  have ki3 : ∀ x : PW (fun V => WhE w V p t [.int .i64 0, .int .i64 0, .bool false, .bool false, .int .i64 0, .int .i64 T, .int .i64 17, .int .u32 src, .int .u32 dst, .slice oo 0 oc, .slice ob bl bc] [.int .i64 17, .int .u32 src, .int .i64 s, .int .u32 dst, .int .i64 d]), x.V.cell? ⟨p, 3, none⟩ = some (.bool false) := fun x => x.h.b2.cell rfl
  have ki4 : ∀ x : PW (fun V => WhE w V p t [.int .i64 0, .int .i64 0, .bool false, .bool false, .int .i64 0, .int .i64 T, .int .i64 17, .int .u32 src, .int .u32 dst, .slice oo 0 oc, .slice ob bl bc] [.int .i64 17, .int .u32 src, .int .i64 s, .int .u32 dst, .int .i64 d]), x.V.cell? ⟨p, 4, none⟩ = some (.int .i64 0) := fun x => x.h.b2.cell rfl
  have ki5 : ∀ x : PW (fun V => WhE w V p t [.int .i64 0, .int .i64 0, .bool false, .bool false, .int .i64 0, .int .i64 T, .int .i64 17, .int .u32 src, .int .u32 dst, .slice oo 0 oc, .slice ob bl bc] [.int .i64 17, .int .u32 src, .int .i64 s, .int .u32 dst, .int .i64 d]), x.V.cell? ⟨p, 5, none⟩ = some (.int .i64 T) := fun x => x.h.b2.cell rfl
  have ki6 : ∀ x : PW (fun V => WhE w V p t [.int .i64 0, .int .i64 0, .bool false, .bool false, .int .i64 0, .int .i64 T, .int .i64 17, .int .u32 src, .int .u32 dst, .slice oo 0 oc, .slice ob bl bc] [.int .i64 17, .int .u32 src, .int .i64 s, .int .u32 dst, .int .i64 d]), x.V.cell? ⟨p, 6, none⟩ = some (.int .i64 17) := fun x => x.h.b2.cell rfl
  have ki7 : ∀ x : PW (fun V => WhE w V p t [.int .i64 0, .int .i64 0, .bool false, .bool false, .int .i64 0, .int .i64 T, .int .i64 17, .int .u32 src, .int .u32 dst, .slice oo 0 oc, .slice ob bl bc] [.int .i64 17, .int .u32 src, .int .i64 s, .int .u32 dst, .int .i64 d]), x.V.cell? ⟨p, 7, none⟩ = some (.int .u32 src) := fun x => x.h.b2.cell rfl
  have ki8 : ∀ x : PW (fun V => WhE w V p t [.int .i64 0, .int .i64 0, .bool false, .bool false, .int .i64 0, .int .i64 T, .int .i64 17, .int .u32 src, .int .u32 dst, .slice oo 0 oc, .slice ob bl bc] [.int .i64 17, .int .u32 src, .int .i64 s, .int .u32 dst, .int .i64 d]), x.V.cell? ⟨p, 8, none⟩ = some (.int .u32 dst) := fun x => x.h.b2.cell rfl
  have ki9 : ∀ x : PW (fun V => WhE w V p t [.int .i64 0, .int .i64 0, .bool false, .bool false, .int .i64 0, .int .i64 T, .int .i64 17, .int .u32 src, .int .u32 dst, .slice oo 0 oc, .slice ob bl bc] [.int .i64 17, .int .u32 src, .int .i64 s, .int .u32 dst, .int .i64 d]), x.V.cell? ⟨p, 9, none⟩ = some (.slice oo 0 oc) := fun x => x.h.b2.cell rfl
  have ki10 : ∀ x : PW (fun V => WhE w V p t [.int .i64 0, .int .i64 0, .bool false, .bool false, .int .i64 0, .int .i64 T, .int .i64 17, .int .u32 src, .int .u32 dst, .slice oo 0 oc, .slice ob bl bc] [.int .i64 17, .int .u32 src, .int .i64 s, .int .u32 dst, .int .i64 d]), x.V.cell? ⟨p, 10, none⟩ = some (.slice ob bl bc) := fun x => x.h.b2.cell rfl
  have kt0 : ∀ x : PW (fun V => WhE w V p t [.int .i64 0, .int .i64 0, .bool false, .bool false, .int .i64 0, .int .i64 T, .int .i64 17, .int .u32 src, .int .u32 dst, .slice oo 0 oc, .slice ob bl bc] [.int .i64 17, .int .u32 src, .int .i64 s, .int .u32 dst, .int .i64 d]), x.V.cell? ⟨t, 0, none⟩ = some (.int .i64 17) := fun x => x.h.b3.cell rfl
  have kt1 : ∀ x : PW (fun V => WhE w V p t [.int .i64 0, .int .i64 0, .bool false, .bool false, .int .i64 0, .int .i64 T, .int .i64 17, .int .u32 src, .int .u32 dst, .slice oo 0 oc, .slice ob bl bc] [.int .i64 17, .int .u32 src, .int .i64 s, .int .u32 dst, .int .i64 d]), x.V.cell? ⟨t, 1, none⟩ = some (.int .u32 src) := fun x => x.h.b3.cell rfl
  have kt2 : ∀ x : PW (fun V => WhE w V p t [.int .i64 0, .int .i64 0, .bool false, .bool false, .int .i64 0, .int .i64 T, .int .i64 17, .int .u32 src, .int .u32 dst, .slice oo 0 oc, .slice ob bl bc] [.int .i64 17, .int .u32 src, .int .i64 s, .int .u32 dst, .int .i64 d]), x.V.cell? ⟨t, 2, none⟩ = some (.int .i64 s) := fun x => x.h.b3.cell rfl
  have kt3 : ∀ x : PW (fun V => WhE w V p t [.int .i64 0, .int .i64 0, .bool false, .bool false, .int .i64 0, .int .i64 T, .int .i64 17, .int .u32 src, .int .u32 dst, .slice oo 0 oc, .slice ob bl bc] [.int .i64 17, .int .u32 src, .int .i64 s, .int .u32 dst, .int .i64 d]), x.V.cell? ⟨t, 3, none⟩ = some (.int .u32 dst) := fun x => x.h.b3.cell rfl
  have kt4 : ∀ x : PW (fun V => WhE w V p t [.int .i64 0, .int .i64 0, .bool false, .bool false, .int .i64 0, .int .i64 T, .int .i64 17, .int .u32 src, .int .u32 dst, .slice oo 0 oc, .slice ob bl bc] [.int .i64 17, .int .u32 src, .int .i64 s, .int .u32 dst, .int .i64 d]), x.V.cell? ⟨t, 4, none⟩ = some (.int .i64 d) := fun x => x.h.b3.cell rfl
  have ks0 : ∀ x : PW (fun V => WhE w V p t [.int .i64 0, .int .i64 0, .bool false, .bool false, .int .i64 0, .int .i64 T, .int .i64 17, .int .u32 src, .int .u32 dst, .slice oo 0 oc, .slice ob bl bc] [.int .i64 17, .int .u32 src, .int .i64 s, .int .u32 dst, .int .i64 d]), p < x.V.heap.size := fun x => x.h.b2.lt
  have ks1 : ∀ x : PW (fun V => WhE w V p t [.int .i64 0, .int .i64 0, .bool false, .bool false, .int .i64 0, .int .i64 T, .int .i64 17, .int .u32 src, .int .u32 dst, .slice oo 0 oc, .slice ob bl bc] [.int .i64 17, .int .u32 src, .int .i64 s, .int .u32 dst, .int .i64 d]), t < x.V.heap.size := fun x => x.h.b3.lt
  clear hV
  refine wp_region_mixp (fun V => WhE w V p t [.int .i64 0, .int .i64 0, .bool false, .bool false, .int .i64 0, .int .i64 T, .int .i64 17, .int .u32 src, .int .u32 dst, .slice oo 0 oc, .slice ob bl bc] [.int .i64 17, .int .u32 src, .int .i64 s, .int .u32 dst, .int .i64 d]) (fun _ _ h hj => h.on hj) [(0, true), (1, true), (2, true), (3, true), (4, true), (5, true), (6, true), (7, true), (8, false), (9, false), (10, true)] (by kernel_rfl) (by kernel_rfl) (HV.out) ?_; (iterate 8 (refine wpMix_q rfl (fun K hK => ?_); (go_simp; try go_bits); (refine hK _ ?_; clear hK K))); refine wpMix_e1 rfl rfl (fun osm3_0 dm3_0 K hK => ?_); (obtain ⟨cz, hz1, hz2⟩ := (HV.out.on (show Junk V (V.drew.junk osm3_0 dm3_0) by (exact jkc))).b0; refine storeBox_wp 36 _ _ rfl hz1 0 #[.int .i64 0, .int .i64 0, .bool false, .bool false, .int .i64 0, .int .i64 T, .int .i64 17, .int .u32 src, .int .u32 dst, .slice oo 0 oc, .slice ob bl bc] (show (Tryz.prog.info? 36).map (·.size) = some 11 from by kernel_rfl) rfl rfl (by rw [hz2]; exact Nat.le_refl 11) (by simp [Value.oneCell']) ?_; intro w9 hg9 hb9; have hb99 := all_boxL hb9 hz2; have HG9 := Lib.hid (And.intro ((HV.out.on (show Junk V (V.drew.junk osm3_0 dm3_0) by (exact jkc))).set0 hg9 hb99 rfl) hb99); clear hz1 hz2 hg9 hb9 hb99); refine hK _ _ (⟨⟨_, by first | exact HG9.out.1 | exact HG10.out.1⟩, rfl⟩) ?_; clear hK K; refine wpMix_e1 rfl rfl (fun osm3_1 dm3_1 K hK => ?_); (obtain ⟨cz, hz1, hz2⟩ := (HG9.out.1.on (show Junk w9 (w9.junk osm3_1 dm3_1) by (exact jkc))).b1; refine storeBox_wp 38 _ _ rfl hz1 0 #[.int .i64 17, .int .u32 src, .int .i64 s, .int .u32 dst, .int .i64 d] (show (Tryz.prog.info? 38).map (·.size) = some 5 from by kernel_rfl) rfl rfl (by rw [hz2]; exact Nat.le_refl 5) (by simp [Value.oneCell']) ?_; intro w10 hg10 hb10; have hb99 := all_boxL hb10 hz2; have HG10 := Lib.hid (And.intro ((HG9.out.1.on (show Junk w9 (w9.junk osm3_1 dm3_1) by (exact jkc))).set1 hg10 hb99 rfl) (And.intro hb99 ((HG9.out.2.on (show Junk w9 (w9.junk osm3_1 dm3_1) by (exact jkc))).grown hg10 (by simp)))); clear hz1 hz2 hg10 hb10 hb99); refine hK _ _ (⟨⟨_, by first | exact HG9.out.1 | exact HG10.out.1⟩, rfl⟩) ?_; clear hK K; (iterate 1 (refine wpMix_q rfl (fun K hK => ?_); (go_simp; try go_bits); (refine hK _ ?_; clear hK K))); refine wpMix_nil (fun osm dm => ?_)
  go_wp2
  refine bodyPost_ret (results_cell2t Tryz.results10 rfl rfl ((HG10.out.2.2.on (by (exact jkc))).loadVar 36 Tryz.isAgg36 Tryz.sizeOf36) ((HG10.out.2.1.on (by (exact jkc))).loadVar 38 Tryz.isAgg38 Tryz.sizeOf38)) rfl ?_
  exact ⟨⟨oo, ob, oc, bc, rfl⟩, (HG10.out.1.on (by (exact jkc))).j⟩
end Go.Proofs.YtfhkhnoiolkkdaaGreatDoor
set_option linter.unusedVariables false
set_option maxRecDepth 100000
set_option linter.unusedSimpArgs false
namespace Go.Proofs.YtfhkhnoiolkkdaaGreatDoor
open Go.RowKit
set_option maxHeartbeats 4000000 in
theorem world_any (w : World) : Calls Tryz.prog 25 #[.bool false] w fun e w' => ∃ rb rc ub uc, e = .returned (.agg #[.slice (some ⟨rb, 0, none⟩) 2 rc, .slice (some ⟨ub, 0, none⟩) 1 uc, .int .i64 0, .int .u32 3405803785, .int .i64 5000, .int .i64 5100, .slice none 0 0, .int .i64 1000, .int .i64 100, .int .i64 5]) ∧ Junk w w' ∧ Own 0 w' 139 4 (some ⟨rb, 0, none⟩) rc 2 roL ∧ Own 0 w' 141 10 (some ⟨ub, 0, none⟩) uc 1 ruL := by
  go_enter Tryz.func25, Tryz.ntmps25
  go_wp2
  go_returns
  refine ⟨_, _, _, _, rfl, by (exact jkc), box_own (n := 2) ?_ rfl (by decide), box_own (n := 1) ?_ rfl (by decide)⟩
  · first | exact box_mid1 rfl | exact (box_mid1 rfl).on (by (exact jkc))
  · first | exact box_mid2 rfl | exact (box_mid2 rfl).on (by (exact jkc))
end Go.Proofs.YtfhkhnoiolkkdaaGreatDoor
set_option linter.unusedVariables false
set_option maxRecDepth 100000
set_option linter.unusedSimpArgs false
namespace Go.Proofs.YtfhkhnoiolkkdaaGreatDoor
open Go.RowKit
set_option maxHeartbeats 4000000 in
theorem begun_any (w : World) : Calls Tryz.prog 7 #[.bool false] w fun e w' => ∃ g q, e = .returned (.tuple #[.pointer (some ⟨g.G, 0, none⟩), .bool true]) ∧ GE w.heap.size w' g 0 none 0 q none 0 ∧ Junk w w' := by
  have HB3 := Lib.hid (fun V : World => show Bts (V.alloc (.cells #[.int .u8 1, .int .u8 2, .int .u8 3] 5)) (some ⟨V.heap.size, 0, none⟩) 3 3 (fun i => [1, 2, 3].getD i 0) from bts_cells (cs := [.int .u8 1, .int .u8 2, .int .u8 3]) (box_at' (V := V) rfl rfl) (fun i hi => by rcases i with _ | _ | _ | i; rfl; rfl; rfl; omega) (fun i hi => by rcases i with _ | _ | _ | i; decide; decide; decide; omega) (by decide))
  go_enter Tryz.func7, Tryz.ntmps7
  go_upto_region 2 with (first | (go_at_call 22; (with_reducible refine (gnew_any _).mono ?_); rintro e w1 ⟨G, rfl, ⟨os1, d1, rfl⟩, hl, hb⟩; have H1 := Lib.hid (And.intro hl hb); clear hl hb))
  refine wp_keep (fun X => Junk w X ∧ Box X G 100 gz) ⟨by (exact jkc), H1.out.2.on (by (exact jkc))⟩ ?_
  intro X ⟨hj, hb⟩
  have H2 := Lib.hid (And.intro H1.out.1 (And.intro hj hb))
  clear H1 hj hb
  go_wp2_with (first
    | (go_at_call 25; (with_reducible refine (world_any _).mono ?_); rintro e w1 ⟨rb, rc, ub, uc, rfl, ⟨os2, d2, rfl⟩, hr, hu⟩; have HRU := Lib.hid (And.intro hr hu); clear hr hu)
    | (go_at_call 23; (with_reducible refine (gsetup_any G rb rc ub uc _ (H2.out.2.2.on (by (exact jkc))) (HRU.out.1.on (by (exact jkc))) (HRU.out.2.on (by (exact jkc)))).mono ?_); rintro e w2 ⟨rfl, g, q, q0, q1, q2, q3, q4, hg, ht⟩; obtain rfl := q0; have H3 := Lib.hid (And.intro q1 (And.intro q2 (And.intro q3 (And.intro hg ht)))); clear q1 q2 q3 q4 hg ht)
    | (go_at_call 26; (with_reducible refine (gkey_any g.G g q _ _ (fun i => [1, 2, 3].getD i 0) _ (H3.out.2.2.2.1.on (by (exact jkc))) H3.out.1 H3.out.2.1 H3.out.2.2.1 (HB3.out _)).mono ?_); rintro e w4 ⟨rfl, g', q0, hg, ht⟩; have H4 := Lib.hid (And.intro q0 (And.intro hg ht)); clear q0 hg ht))
  go_returns
  have T : Tch (fun k => k = g.G) X w4 := ((Tch.of_junk (show Junk X (X.junk os2 d2) by (exact jkc))).trans H3.out.2.2.2.2).trans ((Tch.of_junk (by (exact jkc))).trans H4.out.2.2)
  refine ⟨g', q, by rw [H4.out.1]; rfl, H4.out.2.1.lower H2.out.1, ((Tch.of_junk (L := fun _ => False) H2.out.2.1).then T (fun i hi e => by have e : i = g.G := e; have := H2.out.1; omega)).junk⟩
end Go.Proofs.YtfhkhnoiolkkdaaGreatDoor
set_option linter.unusedVariables false
set_option maxRecDepth 100000
set_option linter.unusedSimpArgs false
namespace Go.Proofs.YtfhkhnoiolkkdaaGreatDoor
open Go.RowKit
theorem bts_one (x : Int) (hx : 0 ≤ x ∧ x ≤ 255) (V : World) : Bts (V.alloc (.cells #[.int .u8 x] 5)) (some ⟨V.heap.size, 0, none⟩) 1 1 (fun _ => x) :=
  bts_cells (cs := [.int .u8 x]) (box_at' (V := V) rfl rfl) (fun i hi => by obtain rfl : i = 0 := (by omega); rfl) (fun i hi => hx) (by decide)
theorem dg_any (src dst sp dp : Int) (l ca : Nat) (body : Nat → Int) (hl : l ≤ 1) (h1 : 0 ≤ src ∧ src ≤ 4294967295) (h2 : 0 ≤ dst ∧ dst ≤ 4294967295) (hs : 0 ≤ sp ∧ sp ≤ 65535) (hd : 0 ≤ dp ∧ dp ≤ 65535) (hb : ∀ i, i < l → 0 ≤ body i ∧ body i ≤ 255) (n : Nat) (hn : 8 + l = n) :
    ∃ D : Nat → Int, UdP (Pk 64 src dst n D) sp dp ∧ ∀ oa (w : World), Bts w oa l ca body → Calls Tryz.prog 8 #[.int .u32 src, .int .u32 dst, .int .i64 sp, .int .i64 dp, .slice oa l ca, .int .i64 64] w fun e w' => ∃ (o : Option Addr) (c : Nat), e = .returned (.tuple #[.slice o (20 + n) c, .bool true]) ∧ Junk w w' ∧ Bts w' o (20 + n) c (pktB (Pk 64 src dst n D)) := by
  subst hn
  exact ⟨_, ud_p h1 h2 hs hd (by omega) hb, fun oa w hB => datagram_any src dst sp dp oa l ca body w h1 h2 hs hd (by omega) hB⟩
set_option maxHeartbeats 4000000 in
theorem works_any (w : World) : Calls Tryz.prog 6 #[] w fun e w' => e = .returned (.bool true) ∧ Junk w w' := by
  obtain ⟨D1, hU1, hD1⟩ := dg_any 167772161 134744072 5001 53 1 1 (fun _ => 7) (by decide) (by decide) (by decide) (by decide) (by decide) (fun _ _ => by decide) 9 rfl
  obtain ⟨D2, hU2, hD2⟩ := dg_any 134744072 3405803785 53 5001 1 1 (fun _ => 8) (by decide) (by decide) (by decide) (by decide) (by decide) (fun _ _ => by decide) 9 rfl
  have HD1 := Lib.hid hD1
  have HD2 := Lib.hid hD2
  have HU := Lib.hid (And.intro hU1 hU2)
  clear hU1 hD1 hU2 hD2
  go_enter Tryz.func6, Tryz.ntmps6
  go_upto_region 4 with (first | (go_at_call 7; (with_reducible refine (begun_any _).mono ?_); rintro e w1 ⟨g, q, rfl, hg, ⟨os1, d1, rfl⟩⟩; have HG := Lib.hid hg; clear hg))
  refine wp_keep (fun X => Junk w X ∧ GE w.heap.size X g 0 none 0 q none 0) ⟨by (exact jkc), HG.out.on (by (exact jkc))⟩ ?_
  intro X hX
  have H1 := Lib.hid hX
  clear HG hX
  go_upto_region 5 with (first | (go_at_call 8; (with_reducible refine (HD1.out _ _ (bts_one 7 (by decide) _)).mono ?_); rintro e w1 ⟨o1, c1, rfl, ⟨os2, d2, rfl⟩, hb⟩; have HB := Lib.hid hb; clear hb))
  refine wp_keep (fun Y => Junk X Y ∧ Bts Y o1 29 c1 (pktB (Pk 64 167772161 134744072 9 D1))) ⟨by (exact jkc), HB.out.on (by (exact jkc))⟩ ?_
  intro Y hY
  have H2 := Lib.hid hY
  have HF1 := Lib.hid (fun (w1 : World) (hj : Junk Y w1) => show Calls Tryz.prog 9 #[.pointer (some ⟨g.G, 0, none⟩), .int .i64 1, .slice o1 29 c1, .int .u32 0] w1 _ from frame_out w.heap.size g 0 q 5001 53 9 D1 o1 c1 w1 (H1.out.2.on (hY.1.trans hj)) (hY.2.on hj) HU.out.1 (by decide) (by decide) (by have := H1.out.1.size; have := hY.1.size; have := hj.size; omega))
  clear hY HB
  go_upto_region 6 with (first | (go_at_call 9; (with_reducible refine (HF1.out _ (by (exact jkc))).mono ?_); rintro e w3 ⟨on, n, c, rfl, nb, lb, lc, q', P, oy, cy, rfl, rfl, hg, ho, ht⟩; obtain rfl : P = 5001 := hg.pt.2 (show (5000 : Int) ≤ 5001 ∧ (5001 : Int) ≤ 5100 by decide); have H3 := Lib.hid (And.intro hg ht); clear hg ho ht))
  refine wp_keep (fun Z => GF w.heap.size Z g 0 lb lc q' ⟨⟨17, 167772161, 5001, 134744072, 53⟩, ⟨17, 134744072, 53, 3405803785, 5001⟩, 0 + 100, 0⟩ 5001 ∧ Tch (fun k => w.heap.size ≤ k) w Z) ⟨H3.out.1.on (by (exact jkc)), ((Tch.of_junk (H1.out.1.trans (H2.out.1.trans (by (exact jkc))))).trans H3.out.2).on (by (exact jkc))⟩ ?_
  intro Z hZ
  have H4 := Lib.hid hZ
  clear hZ H1 H2 H3 HF1
  go_upto_region 7 with (first | (go_at_call 8; (with_reducible refine (HD2.out _ _ (bts_one 8 (by decide) _)).mono ?_); rintro e w1 ⟨o2, c2, rfl, ⟨os4, d4, rfl⟩, hb⟩; have HB := Lib.hid hb; clear hb))
  refine wp_keep (fun Y => Junk Z Y ∧ Bts Y o2 29 c2 (pktB (Pk 64 134744072 3405803785 9 D2))) ⟨by (exact jkc), HB.out.on (by (exact jkc))⟩ ?_
  intro Y hY
  have H5 := Lib.hid hY
  have HF2 := Lib.hid (fun (w1 : World) (hj : Junk Y w1) => show Calls Tryz.prog 9 #[.pointer (some ⟨g.G, 0, none⟩), .int .i64 0, .slice o2 29 c2, .int .u32 0] w1 _ from frame_back w.heap.size g 0 lb lc q' _ 5001 5001 53 9 D2 o2 c2 w1 (H4.out.1.on (hY.1.trans hj)) rfl rfl (by decide) (by decide) (hY.2.on hj) HU.out.2 (by decide) (by decide) (by have := H4.out.2.size; have := hY.1.size; have := hj.size; omega))
  clear hY HB
  go_upto_region 8 with (first | (go_at_call 9; (with_reducible refine (HF2.out _ (by (exact jkc))).mono ?_); rintro e w3 ⟨on, n, c, rfl, nb2, lb', lc', oy, cy, rfl, rfl, hg, ho, ht⟩; have H6 := Lib.hid (And.intro ho ht); clear hg ho ht))
  refine wp_keep (fun X => (∃ o c2, Own 0 X 70 2 (some ⟨nb2, 0, none⟩) c 1 [.int .i64 1, .slice o 29 c2]) ∧ Tch (fun k => w.heap.size ≤ k) w X) ⟨⟨_, _, (H6.out.1.on (by (exact jkc))).own⟩, (H4.out.2.trans ((Tch.of_junk (H5.out.1.trans (by (exact jkc)))).trans H6.out.2)).on (by (exact jkc))⟩ ?_
  intro X ⟨⟨o, c', ho⟩, hT⟩
  obtain ⟨g', e1, -, hn, hc, -⟩ := ho.cells 0 _ rfl
  cases e1
  have HT := Lib.hid hT
  clear H4 H5 H6 HF2 ho hT
  go_wp2
  go_ret
  exact ⟨rfl, ((Tch.refl (L := fun _ => False) w).then HT.out (fun i hi e => by omega)).junk⟩
end Go.Proofs.YtfhkhnoiolkkdaaGreatDoor
set_option linter.unusedVariables false
set_option maxRecDepth 100000
set_option linter.unusedSimpArgs false
namespace Go
open Go.RowKit
section
variable {P : Program} {w : World} {b : Nat} {t k e : TypeId} {o : Oper} {a : Act} {Q : Exit → Act → World → Prop} {ops : Array Oper} {rest : List Oper}
theorem wpList_del0 (n : Int) (hg : o.guard = none) (m x : Operand) (hop : o.op = Op.call { callee := Callee.builtin Builtin.delete, args := #[m, x], argTypes := #[t, k] }) (h : Mp0 w b) (ht : P.underlying t = some (.map k e)) (hk : P.underlying k = some (.int .i64))
    (hm : a.eval m = .map (some b)) (hx : a.eval x = .int .i64 n) (hK : wpList P ops Q rest (a.put o.dst (.tuple #[])) w) : wpList P ops Q (o :: rest) a w := by
  have hrun := mp_del0 h ht hk n o.type
  refine wpList_plain hg fun K' hK' => ?_
  unfold Oper.wp
  simp [execOp, hop, resolve, invoke, builtin, hm, hx, hrun, Result.andThen]
  exact hK' _ _ hK
end
end Go
namespace Go.Proofs.YtfhkhnoiolkkdaaGreatDoor
open Go.RowKit
structure TkS (w X : World) (g : Gp) (L : List Value) (S : Nat → Prop) : Prop where
  b : Box X g.G 100 L
  r : Own 0 X 139 4 (some ⟨g.rb, 0, none⟩) g.rc 2 roL
  u : Own 0 X 141 10 (some ⟨g.ub, 0, none⟩) g.uc 1 ruL
  t : Mp0 X g.tk
  c : Tch S w X
section
variable {w X Y : World} {g : Gp} {L L' : List Value} {S : Nat → Prop}
theorem TkS.to (h : TkS w X g L S) (T : Tch (fun k => k = g.G) X Y) (hb : Box Y g.G 100 L') (hS : S g.G) : TkS w Y g L' S :=
  have b := box_ty h.b
  ⟨hb, own_keep h.r T ((own_ty h.r).ne b (by decide)), own_keep h.u T ((own_ty h.u).ne b (by decide)), h.t.tch T (fun e => b.map0 h.t e.symm), h.c.trans (T.mono (fun k hk => by have hk : k = g.G := hk; rw [hk]; exact hS))⟩
theorem TkS.ticked {v : Nat} {L2 : List Value} (h : TkS w X g L S) (T : Tch (fun k => k = v) X Y) (hb : Box X v 283 L2) (hS : S v) : TkS w Y g L S :=
  have b := box_ty hb
  ⟨h.b.tch T ((box_ty h.b).ne b (by decide)), own_keep h.r T ((own_ty h.r).ne b (by decide)), own_keep h.u T ((own_ty h.u).ne b (by decide)), h.t.tch T (fun e => b.map0 h.t e.symm), h.c.trans (T.mono (fun k hk => by have hk : k = v := hk; rw [hk]; exact hS))⟩
theorem TkS.on (h : TkS w X g L S) (j : Junk X Y) : TkS w Y g L S :=
  ⟨h.b.on j, own_keep (L := fun _ => False) h.r (Tch.of_junk j) (fun e => e), own_keep (L := fun _ => False) h.u (Tch.of_junk j) (fun e => e), h.t.on j, h.c.on j⟩
end
set_option maxHeartbeats 4000000 in
theorem gtick_a (B : Nat) (g : Gp) (now n2 : Int) (lb lc : Nat) (q : Fp) (f : Fl) (P : Int) (w : World) (h : GF B w g now lb lc q f P) (h0 : 0 ≤ now) (h1 : now ≤ n2) (h2 : n2 ≤ 1000000) (h3 : n2 < f.till) :
    Calls Tryz.prog 12 #[.pointer (some ⟨g.G, 0, none⟩), .int .i64 n2] w fun e w' => e = .returned (.int .i64 0) ∧ ∃ lb' lc', GF B w' g n2 lb' lc' q f P ∧ Tch (fun k => k = g.G ∨ k = q.wh) w w' := by
  have HH := Lib.hid h
  have HN := Lib.hid (And.intro h0 (And.intro h1 (And.intro h2 h3)))
  have i1 : ¬ n2 < now := by omega
  have i2 : ¬ 1099511627776 < n2 := by omega
  have hG := h.gs.b
  have g0 := hG.cell (j := 0) rfl
  have g2 := hG.cell (j := 2) rfl
  have g13 := hG.cell (j := 13) rfl
  have g14 := hG.cell (j := 14) rfl
  have g15 := hG.cell (j := 15) rfl
  have g16 := hG.cell (j := 16) rfl
  have gf0 := hG.frozen 0
  have gf13 := hG.frozen 13
  have gf14 := hG.frozen 14
  have gf15 := hG.frozen 15
  have gf16 := hG.frozen 16
  have gs := hG.lt
  have HPT := Lib.hid (fun w1 => pl_tick now n2 h0 h1 (by omega) w1)
  clear h h0 h1 h2 h3 hG
  go_enter Tryz.func12, Tryz.ntmps12
  go_upto_region 7 with (first | (go_at_call 33; (with_reducible refine (HPT.out _).mono ?_); rintro e w1 ⟨rfl, ⟨os1, d1, rfl⟩⟩))
  have hV : ∃ V, V = ((((w.setCell ⟨g.G, 0, none⟩ (.int .i64 n2)).setCell ⟨g.G, 13, none⟩ (.int .i64 65536)).setCell ⟨g.G, 14, none⟩ (.int .i64 30)).setCell ⟨g.G, 15, none⟩ (.int .i64 n2)).setCell ⟨g.G, 16, none⟩ (.slice none 0 0) ∧ Box V g.G 100 [.int .i64 n2, .slice g.kr g.kn g.kc, .bool true, .slice (some ⟨g.rb, 0, none⟩) 2 g.rc, .slice (some ⟨g.ub, 0, none⟩) 1 g.uc, .int .i64 0, .int .u32 3405803785, .int .i64 5000, .int .i64 5100, .slice none 0 0, .int .i64 1000, .int .i64 100, .int .i64 5, .int .i64 65536, .int .i64 30, .int .i64 n2, .slice none 0 0, .pointer (some ⟨g.s, 0, none⟩), .slice (some ⟨lb, 0, none⟩) 1 lc, .int .i64 5, .int .i64 5, .int .i64 g.bat, .map (some g.tk)] ∧ Tch (fun k => k = g.G) w V := ⟨_, rfl, ((((HH.out.gs.b.set 0 _).set 13 _).set 14 _).set 15 _).set 16 _, ((((((Tch.refl (L := fun k => k = g.G) w).set (a := ⟨g.G, 0, none⟩) _ (fun _ => rfl)).set (a := ⟨g.G, 13, none⟩) _ (fun _ => rfl)).set (a := ⟨g.G, 14, none⟩) _ (fun _ => rfl)).set (a := ⟨g.G, 15, none⟩) _ (fun _ => rfl)).set (a := ⟨g.G, 16, none⟩) _ (fun _ => rfl))⟩
  obtain ⟨V, hV0, hVB, hVT⟩ := hV
  rw [← hV0]
  clear hV0
  refine wp_keep (fun X => TkS w X g [.int .i64 n2, .slice g.kr g.kn g.kc, .bool true, .slice (some ⟨g.rb, 0, none⟩) 2 g.rc, .slice (some ⟨g.ub, 0, none⟩) 1 g.uc, .int .i64 0, .int .u32 3405803785, .int .i64 5000, .int .i64 5100, .slice none 0 0, .int .i64 1000, .int .i64 100, .int .i64 5, .int .i64 65536, .int .i64 30, .int .i64 n2, .slice none 0 0, .pointer (some ⟨g.s, 0, none⟩), .slice (some ⟨lb, 0, none⟩) 1 lc, .int .i64 5, .int .i64 5, .int .i64 g.bat, .map (some g.tk)] (fun k => k = g.G ∨ k = q.wh) ∧ Own 0 X 52 5 (some ⟨lb, 0, none⟩) lc 1 (lnsL [⟨17, f.there.src, f.there.sport, P, f.till⟩]) ∧ FS1 X g.s q.sl q.tb q.tc q.wh q.mp q.li q.ac f now) (by
    have h := HH.out
    obtain ⟨n1, n2, n3, n4, n5, n6, n7, n8, n9⟩ := GF.sepG (B := B) h.gs h.fs
    have T := hVT.on (show Junk V (V.junk os1 d1) by (exact jkc))
    exact ⟨⟨hVB.on (by (exact jkc)), own_keep h.gs.r T n1, own_keep h.gs.u T n2, h.gs.t.tch T n3, T.mono (fun k hk => .inl hk)⟩, own_keep h.ls T ((own_ty h.ls).ne (box_ty h.gs.b) (by decide)), h.fs.tch T n4 n5 n6 n7 n8 n9⟩) ?_
  intro X ⟨hS, hL, hF⟩
  have H1 := Lib.hid (And.intro hS (And.intro hL hF))
  clear hVB hVT g0 g2 g13 g14 g15 g16 gf0 gf13 gf14 gf15 gf16 gs HPT i1 i2
  have g18 := hS.b.cell (j := 18) rfl
  have gf18 := hS.b.frozen 18
  have gs := hS.b.lt
  have HNT := Lib.hid (fun w1 (hj : Junk X w1) => show Calls Tryz.prog 34 #[.slice (some ⟨lb, 0, none⟩) 1 lc, .int .i64 n2] w1 fun e w' => ∃ ob cap, e = .returned (.tuple #[.slice ob 1 cap, .int .i64 0]) ∧ Junk w1 w' ∧ Own w1.heap.size w' 52 5 ob cap 1 (lnsL [⟨17, f.there.src, f.there.sport, P, f.till⟩]) by
    have := xtick_any n2 (some ⟨lb, 0, none⟩) 1 lc [⟨17, f.there.src, f.there.sport, P, f.till⟩] w1 (by decide) rfl (own_ls (own_keep (L := fun _ => False) hL (Tch.of_junk hj) (fun e => e))) (fun h => by cases h)
    unfold XTickM at this
    rw [tick_one, if_neg (by have := HN.out; show ¬ f.till ≤ n2; omega)] at this
    exact this)
  clear hS hL hF
  go_upto_region 8 with (first | (go_at_call 34; (with_reducible refine (HNT.out _ (by (exact jkc))).mono ?_); rintro e w1 ⟨ob, cap, rfl, ⟨os2, d2, rfl⟩, ho⟩; have HO := Lib.hid ho; clear ho))
  obtain ⟨lb', hlb⟩ := own_at0 HO.out (by decide)
  subst hlb
  refine wp_keep (fun Y => TkS w Y g (gL g n2 (some ⟨lb', 0, none⟩) 1 cap) (fun k => k = g.G ∨ k = q.wh) ∧ Own 0 Y 52 5 (some ⟨lb', 0, none⟩) cap 1 (lnsL [⟨17, f.there.src, f.there.sport, P, f.till⟩]) ∧ FS1 Y g.s q.sl q.tb q.tc q.wh q.mp q.li q.ac f now) (by
    have h := H1.out
    have b := box_ty h.1.b
    have T : Tch (fun k => k = g.G) X (X.setCell ⟨g.G, 18, none⟩ (.slice (some ⟨lb', 0, none⟩) 1 cap)) := (Tch.refl (L := fun k => k = g.G) X).set _ (fun _ => rfl)
    have l1 := (own_at_le HO.out).1
    have f1 := h.2.2
    exact ⟨(h.1.to T (show Box _ g.G 100 (gL g n2 (some ⟨lb', 0, none⟩) 1 cap) from h.1.b.set 18 _) (.inl rfl)).on (by (exact jkc)), own_keep (HO.out.lower (Nat.zero_le _)) (tch_under T (by simp [World.setCell]) os2 d2) (fun e => by have e : lb' = g.G := e; omega), (f1.tch T ((box_ty f1.bs).ne b (by decide)) ((box_ty f1.bl).ne b (by decide)) ((own_ty f1.bt).ne b (by decide)) ((box_ty f1.bw.box).ne b (by decide)) (fun e => b.map1 f1.bw.mm e.symm) ((own_ty f1.bw.ls).ne b (by decide))).on (by (exact jkc))⟩) ?_
  intro Y ⟨hS, hL, hF⟩
  have H2 := Lib.hid (And.intro hS (And.intro hL hF))
  clear g18 gf18 gs HNT HO H1
  have g17 := hS.b.cell (j := 17) rfl
  have gs := hS.b.lt
  have HFT := Lib.hid (fun w1 (hj : Junk Y w1) => ftick1a g.s q.sl q.tb q.tc q.wh q.mp q.li q.ac f now n2 w1 (hF.on hj) HN.out.2.1 (by have := HN.out; omega) HN.out.2.2.2)
  clear hS hL hF
  go_upto_region 9 with (first | (go_at_call 35; (with_reducible refine (HFT.out _ (by (exact jkc))).mono ?_); rintro e w3 ⟨rfl, hf3, ht3⟩; have H3 := Lib.hid (And.intro hf3 ht3); clear hf3 ht3))
  refine wp_keep (fun Z => TkS w Z g (gL g n2 (some ⟨lb', 0, none⟩) 1 cap) (fun k => k = g.G ∨ k = q.wh) ∧ Own 0 Z 52 5 (some ⟨lb', 0, none⟩) cap 1 (lnsL [⟨17, f.there.src, f.there.sport, P, f.till⟩]) ∧ FS1 Z g.s q.sl q.tb q.tc q.wh q.mp q.li q.ac f n2) (by
    have h := H2.out
    have T := (Tch.of_junk (L := fun k => k = q.wh) (show Junk Y _ by (exact jkc))).trans H3.out.2
    exact ⟨(h.1.ticked T h.2.2.bw.box (.inr rfl)).on (by (exact jkc)), (own_keep h.2.1 T ((own_ty h.2.1).ne (box_ty h.2.2.bw.box) (by decide))).on (by (exact jkc)), H3.out.1.on (by (exact jkc))⟩) ?_
  intro Z hZ
  have H4 := Lib.hid hZ
  clear g17 gs HFT H2 H3
  have g17 := hZ.1.b.cell (j := 17) rfl
  have g22 := hZ.1.b.cell (j := 22) rfl
  have gs := hZ.1.b.lt
  have HG0 := Lib.hid (fun w1 (hj : Junk Z w1) => fget1 w1 (hZ.2.2.on hj))
  have HGN := Lib.hid (fun (n : Nat) (hn : n < 256) (h0 : n ≠ 0) w1 (hj : Junk Z w1) => show Calls Tryz.prog 36 #[.pointer (some ⟨g.s, 0, none⟩), .int .i64 (n : Int)] w1 fun e w' => e = .returned (.tuple #[.agg #[.int .i64 0, .int .u32 0, .int .i64 0, .int .u32 0, .int .i64 0, .int .i64 0, .int .u32 0, .int .i64 0, .int .u32 0, .int .i64 0, .int .i64 0, .int .i64 0], .bool false]) ∧ Junk w1 w' from fget_no (s := g.s) (sl := q.sl) n w1 (hZ.2.2.bs.on hj).lt ((hZ.2.2.bs.on hj).cell (j := 0) rfl) (hZ.2.2.bl.on hj).lt (sl_free (hZ.2.2.bl.on hj) hn (fun e => absurd e h0)).1 hn)
  clear hZ
  go_wp2
  go_loopw [62] (fun i wr => ∃ n : Nat, i = .int .i64 (n : Int) ∧ n ≤ 256 ∧ Junk Z wr) (fun i _ => 257 - (intOf i).toNat)
  case atStart => exact ⟨0, rfl, by omega, by (exact jkc)⟩
  case round =>
    obtain ⟨n, rfl, hn, ⟨os, d, rfl⟩⟩ := hrel
    by_cases hlt : n < 256
    case neg =>
      have h2 : ¬ (n : Int) < 256 := by omega
      go_wp2
      go_ret
      have hz := H4.out
      exact ⟨rfl, ⟨lb', cap, GF.on ⟨⟨hz.1.b, hz.1.r, hz.1.u, hz.1.t⟩, hz.2.1, hz.2.2, HH.out.ok, HH.out.ne, HH.out.lo, HH.out.pt⟩ (by (exact jkc))⟩, hz.1.c.on (by (exact jkc))⟩
    have hlt2 : (n : Int) < 256 := by omega
    by_cases h0 : n = 0
    · subst h0
      go_wp2_with (first | (go_at_call 36; (with_reducible refine (HG0.out _ (by (exact jkc))).mono ?_); rintro e w4 ⟨rfl, ⟨os4, d4, rfl⟩⟩))
      exact ⟨⟨1, rfl, by omega, by (exact jkc)⟩, by simp [intOf]⟩
    · have q1 : wrap64 ((n : Int) + 1) = ((n + 1 : Nat) : Int) := by unfold wrap64; omega
      go_wp2_with (first
        | (go_at_call 36; (with_reducible refine (HGN.out n hlt h0 _ (by (exact jkc))).mono ?_); rintro e w4 ⟨rfl, ⟨os4, d4, rfl⟩⟩)
        | ((with_reducible show wpList _ _ _ _ _ _); refine wpList_del0 (n : Int) rfl _ _ rfl (H4.out.1.t.on (by (exact jkc))) Tryz.underlying98 Tryz.underlying3 rfl rfl ?_))
      exact ⟨⟨n + 1, by go_num, by omega, by (exact jkc)⟩, by simp [intOf]; omega⟩
end Go.Proofs.YtfhkhnoiolkkdaaGreatDoor
set_option linter.unusedVariables false
set_option maxRecDepth 100000
set_option linter.unusedSimpArgs false
namespace Go.Proofs.YtfhkhnoiolkkdaaGreatDoor
open Go.RowKit
abbrev LGq (g : Gp) (q : Fp) : Nat → Prop := fun k => k = g.G ∨ k = g.s ∨ k = q.sl ∨ k = q.wh ∨ k = q.mp ∨ k = q.li
def TkB (B : Nat) (w w' : World) (g : Gp) (n2 : Int) (q : Fp) : Prop := ∃ oa' c' q' o2 c2, GE B w' g n2 oa' c' q' o2 c2 ∧ (oa' = none → c' = 0) ∧ Tch (LGq g q) w w'
set_option maxHeartbeats 4000000 in
theorem gtick_b (B : Nat) (g : Gp) (now n2 : Int) (lb lc : Nat) (q : Fp) (f : Fl) (P : Int) (w : World) (h : GF B w g now lb lc q f P) (h0 : 0 ≤ now) (h1 : now ≤ n2) (h2 : n2 ≤ 1000000) (h3 : f.till ≤ n2) :
    Calls Tryz.prog 12 #[.pointer (some ⟨g.G, 0, none⟩), .int .i64 n2] w fun e w' => e = .returned (.int .i64 0) ∧ TkB B w w' g n2 q := by
  have HH := Lib.hid h
  have HN := Lib.hid (And.intro h0 (And.intro h1 (And.intro h2 h3)))
  have i1 : ¬ n2 < now := by omega
  have i2 : ¬ 1099511627776 < n2 := by omega
  have hG := h.gs.b
  have g0 := hG.cell (j := 0) rfl
  have g2 := hG.cell (j := 2) rfl
  have g13 := hG.cell (j := 13) rfl
  have g14 := hG.cell (j := 14) rfl
  have g15 := hG.cell (j := 15) rfl
  have g16 := hG.cell (j := 16) rfl
  have gf0 := hG.frozen 0
  have gf13 := hG.frozen 13
  have gf14 := hG.frozen 14
  have gf15 := hG.frozen 15
  have gf16 := hG.frozen 16
  have gs := hG.lt
  have HPT := Lib.hid (fun w1 => pl_tick now n2 h0 h1 (by omega) w1)
  clear h h0 h1 h2 h3 hG
  go_enter Tryz.func12, Tryz.ntmps12
  go_upto_region 7 with (first | (go_at_call 33; (with_reducible refine (HPT.out _).mono ?_); rintro e w1 ⟨rfl, ⟨os1, d1, rfl⟩⟩))
  have hV : ∃ V, V = ((((w.setCell ⟨g.G, 0, none⟩ (.int .i64 n2)).setCell ⟨g.G, 13, none⟩ (.int .i64 65536)).setCell ⟨g.G, 14, none⟩ (.int .i64 30)).setCell ⟨g.G, 15, none⟩ (.int .i64 n2)).setCell ⟨g.G, 16, none⟩ (.slice none 0 0) ∧ Box V g.G 100 [.int .i64 n2, .slice g.kr g.kn g.kc, .bool true, .slice (some ⟨g.rb, 0, none⟩) 2 g.rc, .slice (some ⟨g.ub, 0, none⟩) 1 g.uc, .int .i64 0, .int .u32 3405803785, .int .i64 5000, .int .i64 5100, .slice none 0 0, .int .i64 1000, .int .i64 100, .int .i64 5, .int .i64 65536, .int .i64 30, .int .i64 n2, .slice none 0 0, .pointer (some ⟨g.s, 0, none⟩), .slice (some ⟨lb, 0, none⟩) 1 lc, .int .i64 5, .int .i64 5, .int .i64 g.bat, .map (some g.tk)] ∧ Tch (fun k => k = g.G) w V := ⟨_, rfl, ((((HH.out.gs.b.set 0 _).set 13 _).set 14 _).set 15 _).set 16 _, ((((((Tch.refl (L := fun k => k = g.G) w).set (a := ⟨g.G, 0, none⟩) _ (fun _ => rfl)).set (a := ⟨g.G, 13, none⟩) _ (fun _ => rfl)).set (a := ⟨g.G, 14, none⟩) _ (fun _ => rfl)).set (a := ⟨g.G, 15, none⟩) _ (fun _ => rfl)).set (a := ⟨g.G, 16, none⟩) _ (fun _ => rfl))⟩
  obtain ⟨V, hV0, hVB, hVT⟩ := hV
  rw [← hV0]
  clear hV0
  refine wp_keep (fun X => TkS w X g [.int .i64 n2, .slice g.kr g.kn g.kc, .bool true, .slice (some ⟨g.rb, 0, none⟩) 2 g.rc, .slice (some ⟨g.ub, 0, none⟩) 1 g.uc, .int .i64 0, .int .u32 3405803785, .int .i64 5000, .int .i64 5100, .slice none 0 0, .int .i64 1000, .int .i64 100, .int .i64 5, .int .i64 65536, .int .i64 30, .int .i64 n2, .slice none 0 0, .pointer (some ⟨g.s, 0, none⟩), .slice (some ⟨lb, 0, none⟩) 1 lc, .int .i64 5, .int .i64 5, .int .i64 g.bat, .map (some g.tk)] (LGq g q) ∧ Own 0 X 52 5 (some ⟨lb, 0, none⟩) lc 1 (lnsL [⟨17, f.there.src, f.there.sport, P, f.till⟩]) ∧ FS1 X g.s q.sl q.tb q.tc q.wh q.mp q.li q.ac f now) (by
    have h := HH.out
    obtain ⟨n1, n2, n3, n4, n5, n6, n7, n8, n9⟩ := GF.sepG (B := B) h.gs h.fs
    have T := hVT.on (show Junk V (V.junk os1 d1) by (exact jkc))
    exact ⟨⟨hVB.on (by (exact jkc)), own_keep h.gs.r T n1, own_keep h.gs.u T n2, h.gs.t.tch T n3, T.mono (fun k hk => .inl hk)⟩, own_keep h.ls T ((own_ty h.ls).ne (box_ty h.gs.b) (by decide)), h.fs.tch T n4 n5 n6 n7 n8 n9⟩) ?_
  intro X ⟨hS, hL, hF⟩
  have H1 := Lib.hid (And.intro hS (And.intro hL hF))
  clear hVB hVT g0 g2 g13 g14 g15 g16 gf0 gf13 gf14 gf15 gf16 gs HPT i1 i2
  have g18 := hS.b.cell (j := 18) rfl
  have gf18 := hS.b.frozen 18
  have gs := hS.b.lt
  have HNT := Lib.hid (fun w1 (hj : Junk X w1) => show Calls Tryz.prog 34 #[.slice (some ⟨lb, 0, none⟩) 1 lc, .int .i64 n2] w1 fun e w' => ∃ ob cap, e = .returned (.tuple #[.slice ob 0 cap, .int .i64 1]) ∧ Junk w1 w' ∧ (ob = none → cap = 0) by
    have := xtick_any n2 (some ⟨lb, 0, none⟩) 1 lc [⟨17, f.there.src, f.there.sport, P, f.till⟩] w1 (by decide) rfl (own_ls (own_keep (L := fun _ => False) hL (Tch.of_junk hj) (fun e => e))) (fun h => by cases h)
    unfold XTickM at this
    rw [tick_one, if_pos (by have := HN.out; show f.till ≤ n2; omega)] at this
    exact this.mono fun e w' ⟨ob, cap, he, hj, ho⟩ => ⟨ob, cap, he, hj, fun e => by subst e; rcases ho.form with ⟨_, _, h⟩ | ⟨_, _, h, _⟩; exact h; cases h⟩)
  clear hS hL hF
  go_upto_region 8 with (first | (go_at_call 34; (with_reducible refine (HNT.out _ (by (exact jkc))).mono ?_); rintro e w1 ⟨ob, cap, rfl, ⟨os2, d2, rfl⟩, hoc⟩; have HOC := Lib.hid hoc; clear hoc))
  refine wp_keep (fun Y => TkS w Y g (gL g n2 ob 0 cap) (LGq g q) ∧ FS1 Y g.s q.sl q.tb q.tc q.wh q.mp q.li q.ac f now) (by
    have h := H1.out
    have b := box_ty h.1.b
    have T : Tch (fun k => k = g.G) X (X.setCell ⟨g.G, 18, none⟩ (.slice ob 0 cap)) := (Tch.refl (L := fun k => k = g.G) X).set _ (fun _ => rfl)
    have f1 := h.2.2
    exact ⟨(h.1.to T (show Box _ g.G 100 (gL g n2 ob 0 cap) from h.1.b.set 18 _) (.inl rfl)).on (by (exact jkc)), (f1.tch T ((box_ty f1.bs).ne b (by decide)) ((box_ty f1.bl).ne b (by decide)) ((own_ty f1.bt).ne b (by decide)) ((box_ty f1.bw.box).ne b (by decide)) (fun e => b.map1 f1.bw.mm e.symm) ((own_ty f1.bw.ls).ne b (by decide))).on (by (exact jkc))⟩) ?_
  intro Y ⟨hS, hF⟩
  have H2 := Lib.hid (And.intro hS hF)
  clear g18 gf18 gs HNT H1
  have g17 := hS.b.cell (j := 17) rfl
  have gs := hS.b.lt
  have HFT := Lib.hid (fun w1 (hj : Junk Y w1) => ftick1b g.s q.sl q.tb q.tc q.wh q.mp q.li q.ac f now n2 w1 (hF.on hj) HH.out.ok HN.out.2.1 (by have := HN.out; omega) HN.out.2.2.2)
  clear hS hF
  go_upto_region 9 with (first | (go_at_call 35; (with_reducible refine (HFT.out _ (by (exact jkc))).mono ?_); rintro e w3 ⟨⟨oz, cz, rfl⟩, tb', tc', hf3, ht3⟩; have H3 := Lib.hid (And.intro hf3 ht3); clear hf3 ht3))
  refine wp_keep (fun Z => TkS w Z g (gL g n2 ob 0 cap) (LGq g q) ∧ FS0 Z g.s q.sl tb' tc' q.wh q.mp (some ⟨q.li, 0, none⟩) q.ac n2) (by
    have h := H2.out
    have b := box_ty h.1.b
    have f1 := h.2
    have r := own_ty h.1.r
    have u := own_ty h.1.u
    have s1 := box_ty f1.bs
    have s2 := box_ty f1.bl
    have s3 := box_ty f1.bw.box
    have s5 := own_ty f1.bw.ls
    have T := (Tch.of_junk (L := LT g.s q.sl q.wh q.mp q.li) (show Junk Y _ by (exact jkc))).trans H3.out.2
    have hz : TkS w w3 g (gL g n2 ob 0 cap) (LGq g q) := ⟨h.1.b.tch T (by rintro (e | e | e | e | e); exact b.ne s1 (by decide) e; exact b.ne s2 (by decide) e; exact b.ne s3 (by decide) e; exact b.map1 f1.bw.mm e; exact b.ne s5 (by decide) e), own_keep h.1.r T (by rintro (e | e | e | e | e); exact r.ne s1 (by decide) e; exact r.ne s2 (by decide) e; exact r.ne s3 (by decide) e; exact r.map1 f1.bw.mm e; exact r.ne s5 (by decide) e), own_keep h.1.u T (by rintro (e | e | e | e | e); exact u.ne s1 (by decide) e; exact u.ne s2 (by decide) e; exact u.ne s3 (by decide) e; exact u.map1 f1.bw.mm e; exact u.ne s5 (by decide) e), h.1.t.tch T (by rintro (e | e | e | e | e); exact s1.map0 h.1.t e.symm; exact s2.map0 h.1.t e.symm; exact s3.map0 h.1.t e.symm; exact HH.out.ne e; exact s5.map0 h.1.t e.symm), h.1.c.trans (T.mono (by rintro k (e | e | e | e | e); exact .inr (.inl e); exact .inr (.inr (.inl e)); exact .inr (.inr (.inr (.inl e))); exact .inr (.inr (.inr (.inr (.inl e)))); exact .inr (.inr (.inr (.inr (.inr e))))))⟩
    exact ⟨hz.on (by (exact jkc)), H3.out.1.on (by (exact jkc))⟩) ?_
  intro Z hZ
  have H4 := Lib.hid hZ
  clear g17 gs HFT H2 H3
  have g17 := hZ.1.b.cell (j := 17) rfl
  have g22 := hZ.1.b.cell (j := 22) rfl
  have gs := hZ.1.b.lt
  have HGN := Lib.hid (fun (n : Nat) (hn : n < 256) w1 (hj : Junk Z w1) => show Calls Tryz.prog 36 #[.pointer (some ⟨g.s, 0, none⟩), .int .i64 (n : Int)] w1 fun e w' => e = .returned (.tuple #[.agg #[.int .i64 0, .int .u32 0, .int .i64 0, .int .u32 0, .int .i64 0, .int .i64 0, .int .u32 0, .int .i64 0, .int .u32 0, .int .i64 0, .int .i64 0, .int .i64 0], .bool false]) ∧ Junk w1 w' from fget_no (s := g.s) (sl := q.sl) n w1 (hZ.2.bs.on hj).lt ((hZ.2.bs.on hj).cell (j := 0) rfl) (hZ.2.bl.on hj).lt (sl_free (hZ.2.bl.on hj) hn (fun _ => rfl)).1 hn)
  clear hZ
  go_wp2
  go_loopw [62] (fun i wr => ∃ n : Nat, i = .int .i64 (n : Int) ∧ n ≤ 256 ∧ Junk Z wr) (fun i _ => 257 - (intOf i).toNat)
  case atStart => exact ⟨0, rfl, by omega, by (exact jkc)⟩
  case round =>
    obtain ⟨n, rfl, hn, ⟨os, d, rfl⟩⟩ := hrel
    by_cases hlt : n < 256
    case neg =>
      have h2 : ¬ (n : Int) < 256 := by omega
      go_wp2
      go_ret
      have hz := H4.out
      have lo := HH.out.lo
      exact ⟨rfl, ob, cap, ⟨q.sl, tb', tc', q.wh, q.mp, q.li, q.ac⟩, some ⟨q.li, 0, none⟩, q.ac, GE.on ⟨⟨hz.1.b, hz.1.r, hz.1.u, hz.1.t⟩, hz.2, HH.out.ne, ⟨lo.1, lo.2.1, lo.2.2.1, lo.2.2.2.1, lo.2.2.2.2.1⟩⟩ (by (exact jkc)), HOC.out, hz.1.c.on (by (exact jkc))⟩
    have hlt2 : (n : Int) < 256 := by omega
    have q1 : wrap64 ((n : Int) + 1) = ((n + 1 : Nat) : Int) := by unfold wrap64; omega
    go_wp2_with (first
      | (go_at_call 36; (with_reducible refine (HGN.out n hlt _ (by (exact jkc))).mono ?_); rintro e w4 ⟨rfl, ⟨os4, d4, rfl⟩⟩)
      | ((with_reducible show wpList _ _ _ _ _ _); refine wpList_del0 (n : Int) rfl _ _ rfl (H4.out.1.t.on (by (exact jkc))) Tryz.underlying98 Tryz.underlying3 rfl rfl ?_))
    exact ⟨⟨n + 1, by go_num, by omega, by (exact jkc)⟩, by simp [intOf]; omega⟩
end Go.Proofs.YtfhkhnoiolkkdaaGreatDoor
set_option linter.unusedVariables false
set_option maxRecDepth 100000
set_option linter.unusedSimpArgs false
namespace Go.Proofs.YtfhkhnoiolkkdaaGreatDoor
open Go.RowKit
theorem GF.see {B : Nat} {w : World} {g : Gp} {now : Int} {lb lc : Nat} {q : Fp} {f : Fl} {P : Int} (h : GF B w g now lb lc q f P) : SeO w g now 1 [.int .i64 f.there.proto, .int .u32 f.there.src, .int .i64 f.there.sport, .int .u32 f.there.dst, .int .i64 f.there.dport, .int .i64 f.back.proto, .int .u32 f.back.src, .int .i64 f.back.sport, .int .u32 f.back.dst, .int .i64 f.back.dport, .int .i64 f.till, .int .i64 f.note] 1 [⟨17, f.there.src, f.there.sport, P, f.till⟩] :=
  ⟨⟨_, _, h.gs, own_ls h.ls, rfl, by decide, fun e => by cases e⟩, fun w1 hj => fall1 g.s q.sl q.tb q.tc q.wh q.mp q.li q.ac f now w1 (h.fs.on hj)⟩
theorem GE.see {B : Nat} {w : World} {g : Gp} {now : Int} {oa o2 : Option Addr} {c c2 : Nat} {q : Fp} (h : GE B w g now oa c q o2 c2) (hc : oa = none → c = 0) : SeO w g now 0 [] 0 [] :=
  ⟨⟨_, _, h.gs, LsAt.nil _ _, rfl, by decide, fun e => ⟨rfl, hc e⟩⟩, fun w1 hj => (fall0 g.s q.sl q.tb q.tc q.wh q.mp o2 c2 now w1 (h.fs.on hj)).mono fun e w' ⟨he, hj2⟩ => ⟨none, 0, he, hj2, Own.nil _ _ _ _⟩⟩
set_option maxHeartbeats 8000000 in
theorem texp_a (fr tt wait : Int) (hfr : 0 ≤ fr ∧ fr ≤ 65535) (htt : 0 ≤ tt ∧ tt ≤ 65535) (hw : 0 ≤ wait ∧ wait < 100) (w : World) :
    Calls Tryz.prog 3 #[.int .u16 fr, .int .u16 tt, .int .u8 wait] w fun e w' => e = .returned (.bool true) ∧ Junk w w' := by
  obtain ⟨D1, hU1, hD1⟩ := dg_any 167772161 134744072 fr tt 0 0 (fun _ => 0) (by decide) (by decide) (by decide) hfr htt (fun i h => absurd h (Nat.not_lt_zero i)) 8 rfl
  have HD1 := Lib.hid (fun w1 => hD1 none w1 (bts_non _ _))
  have HU1 := Lib.hid hU1
  have HR := Lib.hid (And.intro hfr (And.intro htt hw))
  have r1 := hfr.1
  have r2 := hfr.2
  have r3 := htt.1
  have r4 := htt.2
  have r5 := hw.1
  have r6 := hw.2
  clear hU1 hD1 hfr htt hw
  go_enter Tryz.func3, Tryz.ntmps3
  go_upto_region 4 with (first
    | (go_at_call 6; (with_reducible refine (works_any _).mono ?_); rintro e w1 ⟨rfl, ⟨os0, d0, rfl⟩⟩)
    | (go_at_call 7; (with_reducible refine (begun_any _).mono ?_); rintro e w1 ⟨g, q, rfl, hg, ⟨os1, d1, rfl⟩⟩; have HG := Lib.hid hg; clear hg))
  refine wp_keep (fun X => ∃ B, w.heap.size ≤ B ∧ Junk w X ∧ GE B X g 0 none 0 q none 0 ∧ B ≤ X.heap.size) ⟨_, by simp, by (exact jkc), HG.out.on (by (exact jkc)), by simp⟩ ?_
  intro X ⟨B, hX⟩
  have H1 := Lib.hid hX
  clear HG hX
  go_upto_region 5 with (first | (go_at_call 8; (with_reducible refine (HD1.out _).mono ?_); rintro e w1 ⟨o1, c1, rfl, ⟨os2, d2, rfl⟩, hb⟩; have HB := Lib.hid hb; clear hb))
  refine wp_keep (fun Y => Junk X Y ∧ Bts Y o1 28 c1 (pktB (Pk 64 167772161 134744072 8 D1))) ⟨by (exact jkc), HB.out.on (by (exact jkc))⟩ ?_
  intro Y hY
  have H2 := Lib.hid hY
  have HF1 := Lib.hid (fun (w1 : World) (hj : Junk Y w1) => show Calls Tryz.prog 9 #[.pointer (some ⟨g.G, 0, none⟩), .int .i64 1, .slice o1 28 c1, .int .u32 0] w1 _ from frame_out B g 0 q fr tt 8 D1 o1 c1 w1 (H1.out.2.2.1.on (hY.1.trans hj)) (hY.2.on hj) HU1.out (by decide) (by decide) (by have := H1.out.2.2.2; have := hY.1.size; have := hj.size; omega))
  clear hY HB
  go_upto_region 6 with (first | (go_at_call 9; (with_reducible refine (HF1.out _ (by (exact jkc))).mono ?_); rintro e w3 ⟨on, n, c, rfl, nb, lb, lc, q', P, oy, cy, rfl, rfl, hg, ho, ht⟩; have H3 := Lib.hid (And.intro hg (And.intro ho ht)); clear hg ho ht))
  refine wp_keep (fun Z => GF B Z g 0 lb lc q' ⟨⟨17, 167772161, fr, 134744072, tt⟩, ⟨17, 134744072, tt, 3405803785, P⟩, 0 + 100, 0⟩ P ∧ Out Z nb c 0 3405803785 134744072 8 (tn2 D1 167772161 134744072 3405803785 P 134744072 tt) oy cy ∧ Tch (fun k => B ≤ k) w Z) ⟨H3.out.1.on (by (exact jkc)), H3.out.2.1.on (by (exact jkc)), ((Tch.of_junk (H1.out.2.1.trans (H2.out.1.trans (by (exact jkc))))).trans H3.out.2.2).on (by (exact jkc))⟩ ?_
  intro Z hZ
  have HP := Lib.hid (show 0 ≤ P ∧ P ≤ 65535 by have := hZ.1.pt.1; omega)
  have H4 := Lib.hid (And.intro H1.out.1 hZ)
  have HFI := Lib.hid (fun w1 (hj : Junk Z w1) => show Calls Tryz.prog 11 #[.slice (some ⟨nb, 0, none⟩) 1 c] w1 fun e w' => e = .returned (.slice oy 28 cy) ∧ Junk w1 w' from first_any nb c 0 oy 28 cy w1 ((hZ.2.1.on hj).own))
  have HWH := Lib.hid (fun w1 (hj : Junk Z w1) => show Calls Tryz.prog 10 #[.slice oy 28 cy] w1 _ from whole_any 63 3405803785 134744072 8 _ P tt oy cy w1 (by decide) (by decide) (pk_ttl (pk_tn HU1.out (by decide) (by decide) HP.out HR.out.2.1)) ((hZ.2.1.on hj).b))
  clear hZ H1 H2 H3 HF1
  go_upto_region 7 with (first
    | (go_at_call 11; (with_reducible refine (HFI.out _ (by (exact jkc))).mono ?_); rintro e w1 ⟨rfl, ⟨os3, d3, rfl⟩⟩)
    | (go_at_call 10; (with_reducible refine (HWH.out _ (by (exact jkc))).mono ?_); rintro e w1 ⟨o3, o4, c3, c4, rfl, ⟨os4, d4, rfl⟩⟩))
  obtain ⟨tb, htb⟩ : ∃ tb, Z.heap.size + (os3.size + os4.size) + 1 = tb := ⟨_, rfl⟩
  rw [htb]
  refine wp_keep (fun A => GF B A g 0 lb lc q' ⟨⟨17, 167772161, fr, 134744072, tt⟩, ⟨17, 134744072, tt, 3405803785, P⟩, 0 + 100, 0⟩ P ∧ Box A tb 38 [.int .i64 17, .int .u32 3405803785, .int .i64 P, .int .u32 134744072, .int .i64 tt] ∧ Tch (fun k => B ≤ k) w A) ⟨H4.out.2.1.on (by (exact jkc)), box_at' (by rw [← htb]; simp) rfl, H4.out.2.2.2.on (by (exact jkc))⟩ ?_
  intro A hA
  have H5 := Lib.hid (And.intro H4.out.1 hA)
  clear htb H4 HFI HWH
  have HTI := Lib.hid (fun w1 (hj : Junk A w1) => gtick_a B g 0 wait lb lc q' ⟨⟨17, 167772161, fr, 134744072, tt⟩, ⟨17, 134744072, tt, 3405803785, P⟩, 0 + 100, 0⟩ P w1 (hA.1.on hj) (by decide) r5 (by omega) (show wait < 0 + 100 by omega))
  clear hA
  go_upto_region 9 with (first
    | (go_at_call 12; (with_reducible refine (HTI.out _ (by (exact jkc))).mono ?_); rintro e w5 ⟨rfl, lb', lc', hg, ht⟩; have H6 := Lib.hid (And.intro hg ht); clear hg ht))
  refine wp_keep (fun C => GF B C g wait lb' lc' q' ⟨⟨17, 167772161, fr, 134744072, tt⟩, ⟨17, 134744072, tt, 3405803785, P⟩, 0 + 100, 0⟩ P ∧ Box C tb 38 [.int .i64 17, .int .u32 3405803785, .int .i64 P, .int .u32 134744072, .int .i64 tt] ∧ Tch (fun k => B ≤ k) w C) (by
    have h := H5.out
    have b := box_ty h.2.2.1
    have T := (Tch.of_junk (L := fun k => k = g.G ∨ k = q'.wh) (show Junk A _ by (exact jkc))).trans H6.out.2
    have lo := h.2.1.lo
    exact ⟨H6.out.1.on (by (exact jkc)), (h.2.2.1.tch T (by rintro (e | e); exact b.ne (box_ty h.2.1.gs.b) (by decide) e; exact b.ne (box_ty h.2.1.fs.bw.box) (by decide) e)).on (by (exact jkc)), (h.2.2.2.trans (T.mono (by rintro k (rfl | rfl); exact lo.1; exact lo.2.2.2.1))).on (by (exact jkc))⟩) ?_
  intro C hC
  have H7 := Lib.hid (And.intro H5.out.1 hC)
  have t2 := hC.2.1.cell (j := 2) rfl
  have ts := hC.2.1.lt
  obtain ⟨D2, hU2, hD2⟩ := dg_any 134744072 3405803785 tt P 0 0 (fun _ => 0) (by decide) (by decide) (by decide) HR.out.2.1 HP.out (fun i h => absurd h (Nat.not_lt_zero i)) 8 rfl
  have HD2 := Lib.hid (fun w1 => hD2 none w1 (bts_non _ _))
  have HU2 := Lib.hid hU2
  clear hU2 hD2 hC H5 H6 HTI
  go_upto_region 10 with (first | (go_at_call 8; (with_reducible refine (HD2.out _).mono ?_); rintro e w1 ⟨o2, c2, rfl, ⟨os6, d6, rfl⟩, hb⟩; have HB := Lib.hid hb; clear hb))
  refine wp_keep (fun D => GF B D g wait lb' lc' q' ⟨⟨17, 167772161, fr, 134744072, tt⟩, ⟨17, 134744072, tt, 3405803785, P⟩, 0 + 100, 0⟩ P ∧ Bts D o2 28 c2 (pktB (Pk 64 134744072 3405803785 8 D2)) ∧ Tch (fun k => B ≤ k) w D) ⟨H7.out.2.1.on (by (exact jkc)), HB.out.on (by (exact jkc)), H7.out.2.2.2.on (by (exact jkc))⟩ ?_
  intro D hD
  have H8 := Lib.hid (And.intro H7.out.1 hD)
  have HF2 := Lib.hid (fun (w1 : World) (hj : Junk D w1) (hB : B ≤ w1.heap.size) => show Calls Tryz.prog 9 #[.pointer (some ⟨g.G, 0, none⟩), .int .i64 0, .slice o2 28 c2, .int .u32 0] w1 _ from frame_back B g wait lb' lc' q' _ P fr tt 8 D2 o2 c2 w1 (hD.1.on hj) rfl rfl HR.out.1 (show (0 : Int) + 100 ≤ wait + 100 by omega) (hD.2.1.on hj) HU2.out (by decide) ⟨r5, by omega⟩ hB)
  have hBD : B ≤ D.heap.size := Nat.le_of_lt (Nat.lt_of_le_of_lt hD.1.lo.1 hD.1.gs.b.lt)
  clear hD HB H7 t2 ts
  go_upto_region 11 with (first | (go_at_call 9; (with_reducible refine (HF2.out _ (by (exact jkc)) (by first | exact hBD | (simp; omega))).mono ?_); rintro e w3 ⟨on, n, c, rfl, nb2, lb2, lc2, oz, cz, rfl, rfl, hg, ho, ht⟩; have H9 := Lib.hid (And.intro hg ht); clear hg ho ht))
  refine wp_keep (fun E => GF B E g wait lb2 lc2 q' { (⟨⟨17, 167772161, fr, 134744072, tt⟩, ⟨17, 134744072, tt, 3405803785, P⟩, 0 + 100, 0⟩ : Fl) with till := wait + 100 } P ∧ Tch (fun k => B ≤ k) w E) ⟨H9.out.1.on (by (exact jkc)), ((H8.out.2.2.2.trans (Tch.of_junk (by (exact jkc)))).trans H9.out.2).on (by (exact jkc))⟩ ?_
  intro E hE
  have H10 := Lib.hid (And.intro H8.out.1 hE)
  have HSE := Lib.hid (fun w1 (hj : Junk E w1) => gsee_any g wait 1 1 _ _ w1 (hE.1.on hj).see)
  clear hE HF2 H8 H9 hBD
  go_upto_region 12 with (first | (go_at_call 13; (with_reducible refine (HSE.out _ (by (exact jkc))).mono ?_); rintro e w6 ⟨of, cf, ol, cl, rfl, ⟨os7, d7, rfl⟩, h1, h2⟩; have HOO := Lib.hid (And.intro h1 h2); clear h1 h2))
  obtain ⟨fb, hfb⟩ := own_at0 HOO.out.1 (by decide)
  subst hfb
  obtain ⟨lb3, hlb⟩ := own_at0 HOO.out.2 (by decide)
  subst hlb
  obtain ⟨sb, hsb⟩ : ∃ sb, E.heap.size + os7.size = sb := ⟨_, rfl⟩
  rw [hsb]
  refine wp_keep (fun F => Box F sb 47 [.int .i64 wait, .slice (some ⟨fb, 0, none⟩) 1 cf, .slice (some ⟨lb3, 0, none⟩) 1 cl, .int .i64 0, .int .i64 0, .int .i64 5, .int .i64 g.kn] ∧ (fb < F.heap.size ∧ F.cell? ⟨fb, 10, none⟩ = some (.int .i64 (wait + 100))) ∧ (lb3 < F.heap.size ∧ F.cell? ⟨lb3, 4, none⟩ = some (.int .i64 (wait + 100))) ∧ Tch (fun k => B ≤ k) w F) (by
    obtain ⟨x1, e1, -, n1, c1, -⟩ := (HOO.out.1.on (show Junk _ ((E.junk os7 d7).alloc (.cells #[.int .i64 wait, .slice (some ⟨fb, 0, none⟩) 1 cf, .slice (some ⟨lb3, 0, none⟩) 1 cl, .int .i64 0, .int .i64 0, .int .i64 5, .int .i64 g.kn] 47)) by (exact jkc))).cells 10 _ rfl
    obtain ⟨x2, e2, -, n2, c2, -⟩ := (HOO.out.2.on (show Junk _ ((E.junk os7 d7).alloc (.cells #[.int .i64 wait, .slice (some ⟨fb, 0, none⟩) 1 cf, .slice (some ⟨lb3, 0, none⟩) 1 cl, .int .i64 0, .int .i64 0, .int .i64 5, .int .i64 g.kn] 47)) by (exact jkc))).cells 4 _ rfl
    cases e1
    cases e2
    exact ⟨box_at' (by rw [← hsb]; simp) rfl, ⟨n1, c1⟩, ⟨n2, c2⟩, H10.out.2.2.on (by (exact jkc))⟩) ?_
  intro F ⟨k1, ⟨n1, c1⟩, ⟨n2, c2⟩, k4⟩
  have HE := Lib.hid (And.intro H10.out.1 k4)
  have s1 := k1.cell (j := 1) rfl
  have s2 := k1.cell (j := 2) rfl
  have ss := k1.lt
  have q1 : wrap64 (wait + 100) = wait + 100 := by unfold wrap64; omega
  clear k1 k4 HSE HOO H10 hsb
  go_wp2
  go_ret
  exact ⟨rfl, ((Tch.refl (L := fun _ => False) w).then HE.out.2 (fun i hi e => by have := HE.out.1; omega)).junk⟩
end Go.Proofs.YtfhkhnoiolkkdaaGreatDoor
set_option linter.unusedVariables false
set_option maxRecDepth 100000
set_option linter.unusedSimpArgs false
namespace Go.Proofs.YtfhkhnoiolkkdaaGreatDoor
open Go.RowKit
set_option maxHeartbeats 8000000 in
theorem texp_b (fr tt wait : Int) (hfr : 0 ≤ fr ∧ fr ≤ 65535) (htt : 0 ≤ tt ∧ tt ≤ 65535) (hw : 100 ≤ wait ∧ wait ≤ 255) (w : World) :
    Calls Tryz.prog 3 #[.int .u16 fr, .int .u16 tt, .int .u8 wait] w fun e w' => e = .returned (.bool true) ∧ Junk w w' := by
  obtain ⟨D1, hU1, hD1⟩ := dg_any 167772161 134744072 fr tt 0 0 (fun _ => 0) (by decide) (by decide) (by decide) hfr htt (fun i h => absurd h (Nat.not_lt_zero i)) 8 rfl
  have HD1 := Lib.hid (fun w1 => hD1 none w1 (bts_non _ _))
  have HU1 := Lib.hid hU1
  have HR := Lib.hid (And.intro hfr (And.intro htt hw))
  have r1 := hfr.1
  have r2 := hfr.2
  have r3 := htt.1
  have r4 := htt.2
  have r5 := hw.1
  have r6 := hw.2
  clear hU1 hD1 hfr htt hw
  go_enter Tryz.func3, Tryz.ntmps3
  go_upto_region 4 with (first
    | (go_at_call 6; (with_reducible refine (works_any _).mono ?_); rintro e w1 ⟨rfl, ⟨os0, d0, rfl⟩⟩)
    | (go_at_call 7; (with_reducible refine (begun_any _).mono ?_); rintro e w1 ⟨g, q, rfl, hg, ⟨os1, d1, rfl⟩⟩; have HG := Lib.hid hg; clear hg))
  refine wp_keep (fun X => ∃ B, w.heap.size ≤ B ∧ Junk w X ∧ GE B X g 0 none 0 q none 0 ∧ B ≤ X.heap.size) ⟨_, by simp, by (exact jkc), HG.out.on (by (exact jkc)), by simp⟩ ?_
  intro X ⟨B, hX⟩
  have H1 := Lib.hid hX
  clear HG hX
  go_upto_region 5 with (first | (go_at_call 8; (with_reducible refine (HD1.out _).mono ?_); rintro e w1 ⟨o1, c1, rfl, ⟨os2, d2, rfl⟩, hb⟩; have HB := Lib.hid hb; clear hb))
  refine wp_keep (fun Y => Junk X Y ∧ Bts Y o1 28 c1 (pktB (Pk 64 167772161 134744072 8 D1))) ⟨by (exact jkc), HB.out.on (by (exact jkc))⟩ ?_
  intro Y hY
  have H2 := Lib.hid hY
  have HF1 := Lib.hid (fun (w1 : World) (hj : Junk Y w1) => show Calls Tryz.prog 9 #[.pointer (some ⟨g.G, 0, none⟩), .int .i64 1, .slice o1 28 c1, .int .u32 0] w1 _ from frame_out B g 0 q fr tt 8 D1 o1 c1 w1 (H1.out.2.2.1.on (hY.1.trans hj)) (hY.2.on hj) HU1.out (by decide) (by decide) (by have := H1.out.2.2.2; have := hY.1.size; have := hj.size; omega))
  clear hY HB
  go_upto_region 6 with (first | (go_at_call 9; (with_reducible refine (HF1.out _ (by (exact jkc))).mono ?_); rintro e w3 ⟨on, n, c, rfl, nb, lb, lc, q', P, oy, cy, rfl, rfl, hg, ho, ht⟩; have H3 := Lib.hid (And.intro hg (And.intro ho ht)); clear hg ho ht))
  refine wp_keep (fun Z => GF B Z g 0 lb lc q' ⟨⟨17, 167772161, fr, 134744072, tt⟩, ⟨17, 134744072, tt, 3405803785, P⟩, 0 + 100, 0⟩ P ∧ Out Z nb c 0 3405803785 134744072 8 (tn2 D1 167772161 134744072 3405803785 P 134744072 tt) oy cy ∧ Tch (fun k => B ≤ k) w Z) ⟨H3.out.1.on (by (exact jkc)), H3.out.2.1.on (by (exact jkc)), ((Tch.of_junk (H1.out.2.1.trans (H2.out.1.trans (by (exact jkc))))).trans H3.out.2.2).on (by (exact jkc))⟩ ?_
  intro Z hZ
  have HP := Lib.hid (show 0 ≤ P ∧ P ≤ 65535 by have := hZ.1.pt.1; omega)
  have H4 := Lib.hid (And.intro H1.out.1 hZ)
  have HFI := Lib.hid (fun w1 (hj : Junk Z w1) => show Calls Tryz.prog 11 #[.slice (some ⟨nb, 0, none⟩) 1 c] w1 fun e w' => e = .returned (.slice oy 28 cy) ∧ Junk w1 w' from first_any nb c 0 oy 28 cy w1 ((hZ.2.1.on hj).own))
  have HWH := Lib.hid (fun w1 (hj : Junk Z w1) => show Calls Tryz.prog 10 #[.slice oy 28 cy] w1 _ from whole_any 63 3405803785 134744072 8 _ P tt oy cy w1 (by decide) (by decide) (pk_ttl (pk_tn HU1.out (by decide) (by decide) HP.out HR.out.2.1)) ((hZ.2.1.on hj).b))
  clear hZ H1 H2 H3 HF1
  go_upto_region 7 with (first
    | (go_at_call 11; (with_reducible refine (HFI.out _ (by (exact jkc))).mono ?_); rintro e w1 ⟨rfl, ⟨os3, d3, rfl⟩⟩)
    | (go_at_call 10; (with_reducible refine (HWH.out _ (by (exact jkc))).mono ?_); rintro e w1 ⟨o3, o4, c3, c4, rfl, ⟨os4, d4, rfl⟩⟩))
  obtain ⟨tb, htb⟩ : ∃ tb, Z.heap.size + (os3.size + os4.size) + 1 = tb := ⟨_, rfl⟩
  rw [htb]
  refine wp_keep (fun A => GF B A g 0 lb lc q' ⟨⟨17, 167772161, fr, 134744072, tt⟩, ⟨17, 134744072, tt, 3405803785, P⟩, 0 + 100, 0⟩ P ∧ Box A tb 38 [.int .i64 17, .int .u32 3405803785, .int .i64 P, .int .u32 134744072, .int .i64 tt] ∧ Tch (fun k => B ≤ k) w A) ⟨H4.out.2.1.on (by (exact jkc)), box_at' (by rw [← htb]; simp) rfl, H4.out.2.2.2.on (by (exact jkc))⟩ ?_
  intro A hA
  have H5 := Lib.hid (And.intro H4.out.1 hA)
  clear htb H4 HFI HWH
  have HTI := Lib.hid (fun w1 (hj : Junk A w1) => gtick_b B g 0 wait lb lc q' ⟨⟨17, 167772161, fr, 134744072, tt⟩, ⟨17, 134744072, tt, 3405803785, P⟩, 0 + 100, 0⟩ P w1 (hA.1.on hj) (by decide) (by omega) (by omega) (show 0 + 100 ≤ wait by omega))
  clear hA
  go_upto_region 9 with (first
    | (go_at_call 12; (with_reducible refine (HTI.out _ (by (exact jkc))).mono ?_); rintro e w5 ⟨rfl, oa', ca', q2, o2', c2', hg, hca, ht⟩; have H6 := Lib.hid (And.intro hg ht); have HCA := Lib.hid hca; clear hg ht hca))
  refine wp_keep (fun C => GE B C g wait oa' ca' q2 o2' c2' ∧ Box C tb 38 [.int .i64 17, .int .u32 3405803785, .int .i64 P, .int .u32 134744072, .int .i64 tt] ∧ Tch (fun k => B ≤ k) w C) (by
    have h := H5.out
    have b := box_ty h.2.2.1
    have f1 := h.2.1.fs
    have T := (Tch.of_junk (L := LGq g q') (show Junk A _ by (exact jkc))).trans H6.out.2
    have lo := h.2.1.lo
    exact ⟨H6.out.1.on (by (exact jkc)), (h.2.2.1.tch T (by rintro (e | e | e | e | e | e); exact b.ne (box_ty h.2.1.gs.b) (by decide) e; exact b.ne (box_ty f1.bs) (by decide) e; exact b.ne (box_ty f1.bl) (by decide) e; exact b.ne (box_ty f1.bw.box) (by decide) e; exact b.map1 f1.bw.mm e; exact b.ne (own_ty f1.bw.ls) (by decide) e)).on (by (exact jkc)), (h.2.2.2.trans (T.mono (by rintro k (rfl | rfl | rfl | rfl | rfl | rfl) <;> omega))).on (by (exact jkc))⟩) ?_
  intro C hC
  have H7 := Lib.hid (And.intro H5.out.1 hC)
  have t2 := hC.2.1.cell (j := 2) rfl
  have ts := hC.2.1.lt
  obtain ⟨D2, hU2, hD2⟩ := dg_any 134744072 3405803785 tt P 0 0 (fun _ => 0) (by decide) (by decide) (by decide) HR.out.2.1 HP.out (fun i h => absurd h (Nat.not_lt_zero i)) 8 rfl
  have HD2 := Lib.hid (fun w1 => hD2 none w1 (bts_non _ _))
  have HU2 := Lib.hid hU2
  clear hU2 hD2 hC H5 H6 HTI
  go_upto_region 10 with (first | (go_at_call 8; (with_reducible refine (HD2.out _).mono ?_); rintro e w1 ⟨o2, c2, rfl, ⟨os6, d6, rfl⟩, hb⟩; have HB := Lib.hid hb; clear hb))
  refine wp_keep (fun D => GE B D g wait oa' ca' q2 o2' c2' ∧ Bts D o2 28 c2 (pktB (Pk 64 134744072 3405803785 8 D2)) ∧ Tch (fun k => B ≤ k) w D) ⟨H7.out.2.1.on (by (exact jkc)), HB.out.on (by (exact jkc)), H7.out.2.2.2.on (by (exact jkc))⟩ ?_
  intro D hD
  have H8 := Lib.hid (And.intro H7.out.1 hD)
  have HF2 := Lib.hid (fun (w1 : World) (hj : Junk D w1) (hB : B ≤ w1.heap.size) => show Calls Tryz.prog 9 #[.pointer (some ⟨g.G, 0, none⟩), .int .i64 0, .slice o2 28 c2, .int .u32 0] w1 _ from frame_no B g wait oa' ca' q2 o2' c2' P tt 8 D2 o2 c2 w1 (hD.1.on hj) (hD.2.1.on hj) HU2.out (by decide) hB)
  have hBD : B ≤ D.heap.size := Nat.le_of_lt (Nat.lt_of_le_of_lt hD.1.lo.1 hD.1.gs.b.lt)
  clear hD HB H7 t2 ts
  go_upto_region 11 with (first | (go_at_call 9; (with_reducible refine (HF2.out _ (by (exact jkc)) (by first | exact hBD | (simp; omega))).mono ?_); rintro e w3 ⟨on, n, c, rfl, rfl, rfl, rfl, hg, ht⟩; have H9 := Lib.hid (And.intro hg ht); clear hg ht))
  refine wp_keep (fun E => GE B E g wait oa' ca' q2 o2' c2' ∧ Tch (fun k => B ≤ k) w E) ⟨H9.out.1.on (by (exact jkc)), ((H8.out.2.2.2.trans (Tch.of_junk (by (exact jkc)))).trans H9.out.2).on (by (exact jkc))⟩ ?_
  intro E hE
  have H10 := Lib.hid (And.intro H8.out.1 hE)
  have HSE := Lib.hid (fun w1 (hj : Junk E w1) => gsee_any g wait 0 0 _ _ w1 ((hE.1.on hj).see HCA.out))
  clear hE HF2 H8 H9 hBD
  go_upto_region 12 with (first | (go_at_call 13; (with_reducible refine (HSE.out _ (by (exact jkc))).mono ?_); rintro e w6 ⟨of, cf, ol, cl, rfl, ⟨os7, d7, rfl⟩, -, -⟩))
  obtain ⟨sb, hsb⟩ : ∃ sb, E.heap.size + os7.size = sb := ⟨_, rfl⟩
  rw [hsb]
  refine wp_keep (fun F => Box F sb 47 [.int .i64 wait, .slice of 0 cf, .slice ol 0 cl, .int .i64 0, .int .i64 0, .int .i64 5, .int .i64 g.kn] ∧ Tch (fun k => B ≤ k) w F) ⟨box_at' (by rw [← hsb]; simp) rfl, H10.out.2.2.on (by (exact jkc))⟩ ?_
  intro F ⟨k1, k4⟩
  have HE := Lib.hid (And.intro H10.out.1 k4)
  have s1 := k1.cell (j := 1) rfl
  have s2 := k1.cell (j := 2) rfl
  have ss := k1.lt
  have q1 : ¬ wait < 100 := by omega
  clear k1 k4 HSE H10 hsb
  go_wp2
  go_ret
  exact ⟨rfl, ((Tch.refl (L := fun _ => False) w).then HE.out.2 (fun i hi e => by have := HE.out.1; omega)).junk⟩
end Go.Proofs.YtfhkhnoiolkkdaaGreatDoor
