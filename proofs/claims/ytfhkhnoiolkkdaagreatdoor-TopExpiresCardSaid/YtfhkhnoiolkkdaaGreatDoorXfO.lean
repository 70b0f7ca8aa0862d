/- Right routes, right rules. -/
import Derived.Test.YtfhkhnoiolkkdaaGreatDoorGuD
import Derived.Test.YtfhkhnoiolkkdaaGreatDoorMixP
import Derived.Test.YtfhkhnoiolkkdaaGreatDoorIpA
import Derived.Test.YtfhkhnoiolkkdaaGreatDoorTcpA
import Derived.Deep.DeepCutAuto
set_option linter.unusedVariables false
set_option maxRecDepth 100000
set_option linter.unusedSimpArgs false
namespace Go.Proofs.YtfhkhnoiolkkdaaGreatDoor
open Go.RowKit
theorem Wh1.set {w : World} {wh mp li lc : Nat} {till now : Int} (h : Wh1 w wh mp li lc till now) (t2 : Int) : Wh1 (w.setCell ⟨li, 1, none⟩ (.int .i64 t2)) wh mp li lc t2 now ∧ Tch (fun k => k = li) w (w.setCell ⟨li, 1, none⟩ (.int .i64 t2)) := by
  have t : Tch (fun k => k = li) w (w.setCell ⟨li, 1, none⟩ (.int .i64 t2)) := (Tch.refl (L := fun k => k = li) w).set _ (fun _ => rfl)
  have h1 := h.ne
  have hm : li ≠ mp := fun e => by
    obtain ⟨n, c, hb⟩ := h.mm
    rcases h.ls.form with ⟨h0, _⟩ | ⟨g, cur, h0, _, h2, _⟩
    · cases h0
    · cases h0
      rw [e, hb] at h2
      cases h2
  exact ⟨⟨h.box.tch t (fun e => h1.2 e), (World.ownsRow.stored h.ls 1 (.int .i64 t2)).1, h.mm.tch t (fun e => hm e.symm), h1⟩, t⟩
theorem Wh1.lt {w : World} {wh mp li lc : Nat} {till now : Int} (h : Wh1 w wh mp li lc till now) : li < w.heap.size ∧ w.cell? ⟨li, 0, none⟩ = some (.int .i64 0) ∧ w.cell? ⟨li, 1, none⟩ = some (.int .i64 till) ∧ w.frozen? ⟨li, 0, none⟩ = false ∧ w.frozen? ⟨li, 1, none⟩ = false := by
  obtain ⟨g, e, _, h1, h2, h3⟩ := h.ls.cells 0 _ rfl
  cases e
  obtain ⟨g, e, _, _, h4, h5⟩ := h.ls.cells 1 _ rfl
  cases e
  exact ⟨h1, h2, h4, h3, h5⟩
theorem wset_old (wh mp li lc : Nat) (t1 till now : Int) (w : World) (h : Wh1 w wh mp li lc t1 now) (h0 : 0 ≤ till) (h1 : till ≤ 1099511627776) (h2 : now < till) :
    Calls Tryz.prog 237 #[.pointer (some ⟨wh, 0, none⟩), .int .i64 0, .int .i64 till] w fun e w' => e = .returned (.int .i64 0) ∧ Wh1 w' wh mp li lc till now ∧ Tch (fun k => k = li) w w' := by
  have HS := Lib.hid (h.set till)
  have z0 := h.box.cell (j := 0) rfl
  have z2 := h.box.cell (j := 1) rfl
  have z3 := h.box.cell (j := 2) rfl
  have z1 := h.box.lt
  obtain ⟨y0, y1, y2, y3, y4⟩ := h.lt
  have hlk := mp_look1 h.mm Tryz.underlying279 Tryz.underlying3
  clear h
  have q0 : ¬ till < 0 := by omega
  have q1 : ¬ 1099511627776 < till := by omega
  have q2 : ¬ till ≤ now := by omega
  clear h0 h1 h2
  go_enter Tryz.func237, Tryz.ntmps237
  go_wp2_with (first | (go_at_call 294; (with_reducible refine (hfix_any wh mp li lc till now _ (HS.out.1.on (by (exact jkc)))).mono ?_); rintro e w' ⟨rfl, ⟨osj, dj, rfl⟩⟩))
  go_ret
  exact ⟨rfl, HS.out.1.on (by (exact jkc)), HS.out.2.on (by (exact jkc))⟩
theorem wtick0 (wh mp : Nat) (oa : Option Addr) (c : Nat) (now n2 : Int) (w : World) (h : Wh0 w wh mp oa c now) (h1 : now ≤ n2) (h2 : n2 ≤ 1099511627776) :
    Calls Tryz.prog 88 #[.pointer (some ⟨wh, 0, none⟩), .int .i64 n2] w fun e w' => e = .returned (.tuple #[.slice none 0 0, .int .i64 0]) ∧ Wh0 w' wh mp oa c n2 ∧ Tch (fun k => k = wh) w w' := by
  have T1 : Tch (fun k => k = wh) w (w.setCell ⟨wh, 2, none⟩ (.int .i64 n2)) := (Tch.refl (L := fun k => k = wh) w).set _ (fun _ => rfl)
  have HS := Lib.hid (show Wh0 (w.setCell ⟨wh, 2, none⟩ (.int .i64 n2)) wh mp oa c n2 from ⟨h.box.set 2 _, h.mm.tch T1 (fun e => h.ne e.symm), h.ne⟩)
  have HT := Lib.hid T1
  have z3 := h.box.cell (j := 2) rfl
  have zf := h.box.frozen 2
  have z1 := h.box.lt
  have y0 := HS.out.box.cell (j := 0) rfl
  have y1 := HS.out.box.lt
  clear h T1
  have q0 : ¬ n2 < now := by omega
  have q1 : ¬ 1099511627776 < n2 := by omega
  clear h1 h2
  go_enter Tryz.func88, Tryz.ntmps88
  go_wp2
  refine wp_loop_rounds 1 ?_
  rw [rounds_succ]
  go_wp2_with (first | (go_at_call 156; (with_reducible refine (alen_any 0 _ _ _ (by first | assumption | simp) y0).mono ?_); rintro e w' ⟨rfl, ⟨osn, dn, rfl⟩⟩))
  go_returns
  exact ⟨rfl, HS.out.on (by (exact jkc)), HT.out.on (by (exact jkc))⟩
theorem wtick1a (wh mp li lc : Nat) (till now n2 : Int) (w : World) (h : Wh1 w wh mp li lc till now) (h1 : now ≤ n2) (h2 : n2 ≤ 1099511627776) (h3 : n2 < till) :
    Calls Tryz.prog 88 #[.pointer (some ⟨wh, 0, none⟩), .int .i64 n2] w fun e w' => e = .returned (.tuple #[.slice none 0 0, .int .i64 0]) ∧ Wh1 w' wh mp li lc till n2 ∧ Tch (fun k => k = wh) w w' := by
  have T1 : Tch (fun k => k = wh) w (w.setCell ⟨wh, 2, none⟩ (.int .i64 n2)) := (Tch.refl (L := fun k => k = wh) w).set _ (fun _ => rfl)
  have HS := Lib.hid (show Wh1 (w.setCell ⟨wh, 2, none⟩ (.int .i64 n2)) wh mp li lc till n2 from ⟨h.box.set 2 _, own_keep h.ls T1 (fun e => h.ne.2 e.symm), h.mm.tch T1 (fun e => h.ne.1 e.symm), h.ne⟩)
  have HT := Lib.hid T1
  have z3 := h.box.cell (j := 2) rfl
  have zf := h.box.frozen 2
  have z1 := h.box.lt
  have y0 := HS.out.box.cell (j := 0) rfl
  have y1 := HS.out.box.lt
  obtain ⟨x0, x1, x2, x3, x4⟩ := HS.out.lt
  clear h T1 x3 x4
  have q0 : ¬ n2 < now := by omega
  have q1 : ¬ 1099511627776 < n2 := by omega
  have q2 : ¬ till ≤ n2 := by omega
  clear h1 h2 h3
  go_enter Tryz.func88, Tryz.ntmps88
  go_wp2
  generalize w.setCell ⟨wh, 2, none⟩ (.int .i64 n2) = V at HS HT y0 y1 x0 x1 x2 ⊢
  clear z3 zf z1
  refine wp_loop_rounds 1 ?_
  rw [rounds_succ]
  go_wp2_with (first | (go_at_call 156; (with_reducible refine (alen_any 1 _ _ _ y1 y0).mono ?_); rintro e w' ⟨rfl, ⟨osn, dn, rfl⟩⟩))
  go_returns
  exact ⟨rfl, HS.out.on (by (exact jkc)), HT.out.on (by (exact jkc))⟩
end Go.Proofs.YtfhkhnoiolkkdaaGreatDoor
set_option linter.unusedVariables false
set_option maxRecDepth 100000
set_option linter.unusedSimpArgs false
namespace Go.Proofs.YtfhkhnoiolkkdaaGreatDoor
open Go.RowKit
set_option maxHeartbeats 1000000 in
theorem apop_any (wh mp li lc : Nat) (till now : Int) (w : World) (h : Wh1 w wh mp li lc till now) :
    Calls Tryz.prog 338 #[.pointer (some ⟨wh, 0, none⟩)] w fun e w' => e = .returned (.iface 285 (.agg #[.int .i64 0, .int .i64 till])) ∧ Wh0 w' wh mp (some ⟨li, 0, none⟩) lc now ∧ Tch (LW wh mp) w w' := by
  have HH := Lib.hid h
  have z0 := h.box.cell (j := 0) rfl
  have z2 := h.box.cell (j := 1) rfl
  have zf := h.box.frozen 0
  have z1 := h.box.lt
  obtain ⟨y0, y1, y2, y3, y4⟩ := h.lt
  have lc1 : 1 ≤ lc := h.ls.capLe.1
  clear h
  go_enter Tryz.func338, Tryz.ntmps338
  go_upto_region 4 with (fail)
  have T0 : Tch (fun k => k = wh) w ((w.setCell ⟨wh, 0, none⟩ (.slice (some ⟨li, 0, none⟩) 0 lc)).alloc (.cells #[.int .i64 0, .int .i64 till] 285)) := ((Tch.refl (L := fun k => k = wh) w).set _ (fun _ => rfl)).new _
  refine wp_keep (fun V => Tch (fun k => k = wh) w V ∧ Box V wh 283 [.slice (some ⟨li, 0, none⟩) 0 lc, .map (some mp), .int .i64 now] ∧ V.cell? ⟨w.heap.size, 0, none⟩ = some (.int .i64 0) ∧ V.cell? ⟨w.heap.size, 1, none⟩ = some (.int .i64 till) ∧ w.heap.size < V.heap.size) ⟨T0, (HH.out.box.set 0 _).on (by (exact jkc)), by simp [go_sem], by simp [go_sem], by simp⟩ ?_
  intro V ⟨ht, hb, a0, a1, asz⟩
  have HM := Lib.hid (HH.out.mm.tch ht (fun e => HH.out.ne.1 e.symm))
  have b1 := hb.cell (j := 1) rfl
  have bs := hb.lt
  have HV := Lib.hid (And.intro ht hb)
  have hml := HH.out.mm.lt
  have hne := HH.out.ne.1
  clear ht hb HH z0 z2 zf z1 y0 y1 y2 y3 y4 T0
  refine wp_region_mixn (V) 6 [(0, true), (1, true), (2, true), (3, true), (4, true), (5, true), (6, false)] (by kernel_rfl) (by kernel_rfl) (by (exact jkc)) ?_; (iterate 6 (refine wpMixL_q rfl (fun K hK => ?_); (go_simp; try go_bits); (refine hK _ ?_; clear hK K))); refine wpMixL_last1 rfl rfl (fun osm4_0 dm4_0 K hK => ?_); (refine del1_wp _ _ rfl (HM.out.on (by (exact jkc))) Tryz.underlying279 Tryz.underlying3 rfl rfl ?_; intro w3 hm3 hg3; have H3 := Lib.hid (And.intro hm3 hg3); clear hm3 hg3); refine hK _ _ ?_; clear hK K; refine wpMixL_nil (fun osm dm => ?_)
  go_upto_region 5 with (fail)
  have T1 : Tch (fun k => k = mp) V (w3.junk osm dm) := ((Tch.of_junk (L := fun k => k = mp) (show Junk V (V.drew.junk osm4_0 dm4_0) by (exact jkc))).grown H3.out.2 (fun _ => rfl)).on ⟨_, _, rfl⟩
  refine wp_keep (fun X => Tch (fun k => k = mp) V X ∧ Mp0 X mp) ⟨T1, H3.out.1.on ⟨_, _, rfl⟩⟩ ?_
  intro X ⟨ht, hm⟩
  have c0 := ht.cell a0 (by first | (simp only; omega) | omega)
  have c1 := ht.cell a1 (by first | (simp only; omega) | omega)
  have cs : w.heap.size < X.heap.size := Nat.lt_of_lt_of_le asz ht.size
  have HX := Lib.hid (And.intro ht hm)
  clear T1 ht hm H3 HM b1 bs a0 a1 asz
  go_wp2
  go_ret
  exact ⟨rfl, ⟨(HV.out.2.tch HX.out.1 (by first | (simp only; omega) | omega)).on (by (exact jkc)), HX.out.2.on (by (exact jkc)), hne⟩, ((HV.out.1.mono (fun k hk => .inl hk)).trans (HX.out.1.mono (fun k hk => .inr hk))).on (by (exact jkc))⟩
section
open MapKept ChangeMaps
variable {P : Program} {w : World} {t k e : TypeId} {b n c : Nat}
theorem mp_entry (hb : w.heap[b]? = some (.map #[⟨.int .i64 0, .int .i64 0, n⟩] c)) (ht : P.underlying t = some (.map k e)) (hk : P.underlying k = some (.int .i64)) : (Instr.mapEntry t (.map (some b)) (.int .i64 0)).run P w = .ok (.tuple #[.int .i64 0, .int .i64 (n : Int)]) w := by
  have h1 : Instr.findNow (.int .i64) (.int .i64 0) [⟨.int .i64 0, .int .i64 0, n⟩] 0 = some (some (0, .int .i64 0)) := rfl
  have h2 := setBlock_self hb
  have h3 : (#[(⟨.int .i64 0, .int .i64 0, n⟩ : MapEntry)]).modify 0 (fun e => { e with key := .int .i64 0 }) = #[⟨.int .i64 0, .int .i64 0, n⟩] := by
    apply Array.toList_inj.1
    rw [Array.toList_modify]
    rfl
  unfold setBlock at h2
  simp [Instr.mapEntry, run_underlying ht, MapKept.run_getObj_map hb, MapKept.run_checkKey hk (key_i64 0), MapKept.run_findKey hk h1, MapKept.run_keyThatStays (d := .int .i64) (key_i64 0), MapKept.run_setObj_map _ hb, Result.andThen, h3, h2, goInt]
theorem mp_estore (hb : w.heap[b]? = some (.map #[⟨.int .i64 0, .int .i64 0, n⟩] c)) : (Instr.entryStore t (.map (some b)) (.int .i64 (n : Int)) (.int .i64 0)).run P w = .ok () w := by
  have h2 := setBlock_self hb
  have h3 : (#[(⟨.int .i64 0, .int .i64 0, n⟩ : MapEntry)]).modify 0 (fun e => { e with val := .int .i64 0 }) = #[⟨.int .i64 0, .int .i64 0, n⟩] := by
    apply Array.toList_inj.1
    rw [Array.toList_modify]
    rfl
  unfold setBlock at h2
  simp [Instr.entryStore, MapKept.run_getObj_map hb, MapKept.run_setObj_map _ hb, Result.andThen, h3, h2, asInt, asIntOf]
end
structure SwF (w : World) (wh mp li lc : Nat) (till now : Int) (n ck : Nat) (V : World) : Prop where
  t : Tch (fun k => k = li) w V
  box : Box V wh 283 [.slice (some ⟨li, 0, none⟩) 1 lc, .map (some mp), .int .i64 now]
  ls : Own 0 V 285 2 (some ⟨li, 0, none⟩) lc 1 [.int .i64 0, .int .i64 till]
  mm : V.heap[mp]? = some (.map #[⟨.int .i64 0, .int .i64 0, n⟩] ck)
section
variable {w V V' : World} {wh mp li lc n ck : Nat} {till now : Int}
theorem SwF.grown (h : SwF w wh mp li lc till now n ck V) (t : Tch (fun k => k = li) V V') (ls : Own 0 V' 285 2 (some ⟨li, 0, none⟩) lc 1 [.int .i64 0, .int .i64 till]) (h1 : wh ≠ li) (h2 : mp ≠ li) : SwF w wh mp li lc till now n ck V' :=
  ⟨h.t.trans t, h.box.tch t h1, ls, (t.block mp (Array.getElem?_eq_some_iff.1 h.mm).1 h2).trans h.mm⟩
theorem SwF.on (h : SwF w wh mp li lc till now n ck V) (j : Junk V V') : SwF w wh mp li lc till now n ck V' :=
  ⟨h.t.on j, h.box.on j, h.ls.on j, ((Tch.of_junk (L := fun _ => False) j).block mp (Array.getElem?_eq_some_iff.1 h.mm).1 (fun e => e)).trans h.mm⟩
theorem SwF.cs (h : SwF w wh mp li lc till now n ck V) : wh < V.heap.size ∧ V.cell? ⟨wh, 0, none⟩ = some (.slice (some ⟨li, 0, none⟩) 1 lc) ∧ V.cell? ⟨wh, 1, none⟩ = some (.map (some mp)) ∧ li < V.heap.size ∧ V.cell? ⟨li, 0, none⟩ = some (.int .i64 0) ∧ V.cell? ⟨li, 1, none⟩ = some (.int .i64 till) := by
  obtain ⟨g, e, _, h1, h2, h3⟩ := h.ls.cells 0 _ rfl
  cases e
  obtain ⟨g, e, _, _, h4, h5⟩ := h.ls.cells 1 _ rfl
  cases e
  exact ⟨h.box.lt, h.box.cell rfl, h.box.cell rfl, h1, h2, h4⟩
end
set_option maxHeartbeats 4000000 in
theorem aswap_any (wh mp li lc : Nat) (till now : Int) (w : World) (h : Wh1 w wh mp li lc till now) :
    Calls Tryz.prog 340 #[.pointer (some ⟨wh, 0, none⟩), .int .i64 0, .int .i64 0] w fun e w' => e = .returned (.tuple #[]) ∧ Wh1 w' wh mp li lc till now ∧ Tch (fun k => k = li) w w' := by
  obtain ⟨n, ck, hmm⟩ := h.mm
  have HG := Lib.hid (show SwF w wh mp li lc till now n ck w from ⟨Tch.refl w, h.box, h.ls, hmm⟩)
  have h1 := h.ne.2
  have h0 := h.ne.1
  have h2 : mp ≠ li := fun e => by
    rcases h.ls.form with ⟨h0, _⟩ | ⟨g, cur, h0, _, h2, _⟩
    · cases h0
    · cases h0
      rw [← e, hmm] at h2
      cases h2
  clear h hmm
  haveI hne : Nonempty (PW (SwF w wh mp li lc till now n ck)) := ⟨⟨w, HG.out⟩⟩
  have k0 : ∀ x : PW (SwF w wh mp li lc till now n ck), x.V.cell? ⟨wh, 0, none⟩ = some (.slice (some ⟨li, 0, none⟩) 1 lc) := fun x => x.h.cs.2.1
  have k1 : ∀ x : PW (SwF w wh mp li lc till now n ck), x.V.cell? ⟨li, 0, none⟩ = some (.int .i64 0) := fun x => x.h.cs.2.2.2.2.1
  have k2 : ∀ x : PW (SwF w wh mp li lc till now n ck), x.V.cell? ⟨li, 1, none⟩ = some (.int .i64 till) := fun x => x.h.cs.2.2.2.2.2
  have k3 : ∀ x : PW (SwF w wh mp li lc till now n ck), wh < x.V.heap.size := fun x => x.h.cs.1
  have k4 : ∀ x : PW (SwF w wh mp li lc till now n ck), li < x.V.heap.size := fun x => x.h.cs.2.2.2.1
  go_enter Tryz.func340, Tryz.ntmps340
  go_upto_region 0 with (fail)
  refine wp_region_mixp (SwF w wh mp li lc till now n ck) (fun _ _ h hj => h.on hj) [(0, true), (1, true), (2, true), (3, true), (4, true), (5, true), (6, true), (7, true), (8, true), (9, true), (10, true), (11, true), (12, true), (13, true), (14, true), (15, true), (16, true), (17, true), (18, true), (19, true), (20, true), (21, true), (22, true), (23, true), (24, true), (25, false), (26, true), (27, false)] (by kernel_rfl) (by kernel_rfl) (HG.out) ?_; (iterate 25 (refine wpMix_q rfl (fun K hK => ?_); (go_simp; try go_bits); (refine hK _ ?_; clear hK K))); refine wpMix_e1 rfl rfl (fun osm0_0 dm0_0 K hK => ?_); (refine storeOwn_wp 285 _ _ rfl (HG.out.on (show Junk w (w.drew.junk osm0_0 dm0_0) by (exact jkc))).ls 0 #[.int .i64 0, .int .i64 till] (show (Tryz.prog.info? 285).map (·.size) = some 2 from by kernel_rfl) rfl rfl (by simp) (by simp [Value.oneCell']) ?_; intro w9 hg9 ho9; have HG9 := Lib.hid ((HG.out.on (show Junk w (w.drew.junk osm0_0 dm0_0) by (exact jkc))).grown (Tch.of_grown hg9 rfl) ho9 h1 h2); clear hg9 ho9); refine hK _ _ (⟨⟨_, by first | exact HG9.out | exact HG10.out⟩, rfl⟩) ?_; clear hK K; (iterate 1 (refine wpMix_q rfl (fun K hK => ?_); (go_simp; try go_bits); (refine hK _ ?_; clear hK K))); refine wpMix_e1 rfl rfl (fun osm0_1 dm0_1 K hK => ?_); (refine storeOwn_wp 285 _ _ rfl (HG9.out.on (show Junk w9 (w9.junk osm0_1 dm0_1) by (exact jkc))).ls 0 #[.int .i64 0, .int .i64 till] (show (Tryz.prog.info? 285).map (·.size) = some 2 from by kernel_rfl) rfl rfl (by simp) (by simp [Value.oneCell']) ?_; intro w10 hg10 ho10; have HG10 := Lib.hid ((HG9.out.on (show Junk w9 (w9.junk osm0_1 dm0_1) by (exact jkc))).grown (Tch.of_grown hg10 rfl) ho10 h1 h2); clear hg10 ho10); refine hK _ _ (⟨⟨_, by first | exact HG9.out | exact HG10.out⟩, rfl⟩) ?_; clear hK K; refine wpMix_nil (fun osm dm => ?_)
  go_upto_region 1 with (fail)
  have HGX := Lib.hid (HG10.out.on (show Junk w10 (w10.junk osm dm) from ⟨_, _, rfl⟩))
  refine wp_keep (SwF w wh mp li lc till now n ck) HGX.out ?_
  intro V hV
  have HV := Lib.hid hV
  obtain ⟨j0, j1, j2, j3, j4, j5⟩ := hV.cs
  have hmm : ∀ os d, (V.junk os d).heap[mp]? = some (.map #[⟨.int .i64 0, .int .i64 0, n⟩] ck) := fun os d => (hV.on ⟨os, d, rfl⟩).mm
  have e1 := fun os d => mp_entry (hmm os d) Tryz.underlying279 Tryz.underlying3
  have e2 := fun os d => mp_estore (P := Tryz.prog) (t := 279) (hmm os d)
  have h01 := h0
  clear hV HGX HG10 HG9 HG k0 k1 k2 k3 k4 hne hmm
  refine wp_region_junk (by kernel_rfl) (by kernel_rfl) ?_; (repeat (refine wpQuiet_step (fun K hK => ?_); (go_simp; try go_bits); first | (refine hK _ ?_; clear hK K) | (apply Exists.intro; refine ⟨fun _ => ?_, hK _ ?_⟩; (first | fail); clear hK K))); refine wpQuiet_nil ?_; rintro _ ⟨⟨osq, dq⟩, rfl⟩
  go_wp2
  go_end0
  have K := HV.out.on (show Junk V _ from ⟨osq, dq, rfl⟩)
  exact ⟨rfl, ⟨K.box, K.ls, ⟨n, ck, K.mm⟩, h0, h1⟩, K.t⟩
end Go.Proofs.YtfhkhnoiolkkdaaGreatDoor
set_option linter.unusedVariables false
set_option maxRecDepth 100000
set_option linter.unusedSimpArgs false
namespace Go.Proofs.YtfhkhnoiolkkdaaGreatDoor
open Go.RowKit
theorem al_pop (a : Addr) (w : World) : (method 157 287 (.pointer (some a)) "Pop").run Tryz.prog w = .ok (338, .pointer (some a)) w := by kernel_rfl
theorem al_swap (a : Addr) (w : World) : (method 157 287 (.pointer (some a)) "Swap").run Tryz.prog w = .ok (340, .pointer (some a)) w := by kernel_rfl
theorem al_field (till : Int) (w : World) : (Instr.field 285 (.agg #[.int .i64 0, .int .i64 till]) 0).run Tryz.prog w = .ok (.int .i64 0) w := by kernel_rfl
def LX (wh mp li : Nat) : Nat → Prop := fun k => k = wh ∨ k = mp ∨ k = li
set_option maxHeartbeats 1000000 in
theorem hpop_any (wh mp li lc : Nat) (till now : Int) (w : World) (h : Wh1 w wh mp li lc till now) :
    Calls Tryz.prog 157 #[.iface 287 (.pointer (some ⟨wh, 0, none⟩))] w fun e w' => e = .returned (.iface 285 (.agg #[.int .i64 0, .int .i64 till])) ∧ Wh0 w' wh mp (some ⟨li, 0, none⟩) lc now ∧ Tch (LX wh mp li) w w' := by
  have HH := Lib.hid h
  have z0 := h.box.cell (j := 0) rfl
  have z1 := h.box.lt
  clear h
  have n1 := al_nil ⟨wh, 0, none⟩ "Pop" (by simp)
  have n2 := al_nil ⟨wh, 0, none⟩ "Len" (by simp)
  have n3 := al_nil ⟨wh, 0, none⟩ "Swap" (by simp)
  have m1 := al_pop ⟨wh, 0, none⟩
  have m2 := al_len ⟨wh, 0, none⟩
  have m3 := al_swap ⟨wh, 0, none⟩
  go_enter Tryz.func157, Tryz.ntmps157
  go_wp2_with (first | (go_at_call 156; (with_reducible refine (alen_any 1 _ _ _ z1 z0).mono ?_); rintro e w' ⟨rfl, ⟨osn, dn, rfl⟩⟩) | (go_at_call 340; (with_reducible refine (aswap_any wh mp li lc till now _ (HH.out.on (by (exact jkc)))).mono ?_); rintro e V ⟨rfl, hW, hT⟩; have HW := Lib.hid (And.intro hW hT); clear hW hT) | (go_at_call 239; (with_reducible refine (hdown_any 0 (by decide) _).mono ?_); rintro e w' ⟨rfl, ⟨osj, dj, rfl⟩⟩) | (go_at_call 338; (with_reducible refine (apop_any wh mp li lc till now _ (HW.out.1.on (by (exact jkc)))).mono ?_); rintro e X ⟨rfl, hW, hT⟩; have HX := Lib.hid (And.intro hW hT); clear hW hT))
  go_ret
  exact ⟨rfl, HX.out.1.on (by (exact jkc)), ((((Tch.of_junk (by (exact jkc))).trans (HW.out.2.mono (L' := LX wh mp li) (fun k hk => .inr (.inr hk)))).trans (Tch.of_junk (by (exact jkc)))).trans (HX.out.2.mono (L' := LX wh mp li) (fun k hk => hk.elim .inl (fun h => .inr (.inl h))))).on (by (exact jkc))⟩
set_option maxHeartbeats 1000000 in
theorem wtick1b (wh mp li lc : Nat) (till now n2 : Int) (w : World) (h : Wh1 w wh mp li lc till now) (h1 : now ≤ n2) (h2 : n2 ≤ 1099511627776) (h3 : till ≤ n2) :
    Calls Tryz.prog 88 #[.pointer (some ⟨wh, 0, none⟩), .int .i64 n2] w fun e w' => (∃ g cap, e = .returned (.tuple #[.slice (some ⟨g, 0, none⟩) 1 cap, .int .i64 0]) ∧ g < w'.heap.size ∧ w'.cell? ⟨g, 0, none⟩ = some (.int .i64 0) ∧ w.heap.size ≤ g) ∧ Wh0 w' wh mp (some ⟨li, 0, none⟩) lc n2 ∧ Tch (LX wh mp li) w w' := by
  have T1 : Tch (fun k => k = wh) w (w.setCell ⟨wh, 2, none⟩ (.int .i64 n2)) := (Tch.refl (L := fun k => k = wh) w).set _ (fun _ => rfl)
  have HS := Lib.hid (show Wh1 (w.setCell ⟨wh, 2, none⟩ (.int .i64 n2)) wh mp li lc till n2 from ⟨h.box.set 2 _, own_keep h.ls T1 (fun e => h.ne.2 e.symm), h.mm.tch T1 (fun e => h.ne.1 e.symm), h.ne⟩)
  have HT := Lib.hid T1
  have z3 := h.box.cell (j := 2) rfl
  have zf := h.box.frozen 2
  have z9 := h.box.lt
  have z0 := HS.out.box.cell (j := 0) rfl
  have z1 := HS.out.box.lt
  obtain ⟨x0, x1, x2, x3, x4⟩ := HS.out.lt
  clear h T1 x3 x4
  have q0 : ¬ n2 < now := by omega
  have q1 : ¬ 1099511627776 < n2 := by omega
  clear h1 h2
  have hta := al_assert till
  have hfl := al_field till
  go_enter Tryz.func88, Tryz.ntmps88
  go_wp2
  generalize w.setCell ⟨wh, 2, none⟩ (.int .i64 n2) = V at HS HT z0 z1 x0 x1 x2 ⊢
  clear z3 zf z9
  refine wp_loop_rounds 2 ?_
  rw [rounds_succ]
  go_wp2_with (first | (go_at_call 156; (with_reducible refine (alen_any 1 _ _ _ z1 z0).mono ?_); rintro e w' ⟨rfl, ⟨osn, dn, rfl⟩⟩) | (go_at_call 157; (with_reducible refine (hpop_any wh mp li lc till n2 _ (HS.out.on (by (exact jkc)))).mono ?_); rintro e X ⟨rfl, hW, hT⟩; have HX := Lib.hid (And.intro hW hT); have i0 := hW.box.cell (j := 0) rfl; have i1 := hW.box.lt; clear hW hT) | (at_builtin; (refine ap_own (W0 := X) rfl _ _ 181 rfl 3 (.int .i64 0) 1 8 (by kernel_rfl) rfl (by decide) Tryz.underlying181 (by (exact jkc)) _ 0 0 [] rfl (Own.nil _ _ _ _) _ 1 1 rfl [_] rfl (built_cells (by simp)) (fun h => by cases h) (by simp [Value.oneCell']) (by simp only [maxLen]; omega) (by omega) ?_; intro oa1 cap1 os1 d1 hown _; have HO := Lib.hid hown; clear hown)))
  rw [rounds_succ]
  go_wp2_with (first | (go_at_call 156; (with_reducible refine (alen_any 0 _ _ _ (HX.out.1.on (by (exact jkc))).box.lt ((HX.out.1.on (by (exact jkc))).box.cell (j := 0) rfl)).mono ?_); rintro e w' ⟨rfl, ⟨osm, dm, rfl⟩⟩))
  go_returns
  have ho := HO.out
  rw [List.nil_append, Nat.zero_add] at ho
  obtain ⟨g, rfl, hg1, hg2, hc⟩ := own_some ho (by omega)
  have T2 : Tch (LX wh mp li) w X := ((HT.out.mono (fun k hk => .inl hk)).trans (Tch.of_junk ⟨_, _, rfl⟩)).trans HX.out.2
  have hs := T2.size
  exact ⟨⟨g, cap1, rfl, Nat.lt_of_lt_of_le hg2 (Junk.size (by (exact jkc))), (Tch.of_junk (L := fun _ => False) (by (exact jkc))).cell (hc 0 _ rfl).1 (fun e => e), by omega⟩, HX.out.1.on (by (exact jkc)), T2.on (by (exact jkc))⟩
end Go.Proofs.YtfhkhnoiolkkdaaGreatDoor
set_option linter.unusedVariables false
set_option maxRecDepth 100000
set_option linter.unusedSimpArgs false
namespace Go.Proofs.YtfhkhnoiolkkdaaGreatDoor
open Go.RowKit Go.Ix
structure Fl where
  there : Tup
  back : Tup
  till : Int
  note : Int
def Fl.cells (f : Fl) : List Value := [.int .i64 f.there.proto, .int .u32 f.there.src, .int .i64 f.there.sport, .int .u32 f.there.dst, .int .i64 f.there.dport, .int .i64 f.back.proto, .int .u32 f.back.src, .int .i64 f.back.sport, .int .u32 f.back.dst, .int .i64 f.back.dport, .int .i64 f.till, .int .i64 f.note]
def fl0 : List Value := [.int .i64 0, .int .u32 0, .int .i64 0, .int .u32 0, .int .i64 0, .int .i64 0, .int .u32 0, .int .i64 0, .int .u32 0, .int .i64 0, .int .i64 0, .int .i64 0]
def slotL : Option Fl → List Value
  | none => .bool false :: fl0
  | some f => .bool true :: f.cells
theorem slotL_len (o : Option Fl) : (slotL o).length = 13 := by cases o <;> rfl
def rowsL (o : Option Fl) : List (List Value) := slotL o :: List.replicate 255 (slotL none)
def slL (o : Option Fl) : List Value := (rowsL o).flatten
theorem rowsL_13 (o : Option Fl) : ∀ r ∈ rowsL o, r.length = 13 := fun r hr => by
  rcases List.mem_cons.1 hr with rfl | h
  · exact slotL_len o
  · rw [List.eq_of_mem_replicate h]; exact slotL_len none
theorem rowsL_at (o : Option Fl) {i : Nat} (hi : i < 256) : (rowsL o)[i]? = some (slotL (if i = 0 then o else none)) := by
  unfold rowsL
  cases i with
  | zero => rfl
  | succ i => rw [List.getElem?_cons_succ, List.getElem?_replicate, if_pos (by omega), if_neg (by omega)]
theorem slL_at (o : Option Fl) {i j : Nat} (hi : i < 256) (hj : j < 13) : (slL o)[i * 13 + j]? = (slotL (if i = 0 then o else none))[j]? := flat_get (rowsL_13 o) (rowsL_at o hi) hj
theorem slL_len (o : Option Fl) : (slL o).length = 3328 := by
  unfold slL
  rw [flat_len (rowsL_13 o)]
  simp [rowsL]
theorem slL_put (o p : Option Fl) : (slL o).take 0 ++ slotL p ++ (slL o).drop (0 + (slotL p).length) = slL p := by
  have h := flat_put (rowsL_13 o) (i := 0) (by simp [rowsL]) (slotL_len p)
  rw [Nat.zero_mul] at h
  exact h
theorem sl_free {w : World} {sl : Nat} {o : Option Fl} (h : Box w sl 191 (slL o)) {i : Nat} (hi : i < 256) (ho : i = 0 → o = none) :
    w.cell? ⟨sl, i * 13, none⟩ = some (.bool false) ∧ w.cell? ⟨sl, i * 13 + 1, none⟩ = some (.int .i64 0) ∧ w.cell? ⟨sl, i * 13 + 2, none⟩ = some (.int .u32 0) ∧ w.cell? ⟨sl, i * 13 + 3, none⟩ = some (.int .i64 0) ∧ w.cell? ⟨sl, i * 13 + 4, none⟩ = some (.int .u32 0) ∧ w.cell? ⟨sl, i * 13 + 5, none⟩ = some (.int .i64 0) ∧ w.cell? ⟨sl, i * 13 + 6, none⟩ = some (.int .i64 0) ∧ w.cell? ⟨sl, i * 13 + 7, none⟩ = some (.int .u32 0) ∧ w.cell? ⟨sl, i * 13 + 8, none⟩ = some (.int .i64 0) ∧ w.cell? ⟨sl, i * 13 + 9, none⟩ = some (.int .u32 0) ∧ w.cell? ⟨sl, i * 13 + 10, none⟩ = some (.int .i64 0) ∧ w.cell? ⟨sl, i * 13 + 11, none⟩ = some (.int .i64 0) ∧ w.cell? ⟨sl, i * 13 + 12, none⟩ = some (.int .i64 0) := by
  have e : (if i = 0 then o else none) = none := by
    by_cases h0 : i = 0
    · rw [if_pos h0]; exact ho h0
    · rw [if_neg h0]
  have g : ∀ j v, j < 13 → (slotL none)[j]? = some v → w.cell? ⟨sl, i * 13 + j, none⟩ = some v := fun j v hj hv => h.cell (by rw [slL_at o hi hj, e]; exact hv)
  exact ⟨g 0 _ (by decide) rfl, g 1 _ (by decide) rfl, g 2 _ (by decide) rfl, g 3 _ (by decide) rfl, g 4 _ (by decide) rfl, g 5 _ (by decide) rfl, g 6 _ (by decide) rfl, g 7 _ (by decide) rfl, g 8 _ (by decide) rfl, g 9 _ (by decide) rfl, g 10 _ (by decide) rfl, g 11 _ (by decide) rfl, g 12 _ (by decide) rfl⟩
theorem sl_flow {w : World} {sl : Nat} {f : Fl} (h : Box w sl 191 (slL (some f))) :
    w.cell? ⟨sl, 0, none⟩ = some (.bool true) ∧ w.cell? ⟨sl, 1, none⟩ = some (.int .i64 f.there.proto) ∧ w.cell? ⟨sl, 2, none⟩ = some (.int .u32 f.there.src) ∧ w.cell? ⟨sl, 3, none⟩ = some (.int .i64 f.there.sport) ∧ w.cell? ⟨sl, 4, none⟩ = some (.int .u32 f.there.dst) ∧ w.cell? ⟨sl, 5, none⟩ = some (.int .i64 f.there.dport) ∧ w.cell? ⟨sl, 6, none⟩ = some (.int .i64 f.back.proto) ∧ w.cell? ⟨sl, 7, none⟩ = some (.int .u32 f.back.src) ∧ w.cell? ⟨sl, 8, none⟩ = some (.int .i64 f.back.sport) ∧ w.cell? ⟨sl, 9, none⟩ = some (.int .u32 f.back.dst) ∧ w.cell? ⟨sl, 10, none⟩ = some (.int .i64 f.back.dport) ∧ w.cell? ⟨sl, 11, none⟩ = some (.int .i64 f.till) ∧ w.cell? ⟨sl, 12, none⟩ = some (.int .i64 f.note) := by
  have g : ∀ j v, j < 13 → (slotL (some f))[j]? = some v → w.cell? ⟨sl, j, none⟩ = some v := fun j v hj hv => h.cell (by have := slL_at (some f) (i := 0) (by decide) hj; rw [Nat.zero_mul, Nat.zero_add, if_pos rfl] at this; rw [this]; exact hv)
  exact ⟨g 0 _ (by decide) rfl, g 1 _ (by decide) rfl, g 2 _ (by decide) rfl, g 3 _ (by decide) rfl, g 4 _ (by decide) rfl, g 5 _ (by decide) rfl, g 6 _ (by decide) rfl, g 7 _ (by decide) rfl, g 8 _ (by decide) rfl, g 9 _ (by decide) rfl, g 10 _ (by decide) rfl, g 11 _ (by decide) rfl, g 12 _ (by decide) rfl⟩
structure FS0 (w : World) (s sl tb tc wh mp : Nat) (oa : Option Addr) (c : Nat) (now : Int) : Prop where
  bs : Box w s 188 [.slice (some ⟨sl, 0, none⟩) 256 256, .slice (some ⟨tb, 0, none⟩) 1024 tc, .pointer (some ⟨wh, 0, none⟩), .int .i64 0]
  bl : Box w sl 191 (slL none)
  bt : Own 0 w 324 7 (some ⟨tb, 0, none⟩) tc 1024 (tbL T0)
  bw : Wh0 w wh mp oa c now
  nd : s ≠ sl ∧ s ≠ tb ∧ s ≠ wh ∧ s ≠ mp ∧ sl ≠ tb ∧ sl ≠ wh ∧ sl ≠ mp ∧ tb ≠ wh ∧ tb ≠ mp
structure FS1 (w : World) (s sl tb tc wh mp li lc : Nat) (f : Fl) (now : Int) : Prop where
  bs : Box w s 188 [.slice (some ⟨sl, 0, none⟩) 256 256, .slice (some ⟨tb, 0, none⟩) 1024 tc, .pointer (some ⟨wh, 0, none⟩), .int .i64 1]
  bl : Box w sl 191 (slL (some f))
  bt : Own 0 w 324 7 (some ⟨tb, 0, none⟩) tc 1024 (tbL (T2 f.there 0 f.back 1))
  bw : Wh1 w wh mp li lc f.till now
  nd : s ≠ sl ∧ s ≠ tb ∧ s ≠ wh ∧ s ≠ mp ∧ s ≠ li ∧ sl ≠ tb ∧ sl ≠ wh ∧ sl ≠ mp ∧ sl ≠ li ∧ tb ≠ wh ∧ tb ≠ mp ∧ tb ≠ li
section
variable {L : Nat → Prop} {w w' : World} {s sl tb tc wh mp li lc c : Nat} {oa : Option Addr} {f : Fl} {now : Int}
theorem FS0.tch (h : FS0 w s sl tb tc wh mp oa c now) (t : Tch L w w') (h1 : ¬ L s) (h2 : ¬ L sl) (h3 : ¬ L tb) (h4 : ¬ L wh) (h5 : ¬ L mp) : FS0 w' s sl tb tc wh mp oa c now :=
  ⟨h.bs.tch t h1, h.bl.tch t h2, own_keep h.bt t h3, h.bw.tch t h4 h5, h.nd⟩
theorem FS1.tch (h : FS1 w s sl tb tc wh mp li lc f now) (t : Tch L w w') (h1 : ¬ L s) (h2 : ¬ L sl) (h3 : ¬ L tb) (h4 : ¬ L wh) (h5 : ¬ L mp) (h6 : ¬ L li) : FS1 w' s sl tb tc wh mp li lc f now :=
  ⟨h.bs.tch t h1, h.bl.tch t h2, own_keep h.bt t h3, h.bw.tch t h4 h5 h6, h.nd⟩
theorem FS0.on (h : FS0 w s sl tb tc wh mp oa c now) (j : Junk w w') : FS0 w' s sl tb tc wh mp oa c now := h.tch (L := fun _ => False) (Tch.of_junk j) (fun e => e) (fun e => e) (fun e => e) (fun e => e) (fun e => e)
theorem FS1.on (h : FS1 w s sl tb tc wh mp li lc f now) (j : Junk w w') : FS1 w' s sl tb tc wh mp li lc f now := h.tch (L := fun _ => False) (Tch.of_junk j) (fun e => e) (fun e => e) (fun e => e) (fun e => e) (fun e => e) (fun e => e)
end
theorem made_rows (z : Array Value) (n : Nat) (hz : 0 < z.size) : (madeCells z (n * z.size)).toList = (List.replicate n z.toList).flatten := by
  have hr : ∀ r ∈ List.replicate n z.toList, r.length = z.size := fun r hr => by rw [List.eq_of_mem_replicate hr]; simp
  have hl := flat_len hr
  rw [List.length_replicate] at hl
  apply List.ext_getElem?
  intro i
  by_cases hi : i < n * z.size
  · have h1 : i / z.size < n := (Nat.div_lt_iff_lt_mul hz).2 hi
    have h2 : i % z.size < z.size := Nat.mod_lt _ hz
    have h3 := flat_get hr (i := i / z.size) (r := z.toList) (by rw [List.getElem?_replicate, if_pos h1]) (j := i % z.size) h2
    rw [Nat.mul_comm, Nat.div_add_mod] at h3
    rw [h3]
    simp [madeCells, hi, h2]
  · rw [List.getElem?_eq_none (by simp [size_madeCells]; omega), List.getElem?_eq_none (by omega)]
theorem tb_made : (madeCells #[.bool false, .int .i64 0, .int .u32 0, .int .i64 0, .int .u32 0, .int .i64 0, .int .i64 0] (1024 * 7)).toList = tbL T0 := by
  have h := made_rows #[.bool false, .int .i64 0, .int .u32 0, .int .i64 0, .int .u32 0, .int .i64 0, .int .i64 0] 1024 (by decide)
  rw [show (1024 * 7 : Nat) = 1024 * (#[Value.bool false, .int .i64 0, .int .u32 0, .int .i64 0, .int .u32 0, .int .i64 0, .int .i64 0]).size from rfl, h]
  unfold tbL T0
  rw [List.map_replicate]
  rfl
theorem sl_made : (madeCells (slotL none).toArray (256 * 13)).toList = slL none := by
  have h := made_rows (slotL none).toArray 256 (by decide)
  rw [show (256 * 13 : Nat) = 256 * ((slotL none).toArray).size from rfl, h]
  unfold slL rowsL
  rw [show (256 : Nat) = 255 + 1 from rfl, List.replicate_succ]
theorem inew_any (w : World) : Calls Tryz.prog 106 #[.int .i64 1024] w fun e w' => ∃ g, e = .returned (.tuple #[.slice (some ⟨g, 0, none⟩) 1024 1024, .int .i64 0]) ∧ Junk w w' ∧ Own w.heap.size w' 324 7 (some ⟨g, 0, none⟩) 1024 1024 (tbL T0) := by
  obtain ⟨i, hi, hz0, hz1, hz2⟩ := info_parts (show (Tryz.prog.info? 324).map (fun i => (i.zero, i.size, i.bytes)) = some (some (.agg #[.bool false, .int .i64 0, .int .u32 0, .int .i64 0, .int .u32 0, .int .i64 0, .int .i64 0]), 7, 56) by kernel_rfl)
  go_enter Tryz.func106, Tryz.ntmps106
  go_wp2_with (first | (go_at_call 175; (with_reducible refine (iplaces_any _).mono ?_); rintro e w' ⟨rfl, ⟨osj, dj, rfl⟩⟩) | (at_make; refine wpList_make_full _ rfl _ _ 185 rfl w.heap.size 324 i _ 7 Tryz.underlying185 hi hz0 hz1 .i64 .i64 1024 1024 1024 rfl rfl rfl rfl (by rw [hz2]; decide) (by simp [maxLen]) (by simp) ?_; intro w3 ho hg; have HO := Lib.hid (And.intro ho hg); clear ho hg))
  go_returns
  have ho := HO.out.1
  rw [show (Value.agg #[.bool false, .int .i64 0, .int .u32 0, .int .i64 0, .int .u32 0, .int .i64 0, .int .i64 0]).cells = #[.bool false, .int .i64 0, .int .u32 0, .int .i64 0, .int .u32 0, .int .i64 0, .int .i64 0] from rfl, tb_made] at ho
  rw [show (w.junk osj dj).heap.size = w.heap.size + osj.size by simp] at ho
  exact ⟨w.heap.size + osj.size, rfl, below_of_grown (show Junk w (w.junk osj dj) from ⟨_, _, rfl⟩) HO.out.2 (fun k hk => by cases hk), ho⟩
end Go.Proofs.YtfhkhnoiolkkdaaGreatDoor
set_option linter.unusedVariables false
set_option maxRecDepth 100000
set_option linter.unusedSimpArgs false
namespace Go.Proofs.YtfhkhnoiolkkdaaGreatDoor
open Go.RowKit Go.Ix
theorem mk_slots (w : World) : (Instr.makeSlice 184 (.int .i64 256) (.int .i64 256)).run Tryz.prog w = .ok (.slice (some ⟨w.heap.size, 0, none⟩) 256 256) (w.alloc (.cells (madeCells (slotL none).toArray (256 * 13)) 191)) := by
  obtain ⟨i, hi, hz0, hz1, hz2⟩ := info_parts (show (Tryz.prog.info? 191).map (fun i => (i.zero, i.size, i.bytes)) = some (some (.agg (slotL none).toArray), 13, 104) by kernel_rfl)
  have h := run_make (P := Tryz.prog) w 184 191 i _ Tryz.underlying184 hi hz0 .i64 .i64 256 256 (by decide) (by decide) (by rw [hz2]; decide) (by decide)
  rw [h, hz1]
  rfl
theorem box_at' {n : Nat} {V : World} {cs : Array Value} {l : List Value} {e : TypeId} (hn : n = V.heap.size) (hl : cs.toList = l) : Box (V.alloc (.cells cs e)) n e l := by subst hn hl; exact box_new V cs e
set_option maxHeartbeats 1000000 in
theorem fnew_any (w : World) : Calls Tryz.prog 51 #[.int .i64 256] w fun e w' => ∃ s sl tb wh mp, e = .returned (.tuple #[.pointer (some ⟨s, 0, none⟩), .int .i64 0]) ∧ Junk w w' ∧ FS0 w' s sl tb 1024 wh mp none 0 0 ∧ w.heap.size ≤ s ∧ w.heap.size ≤ sl ∧ w.heap.size ≤ tb ∧ w.heap.size ≤ wh ∧ w.heap.size ≤ mp := by
  have hmk := mk_slots
  obtain ⟨M, hM⟩ : ∃ M, madeCells (slotL none).toArray (256 * 13) = M := ⟨_, rfl⟩
  rw [hM] at hmk
  have HM := Lib.hid (show M.toList = slL none by rw [← hM]; exact sl_made)
  clear hM
  go_enter Tryz.func51, Tryz.ntmps51
  go_upto_region 4 with (first | (go_at_call 106; (with_reducible refine (inew_any _).mono ?_); rintro e w' ⟨tb, rfl, ⟨osj, dj, rfl⟩, hO⟩; have HO := Lib.hid hO; clear hO))
  refine wp_region_mixTj (w.junk osj dj) (.q 0 (.q 2 (.two 1 (.e 3 (.q 4 (.e 5 (.q 6 (.q 7 .nil))))) 3 (.e 1 (.q 4 (.e 5 (.q 6 (.q 7 .nil)))))))) (by kernel_rfl) (by kernel_rfl) (by (exact jkc)) ?_; refine wpMixT_q rfl (fun K hK => ?_); (go_simp; try go_bits); (refine hK _ ?_; clear hK K); refine wpMixT_q rfl (fun K hK => ?_); (go_simp; try go_bits); (refine hK _ ?_; clear hK K); refine wpMixT_two ?_ ?_; refine wpMixT_e rfl (fun osm4_0 dm4_0 K hK => ?_); (go_simp; try go_bits); refine hK _ _ (Junk.pair (by (first | exact jkc | repeat (first | with_reducible exact Junk.refl _ | with_reducible exact Junk.app _ _ _ _ _ | with_reducible apply Junk.alloc | with_reducible apply Junk.junk | with_reducible apply Junk.drew | with_reducible apply Junk.drewN | (with_reducible refine Junk.setCell ?_ (by simp) _))))) ?_; clear hK K; refine wpMixT_e rfl (fun osm4_1 dm4_1 K hK => ?_); (go_simp; try go_bits); (go_at_call 107; (with_reducible refine (wnew_any _).mono ?_); rintro e w' ⟨wh, mp, rfl, ⟨osk, dk, rfl⟩, hW, hw1, hw2⟩; have HW := Lib.hid (And.intro hW (And.intro hw1 hw2)); clear hW hw1 hw2); refine hK _ _ (Junk.pair (by (first | exact jkc | repeat (first | with_reducible exact Junk.refl _ | with_reducible exact Junk.app _ _ _ _ _ | with_reducible apply Junk.alloc | with_reducible apply Junk.junk | with_reducible apply Junk.drew | with_reducible apply Junk.drewN | (with_reducible refine Junk.setCell ?_ (by simp) _))))) ?_; clear hK K; refine wpMixT_q rfl (fun K hK => ?_); (go_simp; try go_bits); (refine hK _ ?_; clear hK K); refine wpMixT_e rfl (fun osm4_2 dm4_2 K hK => ?_); (go_simp; try go_bits); refine hK _ _ (Junk.pair (by (first | exact jkc | repeat (first | with_reducible exact Junk.refl _ | with_reducible exact Junk.app _ _ _ _ _ | with_reducible apply Junk.alloc | with_reducible apply Junk.junk | with_reducible apply Junk.drew | with_reducible apply Junk.drewN | (with_reducible refine Junk.setCell ?_ (by simp) _))))) ?_; clear hK K; refine wpMixT_q rfl (fun K hK => ?_); (go_simp; try go_bits); (refine hK _ ?_; clear hK K); refine wpMixT_q rfl (fun K hK => ?_); (go_simp; try go_bits); (refine hK _ ?_; clear hK K); refine wpMixT_nil (fun osm dm => ?_); rotate_left; refine wpMixT_e rfl (fun osm4_3 dm4_3 K hK => ?_); (go_simp; try go_bits); (go_at_call 107; (with_reducible refine (wnew_any _).mono ?_); rintro e w' ⟨wh, mp, rfl, ⟨osk, dk, rfl⟩, hW, hw1, hw2⟩; have HW := Lib.hid (And.intro hW (And.intro hw1 hw2)); clear hW hw1 hw2); refine hK _ _ (Junk.pair (by (first | exact jkc | repeat (first | with_reducible exact Junk.refl _ | with_reducible exact Junk.app _ _ _ _ _ | with_reducible apply Junk.alloc | with_reducible apply Junk.junk | with_reducible apply Junk.drew | with_reducible apply Junk.drewN | (with_reducible refine Junk.setCell ?_ (by simp) _))))) ?_; clear hK K; refine wpMixT_e rfl (fun osm4_4 dm4_4 K hK => ?_); (go_simp; try go_bits); refine hK _ _ (Junk.pair (by (first | exact jkc | repeat (first | with_reducible exact Junk.refl _ | with_reducible exact Junk.app _ _ _ _ _ | with_reducible apply Junk.alloc | with_reducible apply Junk.junk | with_reducible apply Junk.drew | with_reducible apply Junk.drewN | (with_reducible refine Junk.setCell ?_ (by simp) _))))) ?_; clear hK K; refine wpMixT_q rfl (fun K hK => ?_); (go_simp; try go_bits); (refine hK _ ?_; clear hK K); refine wpMixT_e rfl (fun osm4_5 dm4_5 K hK => ?_); (go_simp; try go_bits); refine hK _ _ (Junk.pair (by (first | exact jkc | repeat (first | with_reducible exact Junk.refl _ | with_reducible exact Junk.app _ _ _ _ _ | with_reducible apply Junk.alloc | with_reducible apply Junk.junk | with_reducible apply Junk.drew | with_reducible apply Junk.drewN | (with_reducible refine Junk.setCell ?_ (by simp) _))))) ?_; clear hK K; refine wpMixT_q rfl (fun K hK => ?_); (go_simp; try go_bits); (refine hK _ ?_; clear hK K); refine wpMixT_q rfl (fun K hK => ?_); (go_simp; try go_bits); (refine hK _ ?_; clear hK K); refine wpMixT_nil (fun osm dm => ?_)
  · go_wp2
    go_returns
    have t1 := own_at_le HO.out
    have t2 := HW.out.1.box.lt
    have t3 := HW.out.1.mm.lt
    have t4 := HW.out.2
    simp at t1 t2 t3 t4
    refine ⟨_, w.heap.size + (osj.size + (osm4_3.size + (osk.size + osm4_4.size))), tb, wh, mp, rfl, by (exact jkc), ⟨(box_at (V := ((w.junk (osj ++ (osm4_3 ++ (osk ++ osm4_4))) dm4_4).alloc (.cells M 191)).junk osm4_5 dm4_5) (by simp)).on (by (exact jkc)), (box_at' (V := w.junk (osj ++ (osm4_3 ++ (osk ++ osm4_4))) dm4_4) (by simp) HM.out).on (by (exact jkc)), (HO.out.on (by (exact jkc))).lower (Nat.zero_le _), HW.out.1.on (by (exact jkc)), ?_⟩, ?_⟩
    all_goals omega
  · go_wp2
    go_returns
    have t1 := own_at_le HO.out
    have t2 := HW.out.1.box.lt
    have t3 := HW.out.1.mm.lt
    have t4 := HW.out.2
    simp at t1 t2 t3 t4
    refine ⟨_, w.heap.size + (osj.size + osm4_0.size), tb, wh, mp, rfl, by (exact jkc), ⟨(box_at (V := ((w.junk (osj ++ osm4_0) dm4_0).alloc (.cells M 191)).junk (osm4_1 ++ (osk ++ osm4_2)) dm4_2) (by simp)).on (by (exact jkc)), (box_at' (V := w.junk (osj ++ osm4_0) dm4_0) (by simp) HM.out).on (by (exact jkc)), (HO.out.on (by (exact jkc))).lower (Nat.zero_le _), HW.out.1.on (by (exact jkc)), ?_⟩, ?_⟩
    all_goals omega
end Go.Proofs.YtfhkhnoiolkkdaaGreatDoor
set_option linter.unusedVariables false
set_option maxRecDepth 100000
set_option linter.unusedSimpArgs false
namespace Go.Proofs.YtfhkhnoiolkkdaaGreatDoor
open Go.RowKit
set_option maxHeartbeats 4000000 in
theorem pk_hop (T T' src dst : Int) (bl : Nat) (body : Nat → Int) (oo ob : Option Addr) (oc bc : Nat) (w : World) (hT : 2 ≤ T ∧ T ≤ 255) (hT' : T - 1 = T') (hb : bl ≤ 1000) (hP : IpAt w (Pk T src dst bl body) oo oc ob bc) :
    Calls Tryz.prog 191 #[pkV T src dst bl oo ob oc bc] w fun e w' => ∃ (o1 o2 : Option Addr) (c1 c2 : Nat), e = .returned (.tuple #[pkV T' src dst bl o1 o2 c1 c2, .int .i64 0]) ∧ Junk w w' ∧ IpAt w' (Pk T' src dst bl body) o1 c1 o2 c2 := by
  have HP := Lib.hid hP
  have t1 : ¬ T ≤ 1 := by omega
  have t2 : wrap64 (T - 1) = T - 1 := by unfold wrap64; omega
  clear hP
  go_enter Tryz.func191, Tryz.ntmps191
  go_upto_region 4 with (fail)
  refine wp_region_mixm (((w.alloc (.cells #[.int .i64 0, .int .i64 0, .bool false, .bool false, .int .i64 0, .int .i64 T', .int .i64 17, .int .u32 src, .int .u32 dst, .slice oo 0 oc, .slice ob bl bc] 36)).alloc (.cells #[.int .i64 0, .int .i64 0, .bool false, .bool false, .int .i64 0, .int .i64 0, .int .i64 0, .int .u32 0, .int .u32 0, .slice none 0 0, .slice none 0 0] 36))) [7, 8, 9] [(0, true), (1, true), (3, true), (4, true), (2, false), (6, true), (5, false), (7, false), (8, false), (9, false)] (by kernel_rfl) (by kernel_rfl) (by (first | exact jkc | repeat (first | with_reducible exact Junk.refl _ | with_reducible exact Junk.app _ _ _ _ _ | with_reducible apply Junk.alloc | with_reducible apply Junk.junk | with_reducible apply Junk.drew | with_reducible apply Junk.drewN | (with_reducible refine Junk.setCell ?_ (by simp) _)))) ?_; (iterate 4 (refine wpMixM_q rfl (fun K hK => ?_); (go_simp; try go_bits); (refine hK _ ?_; clear hK K))); refine wpMixM_e rfl (fun osm4_0 dm4_0 K hK => ?_); (go_simp; try go_bits); (go_at_call 44; refine (clone_any oo 0 oc (fun _ => 0) _ (by omega) (HP.out.opts.on (by (exact jkc)))).mono ?_; rintro e w' ⟨oc1, cc1, rfl, ⟨osj1, dj1, rfl⟩, hcb, hcn, hcf⟩; (try simp only [World.junk_junk, Array.append_assoc] at hcb); have Hcb1 := Lib.hid hcb; have Hcf1 := Lib.hid hcf; clear hcb hcn hcf); refine hK _ _ (Junk.pair (by (first | exact jkc | repeat (first | with_reducible exact Junk.refl _ | with_reducible exact Junk.app _ _ _ _ _ | with_reducible apply Junk.alloc | with_reducible apply Junk.junk | with_reducible apply Junk.drew | with_reducible apply Junk.drewN | (with_reducible refine Junk.setCell ?_ (by simp) _))))) ?_; clear hK K; (iterate 1 (refine wpMixM_q rfl (fun K hK => ?_); (go_simp; try go_bits); (refine hK _ ?_; clear hK K))); refine wpMixM_e rfl (fun osm4_1 dm4_1 K hK => ?_); (go_simp; try go_bits); (go_at_call 44; refine (clone_any ob bl bc body _ (by omega) (HP.out.body.on (by (exact jkc)))).mono ?_; rintro e w' ⟨oc2, cc2, rfl, ⟨osj2, dj2, rfl⟩, hcb, hcn, hcf⟩; (try simp only [World.junk_junk, Array.append_assoc] at hcb); have Hcb2 := Lib.hid hcb; have Hcf2 := Lib.hid hcf; clear hcb hcn hcf); refine hK _ _ (Junk.pair (by (first | exact jkc | repeat (first | with_reducible exact Junk.refl _ | with_reducible exact Junk.app _ _ _ _ _ | with_reducible apply Junk.alloc | with_reducible apply Junk.junk | with_reducible apply Junk.drew | with_reducible apply Junk.drewN | (with_reducible refine Junk.setCell ?_ (by simp) _))))) ?_; clear hK K; refine wpMixM_late (by decide) rfl (fun osm4_2 dm4_2 K hK => ?_); (go_simp; try go_bits); refine hK _ _ ?_; clear hK K; refine wpMixM_late (by decide) rfl (fun osm4_3 dm4_3 K hK => ?_); (go_simp; try go_bits); refine hK _ _ ?_; clear hK K; refine wpMixM_late (by decide) rfl (fun osm4_4 dm4_4 K hK => ?_); (go_simp; try go_bits); refine hK _ _ ?_; clear hK K; refine wpMixM_nil (fun osm dm => ?_)
  (try simp only [World.junk_junk, Array.append_assoc])
  go_wp2
  go_returns
  exact ⟨_, _, _, _, rfl, by (exact jkc), bts_over2 (by simp) Hcb1.out (Hcf1.out.lower (by simp)) ⟨_, by repeat rw [Array.append_assoc]⟩, bts_over2 (by simp) Hcb2.out (Hcf2.out.lower (by simp)) ⟨_, by repeat rw [Array.append_assoc]⟩, HP.out.src, HP.out.dst⟩
set_option maxHeartbeats 4000000 in
theorem pk_piece (T src dst : Int) (bl : Nat) (body : Nat → Int) (oo : Option Addr) (b off : Nat) (oc bc : Nat) (w : World) (h0 : 0 < bl) (hb : bl ≤ 1000) (hP : IpAt w (Pk T src dst bl body) oo oc (some ⟨b, off, none⟩) bc) :
    Calls Tryz.prog 302 #[.agg #[.int .i64 0, .int .i64 0, .bool false, .bool false, .int .i64 0, .int .i64 T, .int .i64 17, .int .u32 src, .int .u32 dst, .slice oo 0 oc, .slice (some ⟨b, off, none⟩) bl bc, .int .i64 (bl : Int)], .int .i64 0] w fun e w' => ∃ (o1 o2 : Option Addr) (c1 c2 : Nat), e = .returned (pkV T src dst bl o1 o2 c1 c2) ∧ Junk w w' ∧ IpAt w' (Pk T src dst bl body) o1 c1 o2 c2 := by
  obtain ⟨ob, hob⟩ : ∃ o, (some ⟨b, off, none⟩ : Option Addr) = o := ⟨_, rfl⟩
  rw [hob] at hP
  have HP := Lib.hid hP
  have hlc : bl ≤ bc := hP.body.le
  have hcm : bc ≤ 9223372036854775807 := hP.body.cap
  subst hob
  have t1 : min (bl : Int) (bl : Int) = (bl : Int) := by omega
  have t2 : ¬ (bl : Int) < (bl : Int) := by omega
  have e1 : min ((0 : Int) + (bl : Int)) (bl : Int) = (bl : Int) := by omega
  have e2 : (0 : Int) ≤ (bl : Int) := by omega
  have e3 : (bl : Int) ≤ (bc : Int) := by omega
  clear hP
  go_enter Tryz.func302, Tryz.ntmps302
  go_wp2
  refine wp_region_mixj (((w.alloc (.cells #[.int .i64 0, .int .i64 0, .bool false, .bool false, .int .i64 0, .int .i64 T, .int .i64 17, .int .u32 src, .int .u32 dst, .slice oo 0 oc, .slice (some ⟨b, off, none⟩) bl bc, .int .i64 (bl : Int)] 421)).alloc (.cells #[.int .i64 0, .int .i64 0, .bool false, .bool false, .int .i64 0, .int .i64 0, .int .i64 0, .int .u32 0, .int .u32 0, .slice none 0 0, .slice none 0 0] 36))) [(0, true), (1, true), (2, true), (3, true), (4, true), (5, true), (6, true), (7, true), (8, true), (9, true), (10, true), (11, true), (12, true), (13, true), (14, true), (15, true), (16, true), (17, false), (18, true), (19, false)] (by kernel_rfl) (by kernel_rfl) (by (exact jkc)) ?_; (iterate 17 (refine wpMix_q rfl (fun K hK => ?_); (go_simp; try go_bits); (refine hK _ ?_; clear hK K))); refine wpMix_e rfl (fun osm3_0 dm3_0 K hK => ?_); (go_simp; try go_bits); refine hK _ _ (Junk.pair (by (first | exact jkc | repeat (first | with_reducible exact Junk.refl _ | with_reducible exact Junk.app _ _ _ _ _ | with_reducible apply Junk.alloc | with_reducible apply Junk.junk | with_reducible apply Junk.drew | with_reducible apply Junk.drewN | (with_reducible refine Junk.setCell ?_ (by simp) _))))) ?_; clear hK K; (iterate 1 (refine wpMix_q rfl (fun K hK => ?_); (go_simp; try go_bits); (refine hK _ ?_; clear hK K))); refine wpMix_e rfl (fun osm3_1 dm3_1 K hK => ?_); (go_simp; try go_bits); refine hK _ _ (Junk.pair (by (first | exact jkc | repeat (first | with_reducible exact Junk.refl _ | with_reducible exact Junk.app _ _ _ _ _ | with_reducible apply Junk.alloc | with_reducible apply Junk.junk | with_reducible apply Junk.drew | with_reducible apply Junk.drewN | (with_reducible refine Junk.setCell ?_ (by simp) _))))) ?_; clear hK K; refine wpMix_nil (fun osm dm => ?_)
  go_wp2
  (try simp only [World.junk_junk, Array.append_assoc]); refine wp_gen (fun osB dB => ?_)
  refine wp_region_mixj (((w.alloc (.cells #[.int .i64 0, .int .i64 0, .bool false, .bool false, .int .i64 0, .int .i64 T, .int .i64 17, .int .u32 src, .int .u32 dst, .slice oo 0 oc, .slice (some ⟨b, off, none⟩) bl bc, .int .i64 (bl : Int)] 421)).alloc (.cells #[.int .i64 0, .int .i64 0, .bool false, .bool false, .int .i64 0, .int .i64 0, .int .i64 0, .int .u32 0, .int .u32 0, .slice none 0 0, .slice none 0 0] 36))) [(0, true), (1, true), (2, true), (4, true), (5, true), (6, true), (7, true), (8, true), (9, true), (3, false), (11, true), (10, false), (12, false), (13, true), (14, false)] (by kernel_rfl) (by kernel_rfl) (by (exact jkc)) ?_; (iterate 9 (refine wpMix_q rfl (fun K hK => ?_); (go_simp; try go_bits); (refine hK _ ?_; clear hK K))); refine wpMix_e rfl (fun osm4_0 dm4_0 K hK => ?_); (go_simp; try go_bits); (go_at_call 44; refine (clone_any oo 0 oc (fun _ => 0) _ (by omega) (HP.out.opts.on (by (exact jkc)))).mono ?_; rintro e w' ⟨oc1, cc1, rfl, ⟨osj1, dj1, rfl⟩, hcb, hcn, hcf⟩; (try simp only [World.junk_junk, Array.append_assoc] at hcb); have Hcb1 := Lib.hid hcb; have Hcf1 := Lib.hid hcf; clear hcb hcn hcf); refine hK _ _ (Junk.pair (by (first | exact jkc | repeat (first | with_reducible exact Junk.refl _ | with_reducible exact Junk.app _ _ _ _ _ | with_reducible apply Junk.alloc | with_reducible apply Junk.junk | with_reducible apply Junk.drew | with_reducible apply Junk.drewN | (with_reducible refine Junk.setCell ?_ (by simp) _))))) ?_; clear hK K; (iterate 1 (refine wpMix_q rfl (fun K hK => ?_); (go_simp; try go_bits); (refine hK _ ?_; clear hK K))); refine wpMix_e rfl (fun osm4_1 dm4_1 K hK => ?_); (go_simp; try go_bits); (go_at_call 44; refine (clone_any (some ⟨b, off, none⟩) bl bc body _ (by omega) (HP.out.body.on (by (exact jkc)))).mono ?_; rintro e w' ⟨oc2, cc2, rfl, ⟨osj2, dj2, rfl⟩, hcb, hcn, hcf⟩; (try simp only [World.junk_junk, Array.append_assoc] at hcb); have Hcb2 := Lib.hid hcb; have Hcf2 := Lib.hid hcf; clear hcb hcn hcf); refine hK _ _ (Junk.pair (by (first | exact jkc | repeat (first | with_reducible exact Junk.refl _ | with_reducible exact Junk.app _ _ _ _ _ | with_reducible apply Junk.alloc | with_reducible apply Junk.junk | with_reducible apply Junk.drew | with_reducible apply Junk.drewN | (with_reducible refine Junk.setCell ?_ (by simp) _))))) ?_; clear hK K; refine wpMix_e rfl (fun osm4_2 dm4_2 K hK => ?_); (go_simp; try go_bits); refine hK _ _ (Junk.pair (by (first | exact jkc | repeat (first | with_reducible exact Junk.refl _ | with_reducible exact Junk.app _ _ _ _ _ | with_reducible apply Junk.alloc | with_reducible apply Junk.junk | with_reducible apply Junk.drew | with_reducible apply Junk.drewN | (with_reducible refine Junk.setCell ?_ (by simp) _))))) ?_; clear hK K; (iterate 1 (refine wpMix_q rfl (fun K hK => ?_); (go_simp; try go_bits); (refine hK _ ?_; clear hK K))); refine wpMix_e rfl (fun osm4_3 dm4_3 K hK => ?_); (go_simp; try go_bits); refine hK _ _ (Junk.pair (by (first | exact jkc | repeat (first | with_reducible exact Junk.refl _ | with_reducible exact Junk.app _ _ _ _ _ | with_reducible apply Junk.alloc | with_reducible apply Junk.junk | with_reducible apply Junk.drew | with_reducible apply Junk.drewN | (with_reducible refine Junk.setCell ?_ (by simp) _))))) ?_; clear hK K; refine wpMix_nil (fun osm dm => ?_)
  go_wp2
  all_goals (go_returns; exact ⟨_, _, _, _, rfl, by (exact jkc), bts_over2 (by simp) Hcb1.out (Hcf1.out.lower (by simp)) ⟨_, by repeat rw [Array.append_assoc]⟩, bts_over2 (by simp) Hcb2.out (Hcf2.out.lower (by simp)) ⟨_, by repeat rw [Array.append_assoc]⟩, HP.out.src, HP.out.dst⟩)
set_option maxHeartbeats 4000000 in
theorem pk_cut (T src dst : Int) (bl : Nat) (body : Nat → Int) (oo ob : Option Addr) (oc bc : Nat) (w : World) (hT : 0 ≤ T ∧ T ≤ 255) (h0 : 0 < bl) (hb : bl ≤ 1000) (hP : IpAt w (Pk T src dst bl body) oo oc ob bc) :
    Calls Tryz.prog 259 #[pkV T src dst bl oo ob oc bc, .int .i64 1500] w fun e w' => ∃ (n : Nat) (o1 o2 : Option Addr) (c1 c2 : Nat), e = .returned (.tuple #[.slice (some ⟨n, 0, none⟩) 1 1, .int .i64 0]) ∧ Junk w w' ∧ w.heap.size ≤ n ∧ Box w' n 36 [.int .i64 0, .int .i64 0, .bool false, .bool false, .int .i64 0, .int .i64 T, .int .i64 17, .int .u32 src, .int .u32 dst, .slice o1 0 c1, .slice o2 bl c2] ∧ IpAt w' (Pk T src dst bl body) o1 c1 o2 c2 := by
  have hmf : ∀ (fn : Fn) (first cap : Array Value) (w : World), (Instr.makeFunc fn first cap).run Tryz.prog w = .ok (.func fn first cap) w := fun _ _ _ _ => rfl
  obtain ⟨bb, off, rfl, -, -⟩ := hP.body.at_ 0 h0
  have HP := Lib.hid hP
  have HPUT := Lib.hid (fun w1 h => pk_put T src dst bl body oo (some ⟨bb, off, none⟩) oc bc w1 hT hb h)
  have HPI := Lib.hid (fun w1 h => pk_piece T src dst bl body oo bb off oc bc w1 h0 hb h)
  have t1 : (20 : Int) + (bl : Int) ≤ 1500 := by omega
  clear hP
  go_enter Tryz.func259, Tryz.ntmps259
  go_wp2_with (first | (go_at_call 28; (with_reducible refine (HPUT.out _ (HP.out.on (by (exact jkc)))).mono ?_); rintro e w' ⟨o1, c1, rfl, ⟨osP, dP, rfl⟩, -, -⟩) | (go_at_call 302; (with_reducible refine (HPI.out _ (HP.out.on (by (exact jkc)))).mono ?_); rintro e w' ⟨o3, o4, c3, c4, rfl, ⟨osQ, dQ, rfl⟩, hq⟩; (try simp only [World.junk_junk, Array.append_assoc] at hq); have HQ := Lib.hid hq; clear hq))
  go_returns
  refine ⟨_, o3, o4, c3, c4, rfl, by (exact jkc), ?_, ?_, HQ.out.on (by (exact jkc))⟩
  · omega
  · exact box_at' (by simp) rfl
end Go.Proofs.YtfhkhnoiolkkdaaGreatDoor
set_option linter.unusedVariables false
set_option maxRecDepth 100000
set_option linter.unusedSimpArgs false
namespace Go.Proofs.YtfhkhnoiolkkdaaGreatDoor
open Go.RowKit
structure Ro where
  net : Nat
  bits : Int
  zone : Int
  mtu : Int
deriving DecidableEq
structure Ru where
  fr : Int
  tt : Int
  proto : Int
  src : Nat
  dst : Nat
  srcBits : Int
  dstBits : Int
  lo : Int
  hi : Int
  action : Int
deriving DecidableEq
structure Fo where
  proto : Int
  port : Int
  addr : Nat
  tt : Int
  proxy : Bool
deriving DecidableEq
structure Cf where
  routes : List Ro
  rules : List Ru
  outside : Int
  pub : Nat
  lo : Int
  hi : Int
  fwds : List Fo
  tcp : Int
  other : Int
  budget : Int
deriving DecidableEq
def maskI (b : Int) : Int := 4294967295 * 2 ^ (32 - b).toNat % 4294967296
def rtMay (r : Ro) : Bool := decide (0 ≤ r.bits ∧ r.bits ≤ 32 ∧ bits .andNot .u32 (r.net : Int) (maskI r.bits) = 0 ∧ 0 ≤ r.zone ∧ r.zone < 8 ∧ 68 ≤ r.mtu ∧ r.mtu ≤ 65535)
def rtSame (a b : Ro) : Bool := decide (a.net = b.net ∧ a.bits = b.bits)
def rtsP (l : List Ro) : Prop := l.length ≤ 64 ∧ ∀ (i : Nat) (r : Ro), l[i]? = some r → rtMay r = true ∧ ∀ (j : Nat) (x : Ro), j < i → l[j]? = some x → rtSame x r = false
def ruMay (r : Ru) : Bool := decide (-1 ≤ r.fr ∧ r.fr ≤ 7 ∧ -1 ≤ r.tt ∧ r.tt ≤ 7 ∧ 0 ≤ r.srcBits ∧ r.srcBits ≤ 32 ∧ 0 ≤ r.dstBits ∧ r.dstBits ≤ 32 ∧ 0 ≤ r.lo ∧ r.lo ≤ r.hi ∧ r.hi ≤ 65535 ∧ 0 ≤ r.proto ∧ r.proto ≤ 255 ∧ 1 ≤ r.action ∧ r.action ≤ 2)
def rusP (l : List Ru) : Prop := l.length ≤ 64 ∧ ∀ r ∈ l, ruMay r = true
def fwMay (lo hi : Int) (f : Fo) : Bool := decide ((f.proto = 6 ∨ (f.proto = 17 ∧ f.proxy = false)) ∧ 1 ≤ f.port ∧ f.port ≤ 65535 ∧ 1 ≤ f.tt ∧ f.tt ≤ 65535 ∧ ¬ (lo ≤ f.port ∧ f.port ≤ hi))
def fwSame (a b : Fo) : Bool := decide (a.proto = b.proto ∧ a.port = b.port)
def fwsP (lo hi : Int) (l : List Fo) : Prop := l.length ≤ 32 ∧ ∀ (i : Nat) (r : Fo), l[i]? = some r → fwMay lo hi r = true ∧ ∀ (j : Nat) (x : Fo), j < i → l[j]? = some x → fwSame x r = false
def rightC (c : Cf) : Prop :=
  rtsP c.routes ∧ rusP c.rules ∧ (0 ≤ c.outside ∧ c.outside ≤ 7) ∧ (1 ≤ c.lo ∧ c.lo ≤ c.hi ∧ c.hi ≤ 65535) ∧ fwsP c.lo c.hi c.fwds ∧
    (1 ≤ c.tcp ∧ c.tcp ≤ 1048576) ∧ (1 ≤ c.other ∧ c.other ≤ 1048576) ∧ (0 ≤ c.budget ∧ c.budget ≤ 1000)
def Ro.cells (r : Ro) : List Value := [.int .u32 r.net, .int .i64 r.bits, .int .i64 r.zone, .int .i64 r.mtu]
def Ru.cells (r : Ru) : List Value := [.int .i64 r.fr, .int .i64 r.tt, .int .i64 r.proto, .int .u32 r.src, .int .u32 r.dst, .int .i64 r.srcBits, .int .i64 r.dstBits, .int .i64 r.lo, .int .i64 r.hi, .int .i64 r.action]
def Fo.cells (f : Fo) : List Value := [.int .i64 f.proto, .int .i64 f.port, .int .u32 f.addr, .int .i64 f.tt, .bool f.proxy]
end Go.Proofs.YtfhkhnoiolkkdaaGreatDoor
set_option linter.unusedVariables false
set_option maxRecDepth 100000
set_option linter.unusedSimpArgs false
namespace Go.Proofs.YtfhkhnoiolkkdaaGreatDoor
open Go.RowKit
variable {L L' : Nat → Prop} {w w' w'' : World}
set_option maxHeartbeats 1000000 in
theorem cwithin_any (n a b : Int) (w : World) : Calls Tryz.prog 102 #[.int .i64 n, .int .i64 a, .int .i64 b] w fun e w' => e = .returned (.bool (decide (a ≤ n ∧ n ≤ b))) ∧ w' = w := by
  go_enter Tryz.func102, Tryz.ntmps102
  go_wp2
  all_goals go_ret
  all_goals refine ⟨?_, rfl⟩
  all_goals (congr 2; simp; try omega)
set_option maxHeartbeats 1000000 in
theorem within14_any (n a b : Int) (w : World) : Calls Tryz.prog 250 #[.int .i64 n, .int .i64 a, .int .i64 b] w fun e w' => e = .returned (.bool (decide (a ≤ n ∧ n ≤ b))) ∧ w' = w := by
  go_enter Tryz.func250, Tryz.ntmps250
  go_wp2
  all_goals go_ret
  all_goals refine ⟨?_, rfl⟩
  all_goals (congr 2; simp; try omega)
set_option maxHeartbeats 1000000 in
theorem cmask_any (b : Int) (h : 0 ≤ b ∧ b ≤ 32) (w : World) : Calls Tryz.prog 248 #[.int .i64 b] w fun e w' => e = .returned (.int .u32 (maskI b)) ∧ Junk w w' := by
  have h1 : ¬ 32 < b := by omega
  go_enter Tryz.func248, Tryz.ntmps248
  go_wp2
  go_ret
  exact ⟨rfl, Junk.refl _⟩
theorem rtMay_eq (a : Nat) (b z m : Int) : rtMay ⟨a, b, z, m⟩ = decide (0 ≤ b ∧ b ≤ 32 ∧ bits .andNot .u32 (a : Int) (maskI b) = 0 ∧ 0 ≤ z ∧ z < 8 ∧ 68 ≤ m ∧ m ≤ 65535) := rfl
set_option maxHeartbeats 4000000 in
/-- May a route be? -/
theorem rmay_any13 (a : Nat) (b z m : Int) (w : World) : Calls Tryz.prog 168 #[.agg #[.int .u32 a, .int .i64 b, .int .i64 z, .int .i64 m]] w fun e w' => e = .returned (.bool (rtMay ⟨a, b, z, m⟩)) ∧ Junk w w' := by
  rw [rtMay_eq]
  by_cases hb : 0 ≤ b ∧ b ≤ 32
  case neg =>
    rw [decide_eq_false (fun h => hb ⟨h.1, h.2.1⟩)]
    by_cases hb0 : 0 ≤ b
    · have hb1 : ¬ b ≤ 32 := fun h => hb ⟨hb0, h⟩
      clear hb
      go_enter Tryz.func168, Tryz.ntmps168
      go_upto_region 1 with (fail)
      refine wp_region_junk (by kernel_rfl) (by kernel_rfl) ?_; (repeat (go_big_quiet_step (first | fail))); refine wpQuiet_nil ?_; rintro _ ⟨⟨osq, dq⟩, rfl⟩
      go_wp2
      go_ret
      exact ⟨rfl, by (exact jkc)⟩
    · clear hb
      go_enter Tryz.func168, Tryz.ntmps168
      go_upto_region 1 with (fail)
      refine wp_region_junk (by kernel_rfl) (by kernel_rfl) ?_; (repeat (go_big_quiet_step (first | fail))); refine wpQuiet_nil ?_; rintro _ ⟨⟨osq, dq⟩, rfl⟩
      go_wp2
      go_ret
      exact ⟨rfl, by (exact jkc)⟩
  have HM := Lib.hid (fun w => cmask_any b hb w)
  have h1 := hb.1
  have h2 := hb.2
  obtain ⟨x, hx⟩ : ∃ x, bits .andNot .u32 (a : Int) (maskI b) = x := ⟨_, rfl⟩
  rw [hx]
  obtain ⟨k, hk⟩ : ∃ k, maskI b = k := ⟨_, rfl⟩
  rw [hk] at HM hx
  by_cases hx0 : x = 0
  case neg =>
    rw [decide_eq_false (fun h => hx0 h.2.2.1)]
    have hx1 : (x == 0) = false := by simpa using hx0
    clear hb hk hx0
    go_enter Tryz.func168, Tryz.ntmps168
    go_upto_region 1 with (fail)
    refine wp_region_junk (by kernel_rfl) (by kernel_rfl) ?_; (repeat (go_big_quiet_step (first | (go_at_call 248; exact Calls.junk_of (HM.out _))))); refine wpQuiet_nil ?_; rintro _ ⟨⟨osq, dq⟩, rfl⟩
    go_wp2
    go_ret
    exact ⟨rfl, by (exact jkc)⟩
  subst hx0
  clear hb hk
  by_cases h3 : 0 ≤ z
  case neg =>
    rw [decide_eq_false (fun h => h3 h.2.2.2.1)]
    go_enter Tryz.func168, Tryz.ntmps168
    go_upto_region 1 with (fail)
    refine wp_region_junk (by kernel_rfl) (by kernel_rfl) ?_; (repeat (go_big_quiet_step (first | (go_at_call 248; exact Calls.junk_of (HM.out _))))); refine wpQuiet_nil ?_; rintro _ ⟨⟨osq, dq⟩, rfl⟩
    go_wp2
    go_ret
    exact ⟨rfl, by (exact jkc)⟩
  by_cases h4 : z < 8
  case neg =>
    rw [decide_eq_false (fun h => h4 h.2.2.2.2.1)]
    go_enter Tryz.func168, Tryz.ntmps168
    go_upto_region 1 with (fail)
    refine wp_region_junk (by kernel_rfl) (by kernel_rfl) ?_; (repeat (go_big_quiet_step (first | (go_at_call 248; exact Calls.junk_of (HM.out _))))); refine wpQuiet_nil ?_; rintro _ ⟨⟨osq, dq⟩, rfl⟩
    go_wp2
    go_ret
    exact ⟨rfl, by (exact jkc)⟩
  by_cases h5 : 68 ≤ m
  case neg =>
    rw [decide_eq_false (fun h => h5 h.2.2.2.2.2.1)]
    go_enter Tryz.func168, Tryz.ntmps168
    go_upto_region 1 with (fail)
    refine wp_region_junk (by kernel_rfl) (by kernel_rfl) ?_; (repeat (go_big_quiet_step (first | (go_at_call 248; exact Calls.junk_of (HM.out _))))); refine wpQuiet_nil ?_; rintro _ ⟨⟨osq, dq⟩, rfl⟩
    go_wp2
    go_ret
    exact ⟨rfl, by (exact jkc)⟩
  by_cases h6 : m ≤ 65535
  case neg =>
    rw [decide_eq_false (fun h => h6 h.2.2.2.2.2.2)]
    go_enter Tryz.func168, Tryz.ntmps168
    go_upto_region 1 with (fail)
    refine wp_region_junk (by kernel_rfl) (by kernel_rfl) ?_; (repeat (go_big_quiet_step (first | (go_at_call 248; exact Calls.junk_of (HM.out _))))); refine wpQuiet_nil ?_; rintro _ ⟨⟨osq, dq⟩, rfl⟩
    go_wp2
    go_ret
    exact ⟨rfl, by (exact jkc)⟩
  rw [decide_eq_true ⟨h1, h2, rfl, h3, h4, h5, h6⟩]
  go_enter Tryz.func168, Tryz.ntmps168
  go_upto_region 1 with (fail)
  refine wp_region_junk (by kernel_rfl) (by kernel_rfl) ?_; (repeat (go_big_quiet_step (first | (go_at_call 248; exact Calls.junk_of (HM.out _))))); refine wpQuiet_nil ?_; rintro _ ⟨⟨osq, dq⟩, rfl⟩
  go_wp2
  go_ret
  exact ⟨rfl, by (exact jkc)⟩
theorem ruMay_eq (fr tt p : Int) (s d : Nat) (sb db lo hi a : Int) : ruMay ⟨fr, tt, p, s, d, sb, db, lo, hi, a⟩ = decide (-1 ≤ fr ∧ fr ≤ 7 ∧ -1 ≤ tt ∧ tt ≤ 7 ∧ 0 ≤ sb ∧ sb ≤ 32 ∧ 0 ≤ db ∧ db ≤ 32 ∧ 0 ≤ lo ∧ lo ≤ hi ∧ hi ≤ 65535 ∧ 0 ≤ p ∧ p ≤ 255 ∧ 1 ≤ a ∧ a ≤ 2) := rfl
set_option maxHeartbeats 8000000 in
/-- May a rule be? -/
theorem umay_any14 (fr tt p : Int) (s d : Nat) (sb db lo hi a : Int) (w : World) : Calls Tryz.prog 173 #[.agg #[.int .i64 fr, .int .i64 tt, .int .i64 p, .int .u32 s, .int .u32 d, .int .i64 sb, .int .i64 db, .int .i64 lo, .int .i64 hi, .int .i64 a]] w fun e w' => e = .returned (.bool (ruMay ⟨fr, tt, p, s, d, sb, db, lo, hi, a⟩)) ∧ Junk w w' := by
  rw [ruMay_eq]
  obtain ⟨d1, e1⟩ : ∃ x, decide (-1 ≤ fr ∧ fr ≤ 7) = x := ⟨_, rfl⟩
  obtain ⟨d2, e2⟩ : ∃ x, decide (-1 ≤ tt ∧ tt ≤ 7) = x := ⟨_, rfl⟩
  obtain ⟨d3, e3⟩ : ∃ x, decide (0 ≤ sb ∧ sb ≤ 32) = x := ⟨_, rfl⟩
  obtain ⟨d4, e4⟩ : ∃ x, decide (0 ≤ db ∧ db ≤ 32) = x := ⟨_, rfl⟩
  obtain ⟨d5, e5⟩ : ∃ x, decide (0 ≤ lo ∧ lo ≤ hi) = x := ⟨_, rfl⟩
  obtain ⟨d6, e6⟩ : ∃ x, decide (0 ≤ p ∧ p ≤ 255) = x := ⟨_, rfl⟩
  obtain ⟨d7, e7⟩ : ∃ x, decide (1 ≤ a ∧ a ≤ 2) = x := ⟨_, rfl⟩
  obtain ⟨d8, e8⟩ : ∃ x, decide (hi ≤ 65535) = x := ⟨_, rfl⟩
  have hall : decide (-1 ≤ fr ∧ fr ≤ 7 ∧ -1 ≤ tt ∧ tt ≤ 7 ∧ 0 ≤ sb ∧ sb ≤ 32 ∧ 0 ≤ db ∧ db ≤ 32 ∧ 0 ≤ lo ∧ lo ≤ hi ∧ hi ≤ 65535 ∧ 0 ≤ p ∧ p ≤ 255 ∧ 1 ≤ a ∧ a ≤ 2) = (d1 && d2 && (d3 && d4) && (d5 && d8) && d6 && d7) := by
    rw [← e1, ← e2, ← e3, ← e4, ← e5, ← e6, ← e7, ← e8, Bool.eq_iff_iff]
    simp only [Bool.and_eq_true, decide_eq_true_eq]
    constructor
    · intro h; omega
    · intro h; omega
  rw [hall]
  have w1 := Lib.hid (fun w => show Calls Tryz.prog 250 #[.int .i64 fr, .int .i64 (-1), .int .i64 7] w fun e w' => e = .returned (.bool d1) ∧ w' = w from e1 ▸ within14_any fr (-1) 7 w)
  have w2 := Lib.hid (fun w => show Calls Tryz.prog 250 #[.int .i64 tt, .int .i64 (-1), .int .i64 7] w fun e w' => e = .returned (.bool d2) ∧ w' = w from e2 ▸ within14_any tt (-1) 7 w)
  have w3 := Lib.hid (fun w => show Calls Tryz.prog 250 #[.int .i64 sb, .int .i64 0, .int .i64 32] w fun e w' => e = .returned (.bool d3) ∧ w' = w from e3 ▸ within14_any sb 0 32 w)
  have w4 := Lib.hid (fun w => show Calls Tryz.prog 250 #[.int .i64 db, .int .i64 0, .int .i64 32] w fun e w' => e = .returned (.bool d4) ∧ w' = w from e4 ▸ within14_any db 0 32 w)
  have w5 := Lib.hid (fun w => show Calls Tryz.prog 250 #[.int .i64 lo, .int .i64 0, .int .i64 hi] w fun e w' => e = .returned (.bool d5) ∧ w' = w from e5 ▸ within14_any lo 0 hi w)
  have w6 := Lib.hid (fun w => show Calls Tryz.prog 250 #[.int .i64 p, .int .i64 0, .int .i64 255] w fun e w' => e = .returned (.bool d6) ∧ w' = w from e6 ▸ within14_any p 0 255 w)
  have w7 := Lib.hid (fun w => show Calls Tryz.prog 250 #[.int .i64 a, .int .i64 1, .int .i64 2] w fun e w' => e = .returned (.bool d7) ∧ w' = w from e7 ▸ within14_any a 1 2 w)
  clear e1 e2 e3 e4 e5 e6 e7 hall
  go_enter Tryz.func173, Tryz.ntmps173
  go_wp2_with (go_at_call 250; first
    | ((with_reducible refine (w1.out _).mono ?_); rintro e v ⟨rfl, rfl⟩)
    | ((with_reducible refine (w2.out _).mono ?_); rintro e v ⟨rfl, rfl⟩)
    | ((with_reducible refine (w3.out _).mono ?_); rintro e v ⟨rfl, rfl⟩)
    | ((with_reducible refine (w4.out _).mono ?_); rintro e v ⟨rfl, rfl⟩)
    | ((with_reducible refine (w5.out _).mono ?_); rintro e v ⟨rfl, rfl⟩)
    | ((with_reducible refine (w6.out _).mono ?_); rintro e v ⟨rfl, rfl⟩)
    | ((with_reducible refine (w7.out _).mono ?_); rintro e v ⟨rfl, rfl⟩))
  all_goals go_ret
  all_goals refine ⟨?_, by (exact jkc)⟩
  all_goals first | rfl | (simp_all; done) | trace_state
end Go.Proofs.YtfhkhnoiolkkdaaGreatDoor
set_option linter.unusedVariables false
set_option maxRecDepth 100000
set_option linter.unusedSimpArgs false
namespace Go.Proofs.YtfhkhnoiolkkdaaGreatDoor
open Go.RowKit
variable {L L' : Nat → Prop} {w w' w'' : World}
theorem fwMay_eq (lo hi p q t : Int) (a : Nat) (x : Bool) : fwMay lo hi ⟨p, q, a, t, x⟩ = decide ((p = 6 ∨ (p = 17 ∧ x = false)) ∧ 1 ≤ q ∧ q ≤ 65535 ∧ 1 ≤ t ∧ t ≤ 65535 ∧ ¬ (lo ≤ q ∧ q ≤ hi)) := rfl
set_option maxHeartbeats 8000000 in
/-- May a forward be? -/
theorem fmay_any15 (o0 : Option Addr) (n0 c0 : Nat) (o1 : Option Addr) (n1 c1 : Nat) (ou : Int) (pu : Nat) (lo hi : Int) (o6 : Option Addr) (n6 c6 : Nat) (tc ot bu : Int) (p q t : Int) (a : Nat) (x : Bool) (w : World) :
    Calls Tryz.prog 103 #[.agg #[.slice o0 n0 c0, .slice o1 n1 c1, .int .i64 ou, .int .u32 pu, .int .i64 lo, .int .i64 hi, .slice o6 n6 c6, .int .i64 tc, .int .i64 ot, .int .i64 bu], .agg #[.int .i64 p, .int .i64 q, .int .u32 a, .int .i64 t, .bool x]] w fun e w' => e = .returned (.bool (fwMay lo hi ⟨p, q, a, t, x⟩)) ∧ Junk w w' := by
  rw [fwMay_eq]
  obtain ⟨d1, e1⟩ : ∃ x, decide (1 ≤ q ∧ q ≤ 65535) = x := ⟨_, rfl⟩
  obtain ⟨d2, e2⟩ : ∃ x, decide (1 ≤ t ∧ t ≤ 65535) = x := ⟨_, rfl⟩
  obtain ⟨d3, e3⟩ : ∃ x, decide (lo ≤ q ∧ q ≤ hi) = x := ⟨_, rfl⟩
  obtain ⟨d4, e4⟩ : ∃ x, (p == 6) = x := ⟨_, rfl⟩
  obtain ⟨d5, e5⟩ : ∃ x, (p == 17) = x := ⟨_, rfl⟩
  have hall : decide ((p = 6 ∨ (p = 17 ∧ x = false)) ∧ 1 ≤ q ∧ q ≤ 65535 ∧ 1 ≤ t ∧ t ≤ 65535 ∧ ¬ (lo ≤ q ∧ q ≤ hi)) = ((d4 || (d5 && !x)) && d1 && d2 && !d3) := by
    rw [← e1, ← e2, ← e3, ← e4, ← e5, Bool.eq_iff_iff]
    simp only [Bool.and_eq_true, Bool.or_eq_true, decide_eq_true_eq, beq_iff_eq, Bool.not_eq_true', decide_eq_false_iff_not]
    constructor
    · rintro ⟨h1, h2, h3, h4, h5, h6⟩; exact ⟨⟨⟨h1, h2, h3⟩, h4, h5⟩, h6⟩
    · rintro ⟨⟨⟨h1, h2, h3⟩, h4, h5⟩, h6⟩; exact ⟨h1, h2, h3, h4, h5, h6⟩
  rw [hall]
  have w1 := Lib.hid (fun w => show Calls Tryz.prog 102 #[.int .i64 q, .int .i64 1, .int .i64 65535] w fun e w' => e = .returned (.bool d1) ∧ w' = w from e1 ▸ cwithin_any q 1 65535 w)
  have w2 := Lib.hid (fun w => show Calls Tryz.prog 102 #[.int .i64 t, .int .i64 1, .int .i64 65535] w fun e w' => e = .returned (.bool d2) ∧ w' = w from e2 ▸ cwithin_any t 1 65535 w)
  have w3 := Lib.hid (fun w => show Calls Tryz.prog 102 #[.int .i64 q, .int .i64 lo, .int .i64 hi] w fun e w' => e = .returned (.bool d3) ∧ w' = w from e3 ▸ cwithin_any q lo hi w)
  clear e1 e2 e3 hall
  go_enter Tryz.func103, Tryz.ntmps103
  go_wp2_with (go_at_call 102; first
    | ((with_reducible refine (w1.out _).mono ?_); rintro e v ⟨rfl, rfl⟩)
    | ((with_reducible refine (w2.out _).mono ?_); rintro e v ⟨rfl, rfl⟩)
    | ((with_reducible refine (w3.out _).mono ?_); rintro e v ⟨rfl, rfl⟩))
  all_goals go_ret
  all_goals refine ⟨?_, by (exact jkc)⟩
  all_goals first | rfl | (simp_all; done) | trace_state
theorem rsame_any13 (a : Nat) (b z m : Int) (a2 : Nat) (b2 z2 m2 : Int) (g : Nat) (w : World) (h0 : w.cell? ⟨g, 0, none⟩ = some (.int .u32 a2)) (h1 : w.cell? ⟨g, 1, none⟩ = some (.int .i64 b2)) :
    Calls Tryz.prog 170 #[.agg #[.int .u32 a, .int .i64 b, .int .i64 z, .int .i64 m], .pointer (some ⟨g, 0, none⟩)] w fun e w' => e = .returned (.bool (rtSame ⟨a, b, z, m⟩ ⟨a2, b2, z2, m2⟩)) ∧ Junk w w' := by
  have hlt : g < w.heap.size := World.block_lt_of_cell? w _ h0
  have hv : rtSame ⟨a, b, z, m⟩ ⟨a2, b2, z2, m2⟩ = (((a : Int) == (a2 : Int)) && (b == b2)) := by
    unfold rtSame
    rw [Bool.eq_iff_iff]
    simp only [Bool.and_eq_true, decide_eq_true_eq, beq_iff_eq]
    omega
  rw [hv]
  clear hv
  go_enter Tryz.func170, Tryz.ntmps170
  go_wp2
  all_goals go_ret
  all_goals refine ⟨?_, by (exact jkc)⟩
  all_goals first | rfl | (simp_all; done) | trace_state
theorem unot_any14 (r : Ru) (w : World) : Calls Tryz.prog 172 #[.agg r.cells.toArray] w fun e w' => e = .returned (.bool (!ruMay r)) ∧ Junk w w' := by
  obtain ⟨fr, tt, p, s, d, sb, db, lo, hi, a⟩ := r
  have HM := Lib.hid (fun w => umay_any14 fr tt p s d sb db lo hi a w)
  obtain ⟨v, hv⟩ : ∃ v, ruMay ⟨fr, tt, p, s, d, sb, db, lo, hi, a⟩ = v := ⟨_, rfl⟩
  rw [hv] at HM ⊢
  clear hv
  show Calls Tryz.prog 172 #[.agg #[.int .i64 fr, .int .i64 tt, .int .i64 p, .int .u32 s, .int .u32 d, .int .i64 sb, .int .i64 db, .int .i64 lo, .int .i64 hi, .int .i64 a]] w _
  go_enter Tryz.func172, Tryz.ntmps172
  go_wp2_with (go_at_call 173; (refine (HM.out _).mono ?_; rintro e v ⟨rfl, ⟨os, d2, rfl⟩⟩))
  go_ret
  exact ⟨rfl, by (exact jkc)⟩
theorem fsame_any15 (p q t : Int) (a : Nat) (x : Bool) (p2 q2 t2 : Int) (a2 : Nat) (x2 : Bool) (g : Nat) (w : World) (h0 : w.cell? ⟨g, 0, none⟩ = some (.int .i64 p2)) (h1 : w.cell? ⟨g, 1, none⟩ = some (.int .i64 q2)) :
    Calls Tryz.prog 105 #[.agg #[.int .i64 p, .int .i64 q, .int .u32 a, .int .i64 t, .bool x], .pointer (some ⟨g, 0, none⟩)] w fun e w' => e = .returned (.bool (fwSame ⟨p, q, a, t, x⟩ ⟨p2, q2, a2, t2, x2⟩)) ∧ Junk w w' := by
  have hlt : g < w.heap.size := World.block_lt_of_cell? w _ h0
  have hv : fwSame ⟨p, q, a, t, x⟩ ⟨p2, q2, a2, t2, x2⟩ = ((p == p2) && (q == q2)) := by
    unfold fwSame
    rw [Bool.eq_iff_iff]
    simp only [Bool.and_eq_true, decide_eq_true_eq, beq_iff_eq]
  rw [hv]
  clear hv
  go_enter Tryz.func105, Tryz.ntmps105
  go_wp2
  all_goals go_ret
  all_goals refine ⟨?_, by (exact jkc)⟩
  all_goals first | rfl | (simp_all; done) | trace_state
end Go.Proofs.YtfhkhnoiolkkdaaGreatDoor
set_option linter.unusedVariables false
set_option maxRecDepth 100000
set_option linter.unusedSimpArgs false
namespace Go.Proofs.YtfhkhnoiolkkdaaGreatDoor
open Go.RowKit
variable {L L' : Nat → Prop} {w w' w'' : World}
theorem any_at {α : Type} {M : List α} {pr : α → Bool} {k : Nat} {x : α} (hx : M[k]? = some x) (hp : pr x = true) : M.any pr = true := List.any_eq_true.2 ⟨x, List.mem_of_getElem? hx, hp⟩
theorem any_no {α : Type} {M : List α} {pr : α → Bool} (h : ∀ j, j < M.length → ∀ y, M[j]? = some y → pr y = false) : M.any pr = false := by
  rw [List.any_eq_false]
  intro x hx
  obtain ⟨j, hj⟩ := List.mem_iff_getElem?.1 hx
  have := h j (List.getElem?_eq_some_iff.1 hj).1 x hj
  rw [this]
  decide
def RosAt (w : World) (oa : Option Addr) (M : List Ro) : Prop := ∀ i x, M[i]? = some x → ∃ b off, oa = some ⟨b, off, none⟩ ∧ b < w.heap.size ∧ w.cell? ⟨b, off + i * 4, none⟩ = some (.int .u32 x.net) ∧ w.cell? ⟨b, off + i * 4 + 1, none⟩ = some (.int .i64 x.bits) ∧ w.cell? ⟨b, off + i * 4 + 2, none⟩ = some (.int .i64 x.zone) ∧ w.cell? ⟨b, off + i * 4 + 3, none⟩ = some (.int .i64 x.mtu)
theorem RosAt.on {oa : Option Addr} {M : List Ro} (h : RosAt w oa M) (hj : Junk w w') : RosAt w' oa M := fun i x hx => by
  obtain ⟨b, off, he, hlt, h0, h1, h2, h3⟩ := h i x hx
  obtain ⟨os, d, rfl⟩ := hj
  refine ⟨b, off, he, Nat.lt_of_lt_of_le hlt (by simp), (by rw [World.cell?_junk _ _ _ _ _ hlt]; exact h0), (by rw [World.cell?_junk _ _ _ _ _ hlt]; exact h1), (by rw [World.cell?_junk _ _ _ _ _ hlt]; exact h2), (by rw [World.cell?_junk _ _ _ _ _ hlt]; exact h3)⟩
theorem RosAt.take {oa : Option Addr} {M : List Ro} (h : RosAt w oa M) (k : Nat) : RosAt w oa (M.take k) := fun i x hx => by
  rw [List.getElem?_take] at hx
  split at hx
  · exact h i x hx
  · cases hx
theorem ro_index (oa : Option Addr) (l c : Nat) (M : List Ro) (pr : Ro → Bool) (v1 : Value) (w : World) (hl : l ≤ 1000000) (hL : M.length = l) (hS : RosAt w oa M)
    (hf : ∀ w1, Junk w w1 → ∀ x, M.any (fun y => decide (y = x)) = true → Calls Tryz.prog 170 #[.agg (Ro.cells x).toArray, v1] w1 fun e w' => e = .returned (.bool (pr x)) ∧ Junk w1 w') :
    Calls Tryz.prog 249 #[.slice oa l c, .func (.func 170) #[] #[v1]] w fun e w' => (∃ k : Int, e = .returned (.int .i64 k) ∧ decide (0 ≤ k) = M.any pr) ∧ Junk w w' := by
  have HS := Lib.hid hS
  have HF := Lib.hid hf
  clear hS hf
  obtain ⟨T, hT⟩ : ∃ T, T = M.any pr := ⟨_, rfl⟩
  rw [← hT]
  have HT := Lib.hid hT
  have HL := Lib.hid hL
  clear hT hL
  go_enter Tryz.func249, Tryz.ntmps249
  go_wp2
  go_loopw [8] (fun i wr => ∃ k : Nat, i = .int .i64 (k : Int) ∧ Junk w wr ∧ k ≤ l ∧ Hid (∀ j, j < k → ∀ y, M[j]? = some y → pr y = false)) (fun i _ => l + 1 - (intOf i).toNat)
  case atStart => exact ⟨0, rfl, by (exact jkc), by omega, Lib.hid (fun j hj => by omega)⟩
  case round =>
    obtain ⟨k, rfl, ⟨os, d, rfl⟩, hk, hN⟩ := hrel
    by_cases hkl : k < l
    · have hk2 : (k : Int) < (l : Int) := by omega
      obtain ⟨x, hx⟩ : ∃ x, M[k]? = some x := ⟨_, List.getElem?_eq_getElem (by rw [HL.out]; exact hkl)⟩
      obtain ⟨b, off, rfl, hb, c0, c1, c2, c3⟩ := HS.out k x hx
      have HX := Lib.hid hx
      have HMM := Lib.hid (show M.any (fun y => decide (y = x)) = true from any_at hx (by simp))
      clear hx
      cases hp : pr x with
      | true =>
        have HE := Lib.hid (show T = true by rw [HT.out]; exact any_at HX.out hp)
        go_wp2_with (first | (go_at_call 170; refine (HF.out _ (by (exact jkc)) x HMM.out).mono ?_; rintro e w' ⟨rfl, ⟨osj, dj, rfl⟩⟩; rw [hp]))
        go_ret
        exact ⟨⟨k, rfl, by rw [HE.out]; exact decide_eq_true (by omega)⟩, by (exact jkc)⟩
      | false =>
        have HN2 := Lib.hid (show ∀ j, j < k + 1 → ∀ y, M[j]? = some y → pr y = false from fun j hj y hy => by
          by_cases h : j = k
          · subst h; rw [HX.out] at hy; cases hy; exact hp
          · exact hN.out j (by omega) y hy)
        go_wp2_with (first | (go_at_call 170; refine (HF.out _ (by (exact jkc)) x HMM.out).mono ?_; rintro e w' ⟨rfl, ⟨osj, dj, rfl⟩⟩; rw [hp]))
        exact ⟨⟨k + 1, by go_num, by (exact jkc), by omega, HN2⟩, by simp [intOf]; omega⟩
    · have hk2 : ¬ (k : Int) < (l : Int) := by omega
      obtain rfl : k = l := by omega
      have HE := Lib.hid (show T = false by rw [HT.out]; exact any_no (by rw [HL.out]; exact hN.out))
      go_wp2
      go_ret
      exact ⟨⟨-1, rfl, by rw [HE.out]; decide⟩, by (exact jkc)⟩
theorem ro_contains (oa : Option Addr) (l c : Nat) (M : List Ro) (pr : Ro → Bool) (v1 : Value) (w : World) (hl : l ≤ 1000000) (hL : M.length = l) (hS : RosAt w oa M)
    (hf : ∀ w1, Junk w w1 → ∀ x, M.any (fun y => decide (y = x)) = true → Calls Tryz.prog 170 #[.agg (Ro.cells x).toArray, v1] w1 fun e w' => e = .returned (.bool (pr x)) ∧ Junk w1 w') :
    Calls Tryz.prog 169 #[.slice oa l c, .func (.func 170) #[] #[v1]] w fun e w' => e = .returned (.bool (M.any pr)) ∧ Junk w w' := by
  have HI := Lib.hid (ro_index oa l c M pr v1 w hl hL hS hf)
  clear hS hf hL
  go_enter Tryz.func169, Tryz.ntmps169
  go_wp2_with (go_at_call 249; (refine HI.out.mono ?_; rintro e w1 ⟨⟨k, rfl, hk⟩, ⟨os, d, rfl⟩⟩))
  all_goals go_ret
  all_goals refine ⟨?_, by (exact jkc)⟩
  all_goals (rw [← hk]; first | rfl | (simp; done) | (congr 2; simp; omega) | trace_state)
def RusAt (w : World) (oa : Option Addr) (M : List Ru) : Prop := ∀ i x, M[i]? = some x → ∃ b off, oa = some ⟨b, off, none⟩ ∧ b < w.heap.size ∧ w.cell? ⟨b, off + i * 10, none⟩ = some (.int .i64 x.fr) ∧ w.cell? ⟨b, off + i * 10 + 1, none⟩ = some (.int .i64 x.tt) ∧ w.cell? ⟨b, off + i * 10 + 2, none⟩ = some (.int .i64 x.proto) ∧ w.cell? ⟨b, off + i * 10 + 3, none⟩ = some (.int .u32 x.src) ∧ w.cell? ⟨b, off + i * 10 + 4, none⟩ = some (.int .u32 x.dst) ∧ w.cell? ⟨b, off + i * 10 + 5, none⟩ = some (.int .i64 x.srcBits) ∧ w.cell? ⟨b, off + i * 10 + 6, none⟩ = some (.int .i64 x.dstBits) ∧ w.cell? ⟨b, off + i * 10 + 7, none⟩ = some (.int .i64 x.lo) ∧ w.cell? ⟨b, off + i * 10 + 8, none⟩ = some (.int .i64 x.hi) ∧ w.cell? ⟨b, off + i * 10 + 9, none⟩ = some (.int .i64 x.action)
theorem RusAt.on {oa : Option Addr} {M : List Ru} (h : RusAt w oa M) (hj : Junk w w') : RusAt w' oa M := fun i x hx => by
  obtain ⟨b, off, he, hlt, h0, h1, h2, h3, h4, h5, h6, h7, h8, h9⟩ := h i x hx
  obtain ⟨os, d, rfl⟩ := hj
  refine ⟨b, off, he, Nat.lt_of_lt_of_le hlt (by simp), (by rw [World.cell?_junk _ _ _ _ _ hlt]; exact h0), (by rw [World.cell?_junk _ _ _ _ _ hlt]; exact h1), (by rw [World.cell?_junk _ _ _ _ _ hlt]; exact h2), (by rw [World.cell?_junk _ _ _ _ _ hlt]; exact h3), (by rw [World.cell?_junk _ _ _ _ _ hlt]; exact h4), (by rw [World.cell?_junk _ _ _ _ _ hlt]; exact h5), (by rw [World.cell?_junk _ _ _ _ _ hlt]; exact h6), (by rw [World.cell?_junk _ _ _ _ _ hlt]; exact h7), (by rw [World.cell?_junk _ _ _ _ _ hlt]; exact h8), (by rw [World.cell?_junk _ _ _ _ _ hlt]; exact h9)⟩
theorem RusAt.take {oa : Option Addr} {M : List Ru} (h : RusAt w oa M) (k : Nat) : RusAt w oa (M.take k) := fun i x hx => by
  rw [List.getElem?_take] at hx
  split at hx
  · exact h i x hx
  · cases hx
theorem ru_index (oa : Option Addr) (l c : Nat) (M : List Ru) (pr : Ru → Bool) (w : World) (hl : l ≤ 1000000) (hL : M.length = l) (hS : RusAt w oa M)
    (hf : ∀ w1, Junk w w1 → ∀ x, M.any (fun y => decide (y = x)) = true → Calls Tryz.prog 172 #[.agg (Ru.cells x).toArray] w1 fun e w' => e = .returned (.bool (pr x)) ∧ Junk w1 w') :
    Calls Tryz.prog 222 #[.slice oa l c, .func (.func 172) #[] #[]] w fun e w' => (∃ k : Int, e = .returned (.int .i64 k) ∧ decide (0 ≤ k) = M.any pr) ∧ Junk w w' := by
  have HS := Lib.hid hS
  have HF := Lib.hid hf
  clear hS hf
  obtain ⟨T, hT⟩ : ∃ T, T = M.any pr := ⟨_, rfl⟩
  rw [← hT]
  have HT := Lib.hid hT
  have HL := Lib.hid hL
  clear hT hL
  go_enter Tryz.func222, Tryz.ntmps222
  go_wp2
  go_loopw [8] (fun i wr => ∃ k : Nat, i = .int .i64 (k : Int) ∧ Junk w wr ∧ k ≤ l ∧ Hid (∀ j, j < k → ∀ y, M[j]? = some y → pr y = false)) (fun i _ => l + 1 - (intOf i).toNat)
  case atStart => exact ⟨0, rfl, by (exact jkc), by omega, Lib.hid (fun j hj => by omega)⟩
  case round =>
    obtain ⟨k, rfl, ⟨os, d, rfl⟩, hk, hN⟩ := hrel
    by_cases hkl : k < l
    · have hk2 : (k : Int) < (l : Int) := by omega
      obtain ⟨x, hx⟩ : ∃ x, M[k]? = some x := ⟨_, List.getElem?_eq_getElem (by rw [HL.out]; exact hkl)⟩
      obtain ⟨b, off, rfl, hb, c0, c1, c2, c3, c4, c5, c6, c7, c8, c9⟩ := HS.out k x hx
      have HX := Lib.hid hx
      have HMM := Lib.hid (show M.any (fun y => decide (y = x)) = true from any_at hx (by simp))
      clear hx
      cases hp : pr x with
      | true =>
        have HE := Lib.hid (show T = true by rw [HT.out]; exact any_at HX.out hp)
        go_wp2_with (first | (go_at_call 172; refine (HF.out _ (by (exact jkc)) x HMM.out).mono ?_; rintro e w' ⟨rfl, ⟨osj, dj, rfl⟩⟩; rw [hp]))
        go_ret
        exact ⟨⟨k, rfl, by rw [HE.out]; exact decide_eq_true (by omega)⟩, by (exact jkc)⟩
      | false =>
        have HN2 := Lib.hid (show ∀ j, j < k + 1 → ∀ y, M[j]? = some y → pr y = false from fun j hj y hy => by
          by_cases h : j = k
          · subst h; rw [HX.out] at hy; cases hy; exact hp
          · exact hN.out j (by omega) y hy)
        go_wp2_with (first | (go_at_call 172; refine (HF.out _ (by (exact jkc)) x HMM.out).mono ?_; rintro e w' ⟨rfl, ⟨osj, dj, rfl⟩⟩; rw [hp]))
        exact ⟨⟨k + 1, by go_num, by (exact jkc), by omega, HN2⟩, by simp [intOf]; omega⟩
    · have hk2 : ¬ (k : Int) < (l : Int) := by omega
      obtain rfl : k = l := by omega
      have HE := Lib.hid (show T = false by rw [HT.out]; exact any_no (by rw [HL.out]; exact hN.out))
      go_wp2
      go_ret
      exact ⟨⟨-1, rfl, by rw [HE.out]; decide⟩, by (exact jkc)⟩
theorem ru_contains (oa : Option Addr) (l c : Nat) (M : List Ru) (pr : Ru → Bool) (w : World) (hl : l ≤ 1000000) (hL : M.length = l) (hS : RusAt w oa M)
    (hf : ∀ w1, Junk w w1 → ∀ x, M.any (fun y => decide (y = x)) = true → Calls Tryz.prog 172 #[.agg (Ru.cells x).toArray] w1 fun e w' => e = .returned (.bool (pr x)) ∧ Junk w1 w') :
    Calls Tryz.prog 171 #[.slice oa l c, .func (.func 172) #[] #[]] w fun e w' => e = .returned (.bool (M.any pr)) ∧ Junk w w' := by
  have HI := Lib.hid (ru_index oa l c M pr w hl hL hS hf)
  clear hS hf hL
  go_enter Tryz.func171, Tryz.ntmps171
  go_wp2_with (go_at_call 222; (refine HI.out.mono ?_; rintro e w1 ⟨⟨k, rfl, hk⟩, ⟨os, d, rfl⟩⟩))
  all_goals go_ret
  all_goals refine ⟨?_, by (exact jkc)⟩
  all_goals (rw [← hk]; first | rfl | (simp; done) | (congr 2; simp; omega) | trace_state)
def FosAt (w : World) (oa : Option Addr) (M : List Fo) : Prop := ∀ i x, M[i]? = some x → ∃ b off, oa = some ⟨b, off, none⟩ ∧ b < w.heap.size ∧ w.cell? ⟨b, off + i * 5, none⟩ = some (.int .i64 x.proto) ∧ w.cell? ⟨b, off + i * 5 + 1, none⟩ = some (.int .i64 x.port) ∧ w.cell? ⟨b, off + i * 5 + 2, none⟩ = some (.int .u32 x.addr) ∧ w.cell? ⟨b, off + i * 5 + 3, none⟩ = some (.int .i64 x.tt) ∧ w.cell? ⟨b, off + i * 5 + 4, none⟩ = some (.bool x.proxy)
theorem FosAt.on {oa : Option Addr} {M : List Fo} (h : FosAt w oa M) (hj : Junk w w') : FosAt w' oa M := fun i x hx => by
  obtain ⟨b, off, he, hlt, h0, h1, h2, h3, h4⟩ := h i x hx
  obtain ⟨os, d, rfl⟩ := hj
  refine ⟨b, off, he, Nat.lt_of_lt_of_le hlt (by simp), (by rw [World.cell?_junk _ _ _ _ _ hlt]; exact h0), (by rw [World.cell?_junk _ _ _ _ _ hlt]; exact h1), (by rw [World.cell?_junk _ _ _ _ _ hlt]; exact h2), (by rw [World.cell?_junk _ _ _ _ _ hlt]; exact h3), (by rw [World.cell?_junk _ _ _ _ _ hlt]; exact h4)⟩
theorem FosAt.take {oa : Option Addr} {M : List Fo} (h : FosAt w oa M) (k : Nat) : FosAt w oa (M.take k) := fun i x hx => by
  rw [List.getElem?_take] at hx
  split at hx
  · exact h i x hx
  · cases hx
theorem fo_index (oa : Option Addr) (l c : Nat) (M : List Fo) (pr : Fo → Bool) (v1 : Value) (w : World) (hl : l ≤ 1000000) (hL : M.length = l) (hS : FosAt w oa M)
    (hf : ∀ w1, Junk w w1 → ∀ x, M.any (fun y => decide (y = x)) = true → Calls Tryz.prog 105 #[.agg (Fo.cells x).toArray, v1] w1 fun e w' => e = .returned (.bool (pr x)) ∧ Junk w1 w') :
    Calls Tryz.prog 174 #[.slice oa l c, .func (.func 105) #[] #[v1]] w fun e w' => (∃ k : Int, e = .returned (.int .i64 k) ∧ decide (0 ≤ k) = M.any pr) ∧ Junk w w' := by
  have HS := Lib.hid hS
  have HF := Lib.hid hf
  clear hS hf
  obtain ⟨T, hT⟩ : ∃ T, T = M.any pr := ⟨_, rfl⟩
  rw [← hT]
  have HT := Lib.hid hT
  have HL := Lib.hid hL
  clear hT hL
  go_enter Tryz.func174, Tryz.ntmps174
  go_wp2
  go_loopw [8] (fun i wr => ∃ k : Nat, i = .int .i64 (k : Int) ∧ Junk w wr ∧ k ≤ l ∧ Hid (∀ j, j < k → ∀ y, M[j]? = some y → pr y = false)) (fun i _ => l + 1 - (intOf i).toNat)
  case atStart => exact ⟨0, rfl, by (exact jkc), by omega, Lib.hid (fun j hj => by omega)⟩
  case round =>
    obtain ⟨k, rfl, ⟨os, d, rfl⟩, hk, hN⟩ := hrel
    by_cases hkl : k < l
    · have hk2 : (k : Int) < (l : Int) := by omega
      obtain ⟨x, hx⟩ : ∃ x, M[k]? = some x := ⟨_, List.getElem?_eq_getElem (by rw [HL.out]; exact hkl)⟩
      obtain ⟨b, off, rfl, hb, c0, c1, c2, c3, c4⟩ := HS.out k x hx
      have HX := Lib.hid hx
      have HMM := Lib.hid (show M.any (fun y => decide (y = x)) = true from any_at hx (by simp))
      clear hx
      cases hp : pr x with
      | true =>
        have HE := Lib.hid (show T = true by rw [HT.out]; exact any_at HX.out hp)
        go_wp2_with (first | (go_at_call 105; refine (HF.out _ (by (exact jkc)) x HMM.out).mono ?_; rintro e w' ⟨rfl, ⟨osj, dj, rfl⟩⟩; rw [hp]))
        go_ret
        exact ⟨⟨k, rfl, by rw [HE.out]; exact decide_eq_true (by omega)⟩, by (exact jkc)⟩
      | false =>
        have HN2 := Lib.hid (show ∀ j, j < k + 1 → ∀ y, M[j]? = some y → pr y = false from fun j hj y hy => by
          by_cases h : j = k
          · subst h; rw [HX.out] at hy; cases hy; exact hp
          · exact hN.out j (by omega) y hy)
        go_wp2_with (first | (go_at_call 105; refine (HF.out _ (by (exact jkc)) x HMM.out).mono ?_; rintro e w' ⟨rfl, ⟨osj, dj, rfl⟩⟩; rw [hp]))
        exact ⟨⟨k + 1, by go_num, by (exact jkc), by omega, HN2⟩, by simp [intOf]; omega⟩
    · have hk2 : ¬ (k : Int) < (l : Int) := by omega
      obtain rfl : k = l := by omega
      have HE := Lib.hid (show T = false by rw [HT.out]; exact any_no (by rw [HL.out]; exact hN.out))
      go_wp2
      go_ret
      exact ⟨⟨-1, rfl, by rw [HE.out]; decide⟩, by (exact jkc)⟩
theorem fo_contains (oa : Option Addr) (l c : Nat) (M : List Fo) (pr : Fo → Bool) (v1 : Value) (w : World) (hl : l ≤ 1000000) (hL : M.length = l) (hS : FosAt w oa M)
    (hf : ∀ w1, Junk w w1 → ∀ x, M.any (fun y => decide (y = x)) = true → Calls Tryz.prog 105 #[.agg (Fo.cells x).toArray, v1] w1 fun e w' => e = .returned (.bool (pr x)) ∧ Junk w1 w') :
    Calls Tryz.prog 104 #[.slice oa l c, .func (.func 105) #[] #[v1]] w fun e w' => e = .returned (.bool (M.any pr)) ∧ Junk w w' := by
  have HI := Lib.hid (fo_index oa l c M pr v1 w hl hL hS hf)
  clear hS hf hL
  go_enter Tryz.func104, Tryz.ntmps104
  go_wp2_with (go_at_call 174; (refine HI.out.mono ?_; rintro e w1 ⟨⟨k, rfl, hk⟩, ⟨os, d, rfl⟩⟩))
  all_goals go_ret
  all_goals refine ⟨?_, by (exact jkc)⟩
  all_goals (rw [← hk]; first | rfl | (simp; done) | (congr 2; simp; omega) | trace_state)
end Go.Proofs.YtfhkhnoiolkkdaaGreatDoor
set_option linter.unusedVariables false
set_option maxRecDepth 100000
set_option linter.unusedSimpArgs false
namespace Go.Proofs.YtfhkhnoiolkkdaaGreatDoor
open Go.RowKit
variable {L L' : Nat → Prop} {w w' w'' : World}
noncomputable def propB (p : Prop) : Bool := @decide p (Classical.propDecidable p)
theorem propB_true {p : Prop} (h : p) : propB p = true := by unfold propB; exact @decide_eq_true p (Classical.propDecidable p) h
theorem propB_false {p : Prop} (h : ¬ p) : propB p = false := by unfold propB; exact @decide_eq_false p (Classical.propDecidable p) h
theorem propB_iff {p : Prop} : propB p = true ↔ p := by unfold propB; exact @decide_eq_true_iff p (Classical.propDecidable p)
theorem xrcont_any (oa : Option Addr) (l c : Nat) (M : List Ro) (a : Nat) (b z m : Int) (g : Nat) (w : World) (hl : l ≤ 1000000) (hL : M.length = l) (hS : RosAt w oa M) (h0 : w.cell? ⟨g, 0, none⟩ = some (.int .u32 a)) (h1 : w.cell? ⟨g, 1, none⟩ = some (.int .i64 b)) :
    Calls Tryz.prog 169 #[.slice oa l c, .func (.func 170) #[] #[.pointer (some ⟨g, 0, none⟩)]] w fun e w' => e = .returned (.bool (M.any fun y => rtSame y ⟨a, b, z, m⟩)) ∧ Junk w w' := by
  refine ro_contains oa l c M _ _ w hl hL hS (fun w1 hj x _ => ?_)
  have t : Tch (fun _ => False) w w1 := Tch.of_junk hj
  obtain ⟨xa, xb, xz, xm⟩ := x
  exact rsame_any13 xa xb xz xm a b z m g w1 (t.cell h0 (fun e => e)) (t.cell h1 (fun e => e))
set_option maxHeartbeats 4000000 in
theorem rright_any13 (oa : Option Addr) (l c : Nat) (M : List Ro) (w : World) (hl : l ≤ 1000000) (hL : M.length = l) (hc : l ≤ c) (hS : RosAt w oa M) :
    Calls Tryz.prog 100 #[.slice oa l c] w fun e w' => e = .returned (.bool (propB (rtsP M))) ∧ Junk w w' := by
  obtain ⟨V, hV⟩ : ∃ V, propB (rtsP M) = V := ⟨_, rfl⟩
  rw [hV]
  have HV := Lib.hid hV
  clear hV
  have HS := Lib.hid hS
  have HL := Lib.hid hL
  have hmf : ∀ (fn : Fn) (first cap : Array Value) (w : World), (Instr.makeFunc fn first cap).run Tryz.prog w = .ok (.func fn first cap) w := fun _ _ _ _ => rfl
  clear hS hL
  by_cases h64 : l ≤ 64
  case neg =>
    have h64i : (64 : Int) < (l : Int) := by omega
    go_enter Tryz.func100, Tryz.ntmps100
    go_wp2
    go_ret
    have he : V = false := by rw [← HV.out]; exact propB_false (fun h => by have := h.1; rw [HL.out] at this; exact h64 this)
    exact ⟨by rw [he] <;> rfl, by (exact jkc)⟩
  have h64i : ¬ (64 : Int) < (l : Int) := by omega
  go_enter Tryz.func100, Tryz.ntmps100
  go_wp2
  go_loopw [3, 4, 10] (fun v3 v4 v10 wr => ∃ i : Nat, v10 = .int .i64 (i : Int) ∧ Junk w wr ∧ i ≤ l ∧ Hid (∀ j, j < i → ∀ r, M[j]? = some r → rtMay r = true ∧ ∀ k x, k < j → M[k]? = some x → rtSame x r = false)) (fun _ _ v _ => l + 1 - (intOf v).toNat)
  case atStart => exact ⟨0, rfl, by (exact jkc), by omega, Lib.hid (fun j hj => by omega)⟩
  case round =>
    obtain ⟨i, rfl, ⟨os, d, rfl⟩, hi, hN⟩ := hrel
    by_cases hil : i < l
    case neg =>
      have hi2 : ¬ (i : Int) < (l : Int) := by omega
      obtain rfl : i = l := by omega
      go_wp2
      go_ret
      have he : V = true := by rw [← HV.out]; exact propB_true ⟨by rw [HL.out]; exact h64, fun j r hj => hN.out j (by rw [← HL.out]; exact (List.getElem?_eq_some_iff.1 hj).1) r hj⟩
      exact ⟨by rw [he] <;> rfl, by (exact jkc)⟩
    have hi2 : (i : Int) < (l : Int) := by omega
    have hic : (i : Int) ≤ (c : Int) := by omega
    obtain ⟨r, hr⟩ : ∃ r, M[i]? = some r := ⟨_, List.getElem?_eq_getElem (by rw [HL.out]; exact hil)⟩
    obtain ⟨b, off, rfl, hb, c0, c1, c2, c3⟩ := HS.out i r hr
    have HR := Lib.hid hr
    clear hr
    obtain ⟨xa, xb, xz, xm⟩ := r
    dsimp only at c0 c1 c2 c3
    have HT := Lib.hid (show (M.take i).length = i by rw [List.length_take, HL.out]; omega)
    cases hm : rtMay ⟨xa, xb, xz, xm⟩ with
    | false =>
      have HM := Lib.hid hm
      go_wp2_with (go_at_call 168; (refine (rmay_any13 _ _ _ _ _).mono ?_; rintro e w1 ⟨rfl, ⟨os1, d1, rfl⟩⟩); rw [HM.out])
      go_ret
      have he : V = false := by rw [← HV.out]; exact propB_false (fun h => by have := (h.2 i _ HR.out).1; rw [HM.out] at this; cases this)
      exact ⟨by rw [he] <;> rfl, by (exact jkc)⟩
    | true =>
      have HM := Lib.hid hm
      cases ha : (M.take i).any (fun y => rtSame y ⟨xa, xb, xz, xm⟩) with
      | true =>
        have HA := Lib.hid ha
        go_wp2_with (first
          | (go_at_call 168; (refine (rmay_any13 _ _ _ _ _).mono ?_; rintro e w1 ⟨rfl, ⟨os1, d1, rfl⟩⟩); rw [HM.out])
          | (go_at_call 169; (refine (xrcont_any _ i c (M.take i) xa xb xz xm _ _ (by omega) HT.out ((HS.out.on (by (exact jkc))).take i) (by simp [go_sem]) (by simp [go_sem])).mono ?_; rintro e w2 ⟨rfl, ⟨os2, d2, rfl⟩⟩); rw [HA.out]))
        go_ret
        have he : V = false := by
          rw [← HV.out]
          refine propB_false (fun h => ?_)
          obtain ⟨y, hy, hy2⟩ := List.any_eq_true.1 HA.out
          obtain ⟨k, hk⟩ := List.mem_iff_getElem?.1 hy
          have hki : k < i := by have := (List.getElem?_eq_some_iff.1 hk).1; rw [HT.out] at this; exact this
          rw [List.getElem?_take_of_lt hki] at hk
          have := (h.2 i _ HR.out).2 k y hki hk
          rw [this] at hy2
          cases hy2
        exact ⟨by rw [he] <;> rfl, by (exact jkc)⟩
      | false =>
        have HA := Lib.hid ha
        have HN2 := Lib.hid (show ∀ j, j < i + 1 → ∀ r, M[j]? = some r → rtMay r = true ∧ ∀ k x, k < j → M[k]? = some x → rtSame x r = false from fun j hj r hr => by
          by_cases h : j = i
          · subst h
            rw [HR.out] at hr
            cases hr
            refine ⟨HM.out, fun k x hk hx => ?_⟩
            have := List.any_eq_false.1 HA.out x (List.mem_of_getElem? (i := k) (by rw [List.getElem?_take_of_lt hk]; exact hx))
            simpa using this
          · exact hN.out j (by omega) r hr)
        go_wp2_with (first
          | (go_at_call 168; (refine (rmay_any13 _ _ _ _ _).mono ?_; rintro e w1 ⟨rfl, ⟨os1, d1, rfl⟩⟩); rw [HM.out])
          | (go_at_call 169; (refine (xrcont_any _ i c (M.take i) xa xb xz xm _ _ (by omega) HT.out ((HS.out.on (by (exact jkc))).take i) (by simp [go_sem]) (by simp [go_sem])).mono ?_; rintro e w2 ⟨rfl, ⟨os2, d2, rfl⟩⟩); rw [HA.out]))
        exact ⟨⟨i + 1, by go_num, by (exact jkc), by omega, HN2⟩, by simp [intOf]; omega⟩
set_option maxHeartbeats 2000000 in
theorem uright_any14 (oa : Option Addr) (l c : Nat) (M : List Ru) (w : World) (hl : l ≤ 1000000) (hL : M.length = l) (hS : RusAt w oa M) :
    Calls Tryz.prog 101 #[.slice oa l c] w fun e w' => e = .returned (.bool (propB (rusP M))) ∧ Junk w w' := by
  obtain ⟨V, hV⟩ : ∃ V, propB (rusP M) = V := ⟨_, rfl⟩
  rw [hV]
  have HV := Lib.hid hV
  clear hV
  have HC := Lib.hid (fun w1 (hj : Junk w w1) => ru_contains oa l c M (fun r => !ruMay r) w1 hl hL (hS.on hj) (fun w2 _ x _ => unot_any14 x w2))
  have HL := Lib.hid hL
  clear hS hL
  by_cases h64 : l ≤ 64
  case neg =>
    have h64i : ¬ (l : Int) ≤ 64 := by omega
    go_enter Tryz.func101, Tryz.ntmps101
    go_wp2
    go_ret
    have he : V = false := by rw [← HV.out]; exact propB_false (fun h => by have := h.1; rw [HL.out] at this; exact h64 this)
    exact ⟨by rw [he] <;> rfl, by (exact jkc)⟩
  have h64i : (l : Int) ≤ 64 := by omega
  go_enter Tryz.func101, Tryz.ntmps101
  go_wp2_with (go_at_call 171; (refine (HC.out _ (by (exact jkc))).mono ?_; rintro e w2 ⟨rfl, ⟨os2, d2, rfl⟩⟩))
  go_ret
  have he : V = !(M.any fun r => !ruMay r) := by
    rw [← HV.out, Bool.eq_iff_iff, propB_iff, Bool.not_eq_true', List.any_eq_false]
    constructor
    · intro h r hr
      rw [h.2 r hr]
      decide
    · intro h
      exact ⟨by rw [HL.out]; exact h64, fun r hr => by simpa using h r hr⟩
  exact ⟨by rw [he] <;> rfl, by (exact jkc)⟩
end Go.Proofs.YtfhkhnoiolkkdaaGreatDoor
