/- gate's visit: fresh: a datagram that may go out; one that may not come in. -/
import Derived.Test.YtfhkhnoiolkkdaaGreatDoorGzS
set_option linter.unusedVariables false
set_option maxRecDepth 100000
set_option linter.unusedSimpArgs false
namespace Go.Proofs.YtfhkhnoiolkkdaaGreatDoor
open Go.RowKit
theorem zone13 (a p : Nat) (z : Int) (oa : Option Addr) (c : Nat) (w : World) (hW : Way a p z) (hc : 2 ≤ c) (hS : RosAt w oa roM) :
    Calls Tryz.prog 76 #[.slice oa 2 c, .int .u32 (a : Int)] w fun e w' => e = .returned (.int .i64 z) ∧ Junk w w' := by
  obtain ⟨rn, hrn⟩ : ∃ x : Int, x = if p = 8 then 167772160 else 0 := ⟨_, rfl⟩
  obtain ⟨rm, hrm⟩ : ∃ x : Int, x = if p = 8 then 8 else 0 := ⟨_, rfl⟩
  have HF := Lib.hid (fun w1 (hj : Junk w w1) => find13 a p z rn rm oa c w1 hW hrn hrm hc (hS.on hj))
  clear hW hrn hrm hS
  go_enter Tryz.func76, Tryz.ntmps76
  go_wp2_with (first | (go_at_call 126; (with_reducible refine (HF.out _ (by (exact jkc))).mono ?_); rintro e w' ⟨rfl, ⟨osj, dj, rfl⟩⟩))
  go_ret
  exact ⟨rfl, by (exact jkc)⟩
structure GE (B : Nat) (w : World) (g : Gp) (now : Int) (oa : Option Addr) (c : Nat) (q : Fp) (o2 : Option Addr) (c2 : Nat) : Prop where
  gs : GS w g now oa 0 c
  fs : FS0 w g.s q.sl q.tb q.tc q.wh q.mp o2 c2 now
  ne : g.tk ≠ q.mp
  lo : B ≤ g.G ∧ B ≤ g.s ∧ B ≤ q.sl ∧ B ≤ q.wh ∧ B ≤ q.mp
theorem GE.on {B : Nat} {w w' : World} {g : Gp} {now : Int} {oa o2 : Option Addr} {c c2 : Nat} {q : Fp} (h : GE B w g now oa c q o2 c2) (j : Junk w w') : GE B w' g now oa c q o2 c2 := ⟨h.gs.on j, h.fs.on j, h.ne, h.lo⟩
theorem vfresh_no (v : Nat) (g : Gp) (now : Int) (oa : Option Addr) (l c : Nat) (vl : List Value) (w : World) (h : GS w g now oa l c) (hV : Box w v 107 vl) (h0 : vl[0]? = some (.pointer (some ⟨g.G, 0, none⟩))) (h17 : vl[17]? = some (.int .u32 3405803785)) :
    Calls Tryz.prog 81 #[.pointer (some ⟨v, 0, none⟩)] w fun e w' => e = .returned (.tuple #[.slice none 0 0, .int .i64 8]) ∧ Junk w w' := by
  have HL := Lib.hid (fun w1 (hj : Junk w w1) => vlead_pub v g.G w1 (hV.on hj).lt (h.b.on hj).lt ((hV.on hj).cell h0) ((hV.on hj).cell h17) ((h.b.on hj).cell (j := 6) rfl) ((h.b.on hj).cell (j := 9) rfl))
  clear h hV h0 h17
  go_enter Tryz.func81, Tryz.ntmps81
  go_wp2_with (first | (go_at_call 145; (with_reducible refine (HL.out _ (by (exact jkc))).mono ?_); rintro e w' ⟨rfl, ⟨osj, dj, rfl⟩⟩))
  go_returns
  exact ⟨rfl, by (exact jkc)⟩
structure FE (w X : World) (g : Gp) (now : Int) (q : Fp) (v : Nat) (vl : List Value) : Prop where
  gs : GS X g now none 0 0
  fs : FS0 X g.s q.sl q.tb q.tc q.wh q.mp none 0 now
  bv : Box X v 107 vl
  j : Junk w X
theorem FE.on {w X Y : World} {g : Gp} {now : Int} {q : Fp} {v : Nat} {vl : List Value} (h : FE w X g now q v vl) (j : Junk X Y) : FE w Y g now q v vl := ⟨h.gs.on j, h.fs.on j, h.bv.on j, h.j.trans j⟩
theorem tup17 {s sp d dp : Int} (hs : 0 ≤ s ∧ s ≤ 4294967295) (hd : 0 ≤ d ∧ d ≤ 4294967295) (h1 : 0 ≤ sp ∧ sp ≤ 65535) (h2 : 0 ≤ dp ∧ dp ≤ 65535) : TupW ⟨17, s, sp, d, dp⟩ ∧ tupRight ⟨17, s, sp, d, dp⟩ = true := by
  refine ⟨⟨⟨hs, hd⟩, ?_, ?_⟩, ?_⟩
  · show -9223372036854775808 ≤ sp ∧ sp ≤ 9223372036854775807; omega
  · show -9223372036854775808 ≤ dp ∧ dp ≤ 9223372036854775807; omega
  · simp [tupRight, portB, h1, h2]
structure FF (X : World) (g : Gp) (now : Int) (lb lc : Nat) (x : Ln) (q : Fp) (v : Nat) (vl : List Value) (fb : Nat) (fl : List Value) : Prop where
  gs : GS X g now (some ⟨lb, 0, none⟩) 1 lc
  ls : Own 0 X 52 5 (some ⟨lb, 0, none⟩) lc 1 (lnsL [x])
  fs : FS0 X g.s q.sl q.tb q.tc q.wh q.mp none 0 now
  bv : Box X v 107 vl
  bf : Box X fb 50 fl
section
variable {w X Y : World} {g : Gp} {now : Int} {lb lc : Nat} {x : Ln} {q : Fp} {v : Nat} {vl : List Value} {fb : Nat} {fl : List Value}
theorem FF.on (h : FF X g now lb lc x q v vl fb fl) (j : Junk X Y) : FF Y g now lb lc x q v vl fb fl :=
  ⟨h.gs.on j, own_keep (L := fun _ => False) h.ls (Tch.of_junk j) (fun e => e), h.fs.on j, h.bv.on j, h.bf.on j⟩
theorem FS0.sepG {oa o2 : Option Addr} {l c c2 : Nat} {s sl tb tc wh mp : Nat} (h : GS X g now oa l c) (k : FS0 X s sl tb tc wh mp o2 c2 now) : g.rb ≠ g.G ∧ g.ub ≠ g.G ∧ g.tk ≠ g.G ∧ s ≠ g.G ∧ sl ≠ g.G ∧ tb ≠ g.G ∧ wh ≠ g.G ∧ mp ≠ g.G :=
  ⟨(own_ty h.r).ne (box_ty h.b) (by decide), (own_ty h.u).ne (box_ty h.b) (by decide), ((box_ty h.b).map0 h.t).symm, (box_ty k.bs).ne (box_ty h.b) (by decide), (box_ty k.bl).ne (box_ty h.b) (by decide), (own_ty k.bt).ne (box_ty h.b) (by decide), (box_ty k.bw.box).ne (box_ty h.b) (by decide), ((box_ty h.b).map0 k.bw.mm).symm⟩
theorem FS0.sepF {oa o2 : Option Addr} {l c c2 : Nat} {s sl tb tc wh mp : Nat} (hf : Ty X fb 50) (h : GS X g now oa l c) (k : FS0 X s sl tb tc wh mp o2 c2 now) : g.G ≠ fb ∧ g.rb ≠ fb ∧ g.ub ≠ fb ∧ g.tk ≠ fb ∧ s ≠ fb ∧ sl ≠ fb ∧ tb ≠ fb ∧ wh ≠ fb ∧ mp ≠ fb :=
  ⟨(box_ty h.b).ne hf (by decide), (own_ty h.r).ne hf (by decide), (own_ty h.u).ne hf (by decide), (hf.map0 h.t).symm, (box_ty k.bs).ne hf (by decide), (box_ty k.bl).ne hf (by decide), (own_ty k.bt).ne hf (by decide), (box_ty k.bw.box).ne hf (by decide), (hf.map0 k.bw.mm).symm⟩
theorem FE.lend (h : FE w X g now q v vl) (hb : Box X fb 50 fl) (ho : Own 0 X 52 5 (some ⟨lb, 0, none⟩) lc 1 (lnsL [x])) : ∀ {Y}, Junk (X.setCell ⟨g.G, 18, none⟩ (.slice (some ⟨lb, 0, none⟩) 1 lc)) Y → FF Y g now lb lc x q v vl fb fl ∧ Tch (fun k => k = g.G) X Y := by
  intro Y j
  have T : Tch (fun k => k = g.G) X (X.setCell ⟨g.G, 18, none⟩ (.slice (some ⟨lb, 0, none⟩) 1 lc)) := (Tch.refl (L := fun k => k = g.G) _).set _ (fun _ => rfl)
  obtain ⟨n1, n2, n3, n4, n5, n6, n7, n8⟩ := FS0.sepG h.gs h.fs
  have n9 : lb ≠ g.G := (own_ty ho).ne (box_ty h.gs.b) (by decide)
  have n10 : v ≠ g.G := (box_ty h.bv).ne (box_ty h.gs.b) (by decide)
  have n11 : fb ≠ g.G := (box_ty hb).ne (box_ty h.gs.b) (by decide)
  exact ⟨FF.on ⟨⟨h.gs.b.set 18 _, own_keep h.gs.r T n1, own_keep h.gs.u T n2, h.gs.t.tch T n3⟩, own_keep ho T n9, h.fs.tch T n4 n5 n6 n7 n8, h.bv.tch T n10, hb.tch T n11⟩ j, T.on j⟩
end
theorem FF.added {X Y : World} {g : Gp} {now : Int} {lb lc : Nat} {x : Ln} {q : Fp} {v fb : Nat} {vl fl : List Value} (h : FF X g now lb lc x q v vl fb fl) (hne : g.tk ≠ q.mp) (T : Tch (LF g.s q.sl q.wh q.mp) X Y) :
    GS Y g now (some ⟨lb, 0, none⟩) 1 lc ∧ Own 0 Y 52 5 (some ⟨lb, 0, none⟩) lc 1 (lnsL [x]) ∧ Box Y v 107 vl ∧ Box Y fb 50 fl := by
  have a1 := box_ty h.fs.bs
  have a2 := box_ty h.fs.bl
  have a3 := box_ty h.fs.bw.box
  have c1 := h.gs.sep a1 (by decide) (by decide) (by decide)
  have c2 := h.gs.sep a2 (by decide) (by decide) (by decide)
  have c3 := h.gs.sep a3 (by decide) (by decide) (by decide)
  have d1 := (box_ty h.gs.b).map0 h.fs.bw.mm
  have d2 := (own_ty h.gs.r).map0 h.fs.bw.mm
  have d3 := (own_ty h.gs.u).map0 h.fs.bw.mm
  refine ⟨h.gs.tch T (fun e => ?_) (fun e => ?_) (fun e => ?_) (fun e => ?_), own_keep h.ls T (fun e => ?_), h.bv.tch T (fun e => ?_), h.bf.tch T (fun e => ?_)⟩
  · rcases e with e | e | e | e
    · exact c1.1 e.symm
    · exact c2.1 e.symm
    · exact c3.1 e.symm
    · exact d1 e
  · rcases e with e | e | e | e
    · exact c1.2.1 e.symm
    · exact c2.2.1 e.symm
    · exact c3.2.1 e.symm
    · exact d2 e
  · rcases e with e | e | e | e
    · exact c1.2.2.1 e.symm
    · exact c2.2.2.1 e.symm
    · exact c3.2.2.1 e.symm
    · exact d3 e
  · rcases e with e | e | e | e
    · exact c1.2.2.2 e.symm
    · exact c2.2.2.2 e.symm
    · exact c3.2.2.2 e.symm
    · exact hne e
  · rcases e with e | e | e | e
    · exact (own_ty h.ls).ne a1 (by decide) e
    · exact (own_ty h.ls).ne a2 (by decide) e
    · exact (own_ty h.ls).ne a3 (by decide) e
    · exact (own_ty h.ls).map0 h.fs.bw.mm e
  · rcases e with e | e | e | e
    · exact (box_ty h.bv).ne a1 (by decide) e
    · exact (box_ty h.bv).ne a2 (by decide) e
    · exact (box_ty h.bv).ne a3 (by decide) e
    · exact (box_ty h.bv).map0 h.fs.bw.mm e
  · rcases e with e | e | e | e
    · exact (box_ty h.bf).ne a1 (by decide) e
    · exact (box_ty h.bf).ne a2 (by decide) e
    · exact (box_ty h.bf).ne a3 (by decide) e
    · exact (box_ty h.bf).map0 h.fs.bw.mm e
theorem FF.back {X : World} {g : Gp} {now : Int} {lb lc : Nat} {x : Ln} {q : Fp} {v fb : Nat} {vl : List Value} {fr tt t : Int} (h : FF X g now lb lc x q v vl fb [.int .i64 17, .int .u32 167772161, .int .i64 fr, .int .u32 134744072, .int .i64 tt, .int .i64 17, .int .u32 134744072, .int .i64 tt, .int .u32 167772161, .int .i64 fr, .int .i64 t, .int .i64 0]) (P : Int) :
    ∀ {Y}, Junk ((X.setCell ⟨fb, 8, none⟩ (.int .u32 3405803785)).setCell ⟨fb, 9, none⟩ (.int .i64 P)) Y → FF Y g now lb lc x q v vl fb [.int .i64 17, .int .u32 167772161, .int .i64 fr, .int .u32 134744072, .int .i64 tt, .int .i64 17, .int .u32 134744072, .int .i64 tt, .int .u32 3405803785, .int .i64 P, .int .i64 t, .int .i64 0] ∧ Tch (fun k => k = fb) X Y := by
  intro Y j
  have T : Tch (fun k => k = fb) X ((X.setCell ⟨fb, 8, none⟩ (.int .u32 3405803785)).setCell ⟨fb, 9, none⟩ (.int .i64 P)) := ((Tch.refl (L := fun k => k = fb) _).set _ (fun _ => rfl)).set _ (fun _ => rfl)
  obtain ⟨n0, n1, n2, n3, n4, n5, n6, n7, n8⟩ := FS0.sepF (box_ty h.bf) h.gs h.fs
  have n9 : lb ≠ fb := (own_ty h.ls).ne (box_ty h.bf) (by decide)
  have n10 : v ≠ fb := (box_ty h.bv).ne (box_ty h.bf) (by decide)
  exact ⟨FF.on ⟨h.gs.tch T n0 n1 n2 n3, own_keep h.ls T n9, h.fs.tch T n4 n5 n6 n7 n8, h.bv.tch T n10, (h.bf.set 8 _).set 9 _⟩ j, T.on j⟩
set_option maxHeartbeats 40000000 in
theorem vfresh_go (B v N : Nat) (g : Gp) (now t : Int) (q : Fp) (fr tt : Int) (bl : Nat) (body : Nat → Int) (oo ob : Option Addr) (oc bc : Nat) (w : World) (h : GE B w g now none 0 q none 0)
    (hV : Box w v 107 (visL g.G 1 0 167772161 134744072 oo ob oc bl bc ⟨17, 167772161, fr, 134744072, tt⟩)) (hI : IpAt w (Pk 64 167772161 134744072 bl body) oo oc ob bc) (hU : UdP (Pk 64 167772161 134744072 bl body) fr tt) (hb : bl ≤ 1000) (hfr : 0 ≤ fr ∧ fr ≤ 65535) (htt : 0 ≤ tt ∧ tt ≤ 65535)
    (hF1 : Fresh N oo) (hF2 : Fresh N ob) (hN : g.G < N ∧ g.s < N ∧ q.sl < N ∧ q.wh < N ∧ q.mp < N) (hn : 0 ≤ now ∧ now ≤ 1000000) (ht : now + 100 = t) (hB : B ≤ w.heap.size) :
    Calls Tryz.prog 81 #[.pointer (some ⟨v, 0, none⟩)] w fun e w' => ∃ n cn o c lb lc q' P, e = .returned (.tuple #[.slice (some ⟨n, 0, none⟩) 1 cn, .int .i64 0]) ∧ GF B w' g now lb lc q' ⟨⟨17, 167772161, fr, 134744072, tt⟩, ⟨17, 134744072, tt, 3405803785, P⟩, t, 0⟩ P ∧ q'.sl = q.sl ∧ Out w' n cn 0 3405803785 134744072 bl (tn2 body 167772161 134744072 3405803785 P 134744072 tt) o c ∧ Tch (fun k => k = g.G ∨ k = g.s ∨ k = q.sl ∨ k = q.wh ∨ k = q.mp) w w' := by
  have HH := Lib.hid h
  have HI := Lib.hid hI
  have HFR := Lib.hid (And.intro hfr htt)
  have HFN := Lib.hid (And.intro hF1 (And.intro hF2 hN))
  have HU := Lib.hid hU
  have HT := Lib.hid ht
  have HN := Lib.hid hn
  have HBW := Lib.hid hB
  have H0 := Lib.hid (show FE w w g now q v (visL g.G 1 0 167772161 134744072 oo ob oc bl bc ⟨17, 167772161, fr, 134744072, tt⟩) from ⟨h.gs, h.fs, hV, by (exact jkc)⟩)
  clear h hV hI hfr htt hU ht hn hB hF1 hF2 hN
  have v0 : w.cell? ⟨v, 0, none⟩ = some (.pointer (some ⟨g.G, 0, none⟩)) := H0.out.bv.cell rfl
  have v1 : w.cell? ⟨v, 1, none⟩ = some (.int .i64 1) := H0.out.bv.cell rfl
  have v2 : w.cell? ⟨v, 2, none⟩ = some (.int .u32 0) := H0.out.bv.cell rfl
  have v14 : w.cell? ⟨v, 14, none⟩ = some (.int .i64 17) := H0.out.bv.cell rfl
  have v15 : w.cell? ⟨v, 15, none⟩ = some (.int .u32 167772161) := H0.out.bv.cell rfl
  have v16 : w.cell? ⟨v, 16, none⟩ = some (.int .i64 fr) := H0.out.bv.cell rfl
  have v17 : w.cell? ⟨v, 17, none⟩ = some (.int .u32 134744072) := H0.out.bv.cell rfl
  have v18 : w.cell? ⟨v, 18, none⟩ = some (.int .i64 tt) := H0.out.bv.cell rfl
  have g0 : w.cell? ⟨g.G, 0, none⟩ = some (.int .i64 now) := H0.out.gs.b.cell rfl
  have g3 : w.cell? ⟨g.G, 3, none⟩ = some (.slice (some ⟨g.rb, 0, none⟩) 2 g.rc) := H0.out.gs.b.cell rfl
  have g4 : w.cell? ⟨g.G, 4, none⟩ = some (.slice (some ⟨g.ub, 0, none⟩) 1 g.uc) := H0.out.gs.b.cell rfl
  have g5 : w.cell? ⟨g.G, 5, none⟩ = some (.int .i64 0) := H0.out.gs.b.cell rfl
  have g6 : w.cell? ⟨g.G, 6, none⟩ = some (.int .u32 3405803785) := H0.out.gs.b.cell rfl
  have g7 : w.cell? ⟨g.G, 7, none⟩ = some (.int .i64 5000) := H0.out.gs.b.cell rfl
  have g8 : w.cell? ⟨g.G, 8, none⟩ = some (.int .i64 5100) := H0.out.gs.b.cell rfl
  have g17 : w.cell? ⟨g.G, 17, none⟩ = some (.pointer (some ⟨g.s, 0, none⟩)) := H0.out.gs.b.cell rfl
  have g18 : w.cell? ⟨g.G, 18, none⟩ = some (.slice none 0 0) := H0.out.gs.b.cell rfl
  have vs := H0.out.bv.lt
  have gs := H0.out.gs.b.lt
  have HL := Lib.hid (fun w1 (hj : Junk w w1) => vlead_out v g.G 134744072 tt w1 (H0.out.bv.on hj).lt (H0.out.gs.b.on hj).lt ((H0.out.bv.on hj).cell (j := 0) rfl) ((H0.out.bv.on hj).cell (j := 17) rfl) ((H0.out.bv.on hj).cell (j := 18) rfl) ((H0.out.gs.b.on hj).cell (j := 6) rfl) (by decide))
  have HZ := Lib.hid (fun w1 (hj : Junk w w1) => show Calls Tryz.prog 76 #[.slice (some ⟨g.rb, 0, none⟩) 2 g.rc, .int .u32 134744072] w1 fun e w' => e = .returned (.int .i64 0) ∧ Junk w1 w' from zone13 134744072 6 0 (some ⟨g.rb, 0, none⟩) g.rc w1 way_peer H0.out.gs.rcap (H0.out.gs.on hj).ros)
  go_enter Tryz.func81, Tryz.ntmps81
  go_upto_region 9 with (first
    | (go_at_call 145; (with_reducible refine (HL.out _ (by (exact jkc))).mono ?_); rintro e w1 ⟨rfl, ⟨os1, d1, rfl⟩⟩)
    | (go_at_call 76; (with_reducible refine (HZ.out _ (by (exact jkc))).mono ?_); rintro e w1 ⟨rfl, ⟨os2, d2, rfl⟩⟩))
  obtain ⟨ab, hab⟩ : ∃ ab, w.heap.size + (os1.size + os2.size) = ab := ⟨_, rfl⟩
  rw [hab]
  refine wp_keep (fun X => FE w X g now q v (visL g.G 1 0 167772161 134744072 oo ob oc bl bc ⟨17, 167772161, fr, 134744072, tt⟩) ∧ Box X ab 38 [.int .i64 17, .int .u32 167772161, .int .i64 fr, .int .u32 134744072, .int .i64 tt]) ⟨H0.out.on (by (exact jkc)), box_at' (by rw [← hab]; simp) rfl⟩ ?_
  intro X ⟨hX, hA⟩
  have H1 := Lib.hid (And.intro hX hA)
  clear v0 v1 v2 v14 v15 v16 v17 v18 g0 g3 g4 g5 g6 g7 g8 g17 g18 vs gs HL HZ hab
  have v0 : X.cell? ⟨v, 0, none⟩ = some (.pointer (some ⟨g.G, 0, none⟩)) := hX.bv.cell rfl
  have v1 : X.cell? ⟨v, 1, none⟩ = some (.int .i64 1) := hX.bv.cell rfl
  have g0 : X.cell? ⟨g.G, 0, none⟩ = some (.int .i64 now) := hX.gs.b.cell rfl
  have g4 : X.cell? ⟨g.G, 4, none⟩ = some (.slice (some ⟨g.ub, 0, none⟩) 1 g.uc) := hX.gs.b.cell rfl
  have vs := hX.bv.lt
  have gs := hX.gs.b.lt
  have a0 := hA.cell (j := 0) rfl
  have a1 := hA.cell (j := 1) rfl
  have a2 := hA.cell (j := 2) rfl
  have a3 := hA.cell (j := 3) rfl
  have a4 := hA.cell (j := 4) rfl
  have as_ := hA.lt
  have HA := Lib.hid (fun w1 (hj : Junk X w1) => ruAsk_any fr tt HFR.out.2 (some ⟨g.ub, 0, none⟩) g.uc w1 hX.gs.ucap (hX.gs.on hj).rus)
  clear hX hA
  refine wp_region_mixj (X) [(0, true), (1, true), (2, true), (3, true), (4, true), (5, true), (6, true), (7, true), (8, true), (9, true), (10, true), (11, true), (12, true), (13, true), (14, false), (15, true), (16, true), (17, true), (18, true), (19, true)] (by kernel_rfl) (by kernel_rfl) (by (exact jkc)) ?_; (iterate 14 (refine wpMix_q rfl (fun K hK => ?_); (go_simp; try go_bits); (refine hK _ ?_; clear hK K))); refine wpMix_e rfl (fun osm9_0 dm9_0 K hK => ?_); (go_simp; try go_bits); (go_at_call 146; (with_reducible refine (HA.out _ (by (exact jkc))).mono ?_); rintro e w1 ⟨rfl, ⟨os3, d3, rfl⟩⟩); refine hK _ _ (Junk.pair (by (first | exact jkc | repeat (first | with_reducible exact Junk.refl _ | with_reducible exact Junk.app _ _ _ _ _ | with_reducible apply Junk.alloc | with_reducible apply Junk.junk | with_reducible apply Junk.drew | with_reducible apply Junk.drewN | (with_reducible refine Junk.setCell ?_ (by simp) _))))) ?_; clear hK K; (iterate 5 (refine wpMix_q rfl (fun K hK => ?_); (go_simp; try go_bits); (refine hK _ ?_; clear hK K))); refine wpMix_nil (fun osm dm => ?_)
  go_upto_region 12 with (fail)
  refine wp_keep (fun Y => FE w Y g now q v (visL g.G 1 0 167772161 134744072 oo ob oc bl bc ⟨17, 167772161, fr, 134744072, tt⟩) ∧ Box Y ab 38 [.int .i64 17, .int .u32 167772161, .int .i64 fr, .int .u32 134744072, .int .i64 tt]) ⟨H1.out.1.on (by (exact jkc)), H1.out.2.on (by (exact jkc))⟩ ?_
  intro Y ⟨hX, hA⟩
  have H2 := Lib.hid (And.intro hX hA)
  clear v0 v1 g0 g4 vs gs a0 a1 a2 a3 a4 as_ HA H1
  have v0 : Y.cell? ⟨v, 0, none⟩ = some (.pointer (some ⟨g.G, 0, none⟩)) := hX.bv.cell rfl
  have v1 : Y.cell? ⟨v, 1, none⟩ = some (.int .i64 1) := hX.bv.cell rfl
  have g5 : Y.cell? ⟨g.G, 5, none⟩ = some (.int .i64 0) := hX.gs.b.cell rfl
  have vs := hX.bv.lt
  have gs := hX.gs.b.lt
  have HBG := Lib.hid (fun w1 (hj : Junk Y w1) => vbegins_any v w1 (hX.bv.on hj).lt ((hX.bv.on hj).cell (j := 14) rfl))
  clear hX hA
  go_wp2
  refine wp_region_junk (by kernel_rfl) (by kernel_rfl) ?_; (repeat (go_big_quiet_step (first | fail))); refine wpQuiet_nil ?_; rintro _ ⟨⟨osq, dq⟩, rfl⟩
  go_upto_region 18 with (first
    | (go_at_call 148; (with_reducible refine (HBG.out _ (by (exact jkc))).mono ?_); rintro e w1 ⟨rfl, ⟨os4, d4, rfl⟩⟩)
    | ((with_reducible show wpList _ _ _ _ _ _); refine wpList_storeBox rfl 255 _ _ rfl (box_at' (by simp) rfl) 0 talk0.toArray (show (Tryz.prog.info? 255).map (·.size) = some 30 from by kernel_rfl) rfl rfl (by show 0 + 30 ≤ 30; omega) (by simp [Value.oneCell', talk0]) ?_; intro w8 hg8 hb8; have H8 := Lib.hid (And.intro (below_of_grown (W0 := Y) (by (exact jkc)) hg8 (fun k hk => by cases hk; omega)) (show Box w8 _ 255 talk0 from hb8)); clear hg8 hb8))
  obtain ⟨kb, hkb⟩ : ∃ kb, Y.heap.size + (osq.size + os4.size) = kb := ⟨_, rfl⟩
  rw [hkb]
  rw [hkb] at H8
  refine wp_keep (fun Z => FE w Z g now q v (visL g.G 1 0 167772161 134744072 oo ob oc bl bc ⟨17, 167772161, fr, 134744072, tt⟩) ∧ Box Z ab 38 [.int .i64 17, .int .u32 167772161, .int .i64 fr, .int .u32 134744072, .int .i64 tt] ∧ Box Z kb 255 talk0) ⟨H2.out.1.on H8.out.1, H2.out.2.on H8.out.1, H8.out.2⟩ ?_
  intro Z ⟨hX, hA, hK⟩
  have H3 := Lib.hid (And.intro hX (And.intro hA hK))
  clear v0 v1 g5 vs gs HBG H8 H2 hkb
  have v14 : Z.cell? ⟨v, 14, none⟩ = some (.int .i64 17) := hX.bv.cell rfl
  have v15 : Z.cell? ⟨v, 15, none⟩ = some (.int .u32 167772161) := hX.bv.cell rfl
  have v16 : Z.cell? ⟨v, 16, none⟩ = some (.int .i64 fr) := hX.bv.cell rfl
  have v17 : Z.cell? ⟨v, 17, none⟩ = some (.int .u32 134744072) := hX.bv.cell rfl
  have v18 : Z.cell? ⟨v, 18, none⟩ = some (.int .i64 tt) := hX.bv.cell rfl
  have vs := hX.bv.lt
  have gs := hX.gs.b.lt
  have a0 := hA.cell (j := 0) rfl
  have a1 := hA.cell (j := 1) rfl
  have a2 := hA.cell (j := 2) rfl
  have a3 := hA.cell (j := 3) rfl
  have a4 := hA.cell (j := 4) rfl
  have as_ := hA.lt
  have k0 : Z.cell? ⟨kb, 0, none⟩ = some (.int .i64 0) := hK.cell rfl
  have ks := hK.lt
  have HTU := Lib.hid (fun w1 => show Calls Tryz.prog 130 #[.agg #[.int .i64 17, .int .u32 167772161, .int .i64 fr, .int .u32 134744072, .int .i64 tt]] w1 fun e w' => e = .returned (.agg #[.int .i64 17, .int .u32 134744072, .int .i64 tt, .int .u32 167772161, .int .i64 fr]) ∧ Junk w1 w' from tup_turn_any ⟨17, 167772161, fr, 134744072, tt⟩ w1)
  have HLA := Lib.hid (fun w1 (hj : Junk Z w1) => vlasts_any v g.G now t 0 w1 (hX.bv.on hj).lt (hX.gs.b.on hj).lt ((hX.bv.on hj).cell (j := 0) rfl) ((hX.bv.on hj).cell (j := 14) rfl) ((hX.gs.b.on hj).cell (j := 0) rfl) ((hX.gs.b.on hj).cell (j := 11) rfl) ⟨HN.out.1, by have := HN.out.2; omega⟩ HT.out)
  clear hX hA hK
  refine wp_region_mixa (Z) [(12, 50, [.int .i64 0, .int .u32 0, .int .i64 0, .int .u32 0, .int .i64 0, .int .i64 0, .int .u32 0, .int .i64 0, .int .u32 0, .int .i64 0, .int .i64 0, .int .i64 0])] [13] [] #[true, true, true, true, true, true, true, true, true, true, true, true, true, false] [(0, true), (1, true), (2, true), (3, true), (4, true), (6, true), (7, true), (8, true), (9, true), (5, false), (10, false), (11, true)] [(13, false)] (by kernel_rfl) (by kernel_rfl) (by (exact jkc)) (by intro e he a w hj; rcases (show e = 12 by simpa using he) with rfl <;> exact newVar_wpE rfl rfl rfl rfl (fun w => by first | rfl | kernel_rfl | simp [Instr.alloc]) a w hj) ?_; (iterate 9 (refine wpMixB_q rfl (fun K hK => ?_); (go_simp; try go_bits); (refine hK _ ?_; clear hK K))); refine wpMixB_e rfl (fun osm18_0 dm18_0 K hK => ?_); (go_simp; try go_bits); (go_at_call 130; (with_reducible refine (HTU.out _).mono ?_); rintro e wx ⟨rfl, ⟨ost, dt, rfl⟩⟩); refine hK _ _ (by first | exact jkc | assumption) ?_; clear hK K; refine wpMixB_e rfl (fun osm18_1 dm18_1 K hK => ?_); (go_simp; try go_bits); (go_at_call 137; (with_reducible refine (HLA.out _ (by (exact jkc))).mono ?_); rintro e wx ⟨rfl, ⟨osl, dl, rfl⟩⟩); refine hK _ _ (by first | exact jkc | assumption) ?_; clear hK K; (iterate 1 (refine wpMixB_q rfl (fun K hK => ?_); (go_simp; try go_bits); (refine hK _ ?_; clear hK K))); refine wpMixB_nil (fun osm18_2 dm18_2 => ?_); rintro _ ⟨r18_0, rfl, hr18_0, hv18_0⟩; change wpMix _ _ _ _ _ (Act.put _ (some 14) _) _; have HV18_0 := Lib.hid (show (Z).heap.size ≤ r18_0 ∧ Box _ r18_0 50 [.int .i64 0, .int .u32 0, .int .i64 0, .int .u32 0, .int .i64 0, .int .i64 0, .int .u32 0, .int .i64 0, .int .u32 0, .int .i64 0, .int .i64 0, .int .i64 0] from And.intro hr18_0 hv18_0); clear hr18_0 hv18_0; refine wpMix_e1 rfl rfl (fun osm18_3 dm18_3 K hK => ?_); (refine storeBox_wp 50 _ _ rfl (HV18_0.out.2.on ⟨osm18_3, dm18_3, rfl⟩) 0 #[.int .i64 17, .int .u32 167772161, .int .i64 fr, .int .u32 134744072, .int .i64 tt, .int .i64 17, .int .u32 134744072, .int .i64 tt, .int .u32 167772161, .int .i64 fr, .int .i64 t, .int .i64 0] (show (Tryz.prog.info? 50).map (·.size) = some 12 from by kernel_rfl) rfl rfl (by simp) (by simp [Value.oneCell']) ?_; intro w6 hg6 hb6; have HJ6 := Lib.hid (below_of_grown (show Junk Z _ by (exact jkc)) hg6 (fun k hk => by cases hk; exact HV18_0.out.1)); have HB6 := Lib.hid (show Box w6 r18_0 50 [.int .i64 17, .int .u32 167772161, .int .i64 fr, .int .u32 134744072, .int .i64 tt, .int .i64 17, .int .u32 134744072, .int .i64 tt, .int .u32 167772161, .int .i64 fr, .int .i64 t, .int .i64 0] from hb6); clear hg6 hb6); refine hK _ _ trivial ?_; clear hK K; refine wpMix_nil (fun osm dm => ?_)
  go_upto_region 19 with (fail)
  obtain ⟨fb, hfb⟩ : ∃ fb, r18_0 = fb := ⟨_, rfl⟩
  subst hfb
  have HFB := Lib.hid (show w.heap.size ≤ r18_0 from Nat.le_trans H3.out.1.j.size HV18_0.out.1)
  refine wp_keep (fun X => FE w X g now q v (visL g.G 1 0 167772161 134744072 oo ob oc bl bc ⟨17, 167772161, fr, 134744072, tt⟩) ∧ Box X r18_0 50 [.int .i64 17, .int .u32 167772161, .int .i64 fr, .int .u32 134744072, .int .i64 tt, .int .i64 17, .int .u32 134744072, .int .i64 tt, .int .u32 167772161, .int .i64 fr, .int .i64 t, .int .i64 0]) ⟨H3.out.1.on (HJ6.out.trans (by (exact jkc))), HB6.out.on (by (exact jkc))⟩ ?_
  intro X2 ⟨hX, hF⟩
  have H4 := Lib.hid (And.intro hX hF)
  clear v14 v15 v16 v17 v18 vs gs a0 a1 a2 a3 a4 as_ k0 ks HTU HLA HV18_0 HJ6 HB6 H3
  have v0 : X2.cell? ⟨v, 0, none⟩ = some (.pointer (some ⟨g.G, 0, none⟩)) := hX.bv.cell rfl
  have v2 : X2.cell? ⟨v, 2, none⟩ = some (.int .u32 0) := hX.bv.cell rfl
  have v14 : X2.cell? ⟨v, 14, none⟩ = some (.int .i64 17) := hX.bv.cell rfl
  have v15 : X2.cell? ⟨v, 15, none⟩ = some (.int .u32 167772161) := hX.bv.cell rfl
  have v16 : X2.cell? ⟨v, 16, none⟩ = some (.int .i64 fr) := hX.bv.cell rfl
  have v17 : X2.cell? ⟨v, 17, none⟩ = some (.int .u32 134744072) := hX.bv.cell rfl
  have g5 : X2.cell? ⟨g.G, 5, none⟩ = some (.int .i64 0) := hX.gs.b.cell rfl
  have g6 : X2.cell? ⟨g.G, 6, none⟩ = some (.int .u32 3405803785) := hX.gs.b.cell rfl
  have g7 : X2.cell? ⟨g.G, 7, none⟩ = some (.int .i64 5000) := hX.gs.b.cell rfl
  have g8 : X2.cell? ⟨g.G, 8, none⟩ = some (.int .i64 5100) := hX.gs.b.cell rfl
  have g18 : X2.cell? ⟨g.G, 18, none⟩ = some (.slice none 0 0) := hX.gs.b.cell rfl
  have vs := hX.bv.lt
  have gs := hX.gs.b.lt
  have f10 : X2.cell? ⟨r18_0, 10, none⟩ = some (.int .i64 t) := hF.cell rfl
  have fs := hF.lt
  have HAK := Lib.hid (fun (w1 : World) => by
    obtain ⟨P, hP, p0⟩ := ask_first 167772161 fr t HFR.out.1.1 HFR.out.1.2 (by have := HT.out; have := HN.out; omega) (by have := HT.out; have := HN.out; omega)
    have := ask_any 5000 5100 none 0 0 [] ⟨17, 167772161, fr, 0, t⟩ 0 w1 (by decide) (by decide) rfl (fun i x hx => by cases hx) (fun _ => ⟨rfl, rfl⟩) (by decide)
    rw [hP] at this
    exact (show Calls Tryz.prog 149 #[.slice none 0 0, .int .i64 5000, .int .i64 5100, .agg #[.int .i64 17, .int .u32 167772161, .int .i64 fr, .int .i64 0, .int .i64 t], .int .u32 0] w1 fun e w' => ∃ ob cap P, PtOk P fr ∧ e = .returned (.tuple #[.slice ob 1 cap, .int .i64 P, .int .i64 0]) ∧ Junk w1 w' ∧ Own w1.heap.size w' 52 5 ob cap 1 (lnsL [⟨17, 167772161, fr, P, t⟩]) from this.mono fun e w' ⟨ob, cap, he, hj, ho, _⟩ => ⟨ob, cap, P, p0, he, hj, ho⟩))
  clear hX hF
  go_wp2
  refine wp_region_junk (by kernel_rfl) (by kernel_rfl) ?_; (repeat (go_big_quiet_step (first | fail))); refine wpQuiet_nil ?_; rintro _ ⟨⟨osq, dq⟩, rfl⟩
  go_wp2
  refine wp_region_mixj (X2) [(0, true), (1, true), (2, true), (3, true), (4, true), (5, true), (6, true), (7, true), (8, true), (9, true), (10, true), (11, true), (12, true), (13, true), (14, true), (15, true), (16, true), (17, true), (18, true), (19, true), (20, true), (21, true), (22, true), (23, true), (24, true), (25, true), (26, true), (27, true), (28, true), (29, true), (30, true), (31, true), (32, true), (33, true), (34, true), (35, true), (36, true), (37, true), (38, true), (39, true), (40, true), (41, true), (42, true), (43, true), (44, true), (45, false), (46, true), (47, true), (48, true), (49, true), (50, true), (51, true), (52, true)] (by kernel_rfl) (by kernel_rfl) (by (exact jkc)) ?_; (iterate 45 (refine wpMix_q rfl (fun K hK => ?_); (go_simp; try go_bits); (refine hK _ ?_; clear hK K))); refine wpMix_e rfl (fun osm21_0 dm21_0 K hK => ?_); (go_simp; try go_bits); (go_at_call 149; (with_reducible refine (HAK.out _).mono ?_); rintro e wx ⟨lo, lcap, P, hpp, rfl, ⟨osk, dk, rfl⟩, hO⟩; have HO := Lib.hid (And.intro hpp hO); clear hpp hO); refine hK _ _ (Junk.pair (by (first | exact jkc | repeat (first | with_reducible exact Junk.refl _ | with_reducible exact Junk.app _ _ _ _ _ | with_reducible apply Junk.alloc | with_reducible apply Junk.junk | with_reducible apply Junk.drew | with_reducible apply Junk.drewN | (with_reducible refine Junk.setCell ?_ (by simp) _))))) ?_; clear hK K; (iterate 7 (refine wpMix_q rfl (fun K hK => ?_); (go_simp; try go_bits); (refine hK _ ?_; clear hK K))); refine wpMix_nil (fun osm dm => ?_)
  go_upto_region 24 with (fail)
  have HPP := Lib.hid HO.out.1
  obtain ⟨lb, hlb⟩ := own_at0 HO.out.2 (by decide)
  subst hlb
  refine wp_keep (fun X => FE w X g now q v (visL g.G 1 0 167772161 134744072 oo ob oc bl bc ⟨17, 167772161, fr, 134744072, tt⟩) ∧ Box X r18_0 50 [.int .i64 17, .int .u32 167772161, .int .i64 fr, .int .u32 134744072, .int .i64 tt, .int .i64 17, .int .u32 134744072, .int .i64 tt, .int .u32 167772161, .int .i64 fr, .int .i64 t, .int .i64 0] ∧ Own 0 X 52 5 (some ⟨lb, 0, none⟩) lcap 1 (lnsL [⟨17, 167772161, fr, P, t⟩])) ⟨H4.out.1.on (by (exact jkc)), H4.out.2.on (by (exact jkc)), (HO.out.2.lower (Nat.zero_le _)).on (by (exact jkc))⟩ ?_
  intro X3 ⟨hX, hF, hO⟩
  have H5 := Lib.hid (And.intro hX (And.intro hF hO))
  clear v0 v2 v14 v15 v16 v17 g5 g6 g7 g8 g18 vs gs f10 fs HAK HO H4
  have v0 : X3.cell? ⟨v, 0, none⟩ = some (.pointer (some ⟨g.G, 0, none⟩)) := hX.bv.cell rfl
  have g18 : X3.cell? ⟨g.G, 18, none⟩ = some (.slice none 0 0) := hX.gs.b.cell rfl
  have vs := hX.bv.lt
  have gs := hX.gs.b.lt
  have gf := hX.gs.b.frozen 18
  clear hX hF hO
  go_upto_region 25 with (fail)
  refine wp_keep (fun X => FF X g now lb lcap ⟨17, 167772161, fr, P, t⟩ q v (visL g.G 1 0 167772161 134744072 oo ob oc bl bc ⟨17, 167772161, fr, 134744072, tt⟩) r18_0 [.int .i64 17, .int .u32 167772161, .int .i64 fr, .int .u32 134744072, .int .i64 tt, .int .i64 17, .int .u32 134744072, .int .i64 tt, .int .u32 167772161, .int .i64 fr, .int .i64 t, .int .i64 0] ∧ Tch (fun k => k = g.G) X3 X) (H5.out.1.lend H5.out.2.1 H5.out.2.2 (by (exact jkc))) ?_
  intro X4 ⟨hX, hT⟩
  have H6 := Lib.hid (And.intro hX hT)
  clear v0 g18 vs gs gf
  have v0 : X4.cell? ⟨v, 0, none⟩ = some (.pointer (some ⟨g.G, 0, none⟩)) := hX.bv.cell rfl
  have v14 : X4.cell? ⟨v, 14, none⟩ = some (.int .i64 17) := hX.bv.cell rfl
  have g6 : X4.cell? ⟨g.G, 6, none⟩ = some (.int .u32 3405803785) := hX.gs.b.cell rfl
  have vs := hX.bv.lt
  have gs := hX.gs.b.lt
  have f8 := hX.bf.cell (j := 8) rfl
  have f9 := hX.bf.cell (j := 9) rfl
  have ff8 := hX.bf.frozen 8
  have ff9 := hX.bf.frozen 9
  have fs := hX.bf.lt
  clear hX hT
  go_upto_region 28 with (fail)
  refine wp_keep (fun X => FF X g now lb lcap ⟨17, 167772161, fr, P, t⟩ q v (visL g.G 1 0 167772161 134744072 oo ob oc bl bc ⟨17, 167772161, fr, 134744072, tt⟩) r18_0 [.int .i64 17, .int .u32 167772161, .int .i64 fr, .int .u32 134744072, .int .i64 tt, .int .i64 17, .int .u32 134744072, .int .i64 tt, .int .u32 3405803785, .int .i64 P, .int .i64 t, .int .i64 0] ∧ Tch (fun k => k = r18_0) X4 X) (H6.out.1.back P (by (exact jkc))) ?_
  intro X5 ⟨hX, hT⟩
  have H7 := Lib.hid (And.intro hX hT)
  clear v0 v14 g6 vs gs f8 f9 ff8 ff9 fs
  have PF0 : (fun V => Box V g.G 100 (gL g now (some ⟨lb, 0, none⟩) 1 lcap) ∧ Box V v 107 (visL g.G 1 0 167772161 134744072 oo ob oc bl bc ⟨17, 167772161, fr, 134744072, tt⟩) ∧ Box V r18_0 50 [.int .i64 17, .int .u32 167772161, .int .i64 fr, .int .u32 134744072, .int .i64 tt, .int .i64 17, .int .u32 134744072, .int .i64 tt, .int .u32 3405803785, .int .i64 P, .int .i64 t, .int .i64 0]) X5 := ⟨hX.gs.b, hX.bv, hX.bf⟩
  have HPF := Lib.hid PF0
  haveI hne : Nonempty (PW (fun V => Box V g.G 100 (gL g now (some ⟨lb, 0, none⟩) 1 lcap) ∧ Box V v 107 (visL g.G 1 0 167772161 134744072 oo ob oc bl bc ⟨17, 167772161, fr, 134744072, tt⟩) ∧ Box V r18_0 50 [.int .i64 17, .int .u32 167772161, .int .i64 fr, .int .u32 134744072, .int .i64 tt, .int .i64 17, .int .u32 134744072, .int .i64 tt, .int .u32 3405803785, .int .i64 P, .int .i64 t, .int .i64 0])) := ⟨⟨X5, PF0⟩⟩
  have kv0 : ∀ x : PW (fun V => Box V g.G 100 (gL g now (some ⟨lb, 0, none⟩) 1 lcap) ∧ Box V v 107 (visL g.G 1 0 167772161 134744072 oo ob oc bl bc ⟨17, 167772161, fr, 134744072, tt⟩) ∧ Box V r18_0 50 [.int .i64 17, .int .u32 167772161, .int .i64 fr, .int .u32 134744072, .int .i64 tt, .int .i64 17, .int .u32 134744072, .int .i64 tt, .int .u32 3405803785, .int .i64 P, .int .i64 t, .int .i64 0]), x.V.cell? ⟨v, 0, none⟩ = some (.pointer (some ⟨g.G, 0, none⟩)) := fun x => x.h.2.1.cell rfl
  have kg17 : ∀ x : PW (fun V => Box V g.G 100 (gL g now (some ⟨lb, 0, none⟩) 1 lcap) ∧ Box V v 107 (visL g.G 1 0 167772161 134744072 oo ob oc bl bc ⟨17, 167772161, fr, 134744072, tt⟩) ∧ Box V r18_0 50 [.int .i64 17, .int .u32 167772161, .int .i64 fr, .int .u32 134744072, .int .i64 tt, .int .i64 17, .int .u32 134744072, .int .i64 tt, .int .u32 3405803785, .int .i64 P, .int .i64 t, .int .i64 0]), x.V.cell? ⟨g.G, 17, none⟩ = some (.pointer (some ⟨g.s, 0, none⟩)) := fun x => x.h.1.cell rfl
  have kf0 : ∀ x : PW (fun V => Box V g.G 100 (gL g now (some ⟨lb, 0, none⟩) 1 lcap) ∧ Box V v 107 (visL g.G 1 0 167772161 134744072 oo ob oc bl bc ⟨17, 167772161, fr, 134744072, tt⟩) ∧ Box V r18_0 50 [.int .i64 17, .int .u32 167772161, .int .i64 fr, .int .u32 134744072, .int .i64 tt, .int .i64 17, .int .u32 134744072, .int .i64 tt, .int .u32 3405803785, .int .i64 P, .int .i64 t, .int .i64 0]), x.V.cell? ⟨r18_0, 0, none⟩ = some (.int .i64 17) := fun x => x.h.2.2.cell rfl
  have kf1 : ∀ x : PW (fun V => Box V g.G 100 (gL g now (some ⟨lb, 0, none⟩) 1 lcap) ∧ Box V v 107 (visL g.G 1 0 167772161 134744072 oo ob oc bl bc ⟨17, 167772161, fr, 134744072, tt⟩) ∧ Box V r18_0 50 [.int .i64 17, .int .u32 167772161, .int .i64 fr, .int .u32 134744072, .int .i64 tt, .int .i64 17, .int .u32 134744072, .int .i64 tt, .int .u32 3405803785, .int .i64 P, .int .i64 t, .int .i64 0]), x.V.cell? ⟨r18_0, 1, none⟩ = some (.int .u32 167772161) := fun x => x.h.2.2.cell rfl
  have kf2 : ∀ x : PW (fun V => Box V g.G 100 (gL g now (some ⟨lb, 0, none⟩) 1 lcap) ∧ Box V v 107 (visL g.G 1 0 167772161 134744072 oo ob oc bl bc ⟨17, 167772161, fr, 134744072, tt⟩) ∧ Box V r18_0 50 [.int .i64 17, .int .u32 167772161, .int .i64 fr, .int .u32 134744072, .int .i64 tt, .int .i64 17, .int .u32 134744072, .int .i64 tt, .int .u32 3405803785, .int .i64 P, .int .i64 t, .int .i64 0]), x.V.cell? ⟨r18_0, 2, none⟩ = some (.int .i64 fr) := fun x => x.h.2.2.cell rfl
  have kf3 : ∀ x : PW (fun V => Box V g.G 100 (gL g now (some ⟨lb, 0, none⟩) 1 lcap) ∧ Box V v 107 (visL g.G 1 0 167772161 134744072 oo ob oc bl bc ⟨17, 167772161, fr, 134744072, tt⟩) ∧ Box V r18_0 50 [.int .i64 17, .int .u32 167772161, .int .i64 fr, .int .u32 134744072, .int .i64 tt, .int .i64 17, .int .u32 134744072, .int .i64 tt, .int .u32 3405803785, .int .i64 P, .int .i64 t, .int .i64 0]), x.V.cell? ⟨r18_0, 3, none⟩ = some (.int .u32 134744072) := fun x => x.h.2.2.cell rfl
  have kf4 : ∀ x : PW (fun V => Box V g.G 100 (gL g now (some ⟨lb, 0, none⟩) 1 lcap) ∧ Box V v 107 (visL g.G 1 0 167772161 134744072 oo ob oc bl bc ⟨17, 167772161, fr, 134744072, tt⟩) ∧ Box V r18_0 50 [.int .i64 17, .int .u32 167772161, .int .i64 fr, .int .u32 134744072, .int .i64 tt, .int .i64 17, .int .u32 134744072, .int .i64 tt, .int .u32 3405803785, .int .i64 P, .int .i64 t, .int .i64 0]), x.V.cell? ⟨r18_0, 4, none⟩ = some (.int .i64 tt) := fun x => x.h.2.2.cell rfl
  have kf5 : ∀ x : PW (fun V => Box V g.G 100 (gL g now (some ⟨lb, 0, none⟩) 1 lcap) ∧ Box V v 107 (visL g.G 1 0 167772161 134744072 oo ob oc bl bc ⟨17, 167772161, fr, 134744072, tt⟩) ∧ Box V r18_0 50 [.int .i64 17, .int .u32 167772161, .int .i64 fr, .int .u32 134744072, .int .i64 tt, .int .i64 17, .int .u32 134744072, .int .i64 tt, .int .u32 3405803785, .int .i64 P, .int .i64 t, .int .i64 0]), x.V.cell? ⟨r18_0, 5, none⟩ = some (.int .i64 17) := fun x => x.h.2.2.cell rfl
  have kf6 : ∀ x : PW (fun V => Box V g.G 100 (gL g now (some ⟨lb, 0, none⟩) 1 lcap) ∧ Box V v 107 (visL g.G 1 0 167772161 134744072 oo ob oc bl bc ⟨17, 167772161, fr, 134744072, tt⟩) ∧ Box V r18_0 50 [.int .i64 17, .int .u32 167772161, .int .i64 fr, .int .u32 134744072, .int .i64 tt, .int .i64 17, .int .u32 134744072, .int .i64 tt, .int .u32 3405803785, .int .i64 P, .int .i64 t, .int .i64 0]), x.V.cell? ⟨r18_0, 6, none⟩ = some (.int .u32 134744072) := fun x => x.h.2.2.cell rfl
  have kf7 : ∀ x : PW (fun V => Box V g.G 100 (gL g now (some ⟨lb, 0, none⟩) 1 lcap) ∧ Box V v 107 (visL g.G 1 0 167772161 134744072 oo ob oc bl bc ⟨17, 167772161, fr, 134744072, tt⟩) ∧ Box V r18_0 50 [.int .i64 17, .int .u32 167772161, .int .i64 fr, .int .u32 134744072, .int .i64 tt, .int .i64 17, .int .u32 134744072, .int .i64 tt, .int .u32 3405803785, .int .i64 P, .int .i64 t, .int .i64 0]), x.V.cell? ⟨r18_0, 7, none⟩ = some (.int .i64 tt) := fun x => x.h.2.2.cell rfl
  have kf8 : ∀ x : PW (fun V => Box V g.G 100 (gL g now (some ⟨lb, 0, none⟩) 1 lcap) ∧ Box V v 107 (visL g.G 1 0 167772161 134744072 oo ob oc bl bc ⟨17, 167772161, fr, 134744072, tt⟩) ∧ Box V r18_0 50 [.int .i64 17, .int .u32 167772161, .int .i64 fr, .int .u32 134744072, .int .i64 tt, .int .i64 17, .int .u32 134744072, .int .i64 tt, .int .u32 3405803785, .int .i64 P, .int .i64 t, .int .i64 0]), x.V.cell? ⟨r18_0, 8, none⟩ = some (.int .u32 3405803785) := fun x => x.h.2.2.cell rfl
  have kf9 : ∀ x : PW (fun V => Box V g.G 100 (gL g now (some ⟨lb, 0, none⟩) 1 lcap) ∧ Box V v 107 (visL g.G 1 0 167772161 134744072 oo ob oc bl bc ⟨17, 167772161, fr, 134744072, tt⟩) ∧ Box V r18_0 50 [.int .i64 17, .int .u32 167772161, .int .i64 fr, .int .u32 134744072, .int .i64 tt, .int .i64 17, .int .u32 134744072, .int .i64 tt, .int .u32 3405803785, .int .i64 P, .int .i64 t, .int .i64 0]), x.V.cell? ⟨r18_0, 9, none⟩ = some (.int .i64 P) := fun x => x.h.2.2.cell rfl
  have kf10 : ∀ x : PW (fun V => Box V g.G 100 (gL g now (some ⟨lb, 0, none⟩) 1 lcap) ∧ Box V v 107 (visL g.G 1 0 167772161 134744072 oo ob oc bl bc ⟨17, 167772161, fr, 134744072, tt⟩) ∧ Box V r18_0 50 [.int .i64 17, .int .u32 167772161, .int .i64 fr, .int .u32 134744072, .int .i64 tt, .int .i64 17, .int .u32 134744072, .int .i64 tt, .int .u32 3405803785, .int .i64 P, .int .i64 t, .int .i64 0]), x.V.cell? ⟨r18_0, 10, none⟩ = some (.int .i64 t) := fun x => x.h.2.2.cell rfl
  have kf11 : ∀ x : PW (fun V => Box V g.G 100 (gL g now (some ⟨lb, 0, none⟩) 1 lcap) ∧ Box V v 107 (visL g.G 1 0 167772161 134744072 oo ob oc bl bc ⟨17, 167772161, fr, 134744072, tt⟩) ∧ Box V r18_0 50 [.int .i64 17, .int .u32 167772161, .int .i64 fr, .int .u32 134744072, .int .i64 tt, .int .i64 17, .int .u32 134744072, .int .i64 tt, .int .u32 3405803785, .int .i64 P, .int .i64 t, .int .i64 0]), x.V.cell? ⟨r18_0, 11, none⟩ = some (.int .i64 0) := fun x => x.h.2.2.cell rfl
  have kvs : ∀ x : PW (fun V => Box V g.G 100 (gL g now (some ⟨lb, 0, none⟩) 1 lcap) ∧ Box V v 107 (visL g.G 1 0 167772161 134744072 oo ob oc bl bc ⟨17, 167772161, fr, 134744072, tt⟩) ∧ Box V r18_0 50 [.int .i64 17, .int .u32 167772161, .int .i64 fr, .int .u32 134744072, .int .i64 tt, .int .i64 17, .int .u32 134744072, .int .i64 tt, .int .u32 3405803785, .int .i64 P, .int .i64 t, .int .i64 0]), v < x.V.heap.size := fun x => x.h.2.1.lt
  have kgs : ∀ x : PW (fun V => Box V g.G 100 (gL g now (some ⟨lb, 0, none⟩) 1 lcap) ∧ Box V v 107 (visL g.G 1 0 167772161 134744072 oo ob oc bl bc ⟨17, 167772161, fr, 134744072, tt⟩) ∧ Box V r18_0 50 [.int .i64 17, .int .u32 167772161, .int .i64 fr, .int .u32 134744072, .int .i64 tt, .int .i64 17, .int .u32 134744072, .int .i64 tt, .int .u32 3405803785, .int .i64 P, .int .i64 t, .int .i64 0]), g.G < x.V.heap.size := fun x => x.h.1.lt
  have kfs : ∀ x : PW (fun V => Box V g.G 100 (gL g now (some ⟨lb, 0, none⟩) 1 lcap) ∧ Box V v 107 (visL g.G 1 0 167772161 134744072 oo ob oc bl bc ⟨17, 167772161, fr, 134744072, tt⟩) ∧ Box V r18_0 50 [.int .i64 17, .int .u32 167772161, .int .i64 fr, .int .u32 134744072, .int .i64 tt, .int .i64 17, .int .u32 134744072, .int .i64 tt, .int .u32 3405803785, .int .i64 P, .int .i64 t, .int .i64 0]), r18_0 < x.V.heap.size := fun x => x.h.2.2.lt
  have hok : FlOk ⟨⟨17, 167772161, fr, 134744072, tt⟩, ⟨17, 134744072, tt, 3405803785, P⟩, t, 0⟩ := by
    have h1 := tup17 (s := 167772161) (d := 134744072) (by decide) (by decide) HFR.out.1 HFR.out.2
    have h2 := tup17 (s := 134744072) (d := 3405803785) (sp := tt) (dp := P) (by decide) (by decide) HFR.out.2 ⟨by have := HPP.out.1; omega, by have := HPP.out.1; omega⟩
    refine ⟨h1.1, h1.2, h2.1, h2.2, fun e => ?_, ?_, ?_⟩
    · injection e with _ e
      exact absurd e (by decide)
    · show 0 ≤ t; have := HT.out; have := HN.out; omega
    · show t ≤ 1099511627776; have := HT.out; have := HN.out; omega
  have HOK := Lib.hid hok
  have HADD := Lib.hid (fun w1 (hj : Junk X5 w1) => show Calls Tryz.prog 150 #[.pointer (some ⟨g.s, 0, none⟩), .agg #[.int .i64 17, .int .u32 167772161, .int .i64 fr, .int .u32 134744072, .int .i64 tt, .int .i64 17, .int .u32 134744072, .int .i64 tt, .int .u32 3405803785, .int .i64 P, .int .i64 t, .int .i64 0]] w1 fun e w' => e = .returned (.tuple #[.int .i64 0, .int .i64 0]) ∧ ∃ tb' tc' li lc', FS1 w' g.s q.sl tb' tc' q.wh q.mp li lc' ⟨⟨17, 167772161, fr, 134744072, tt⟩, ⟨17, 134744072, tt, 3405803785, P⟩, t, 0⟩ now ∧ Tch (LF g.s q.sl q.wh q.mp) w1 w' ∧ w1.heap.size ≤ li from fadd_any g.s q.sl q.tb q.tc q.wh q.mp now _ w1 (hX.fs.on hj) HOK.out (by show now < t; have := HT.out; omega))
  have HNE := Lib.hid HH.out.ne
  clear hX hT hok PF0
  refine wp_region_mixp (fun V => Box V g.G 100 (gL g now (some ⟨lb, 0, none⟩) 1 lcap) ∧ Box V v 107 (visL g.G 1 0 167772161 134744072 oo ob oc bl bc ⟨17, 167772161, fr, 134744072, tt⟩) ∧ Box V r18_0 50 [.int .i64 17, .int .u32 167772161, .int .i64 fr, .int .u32 134744072, .int .i64 tt, .int .i64 17, .int .u32 134744072, .int .i64 tt, .int .u32 3405803785, .int .i64 P, .int .i64 t, .int .i64 0]) (fun _ _ h hj => ⟨h.1.on hj, h.2.1.on hj, h.2.2.on hj⟩) [(0, true), (1, true), (2, true), (3, true), (4, true), (5, true), (6, true), (7, true), (8, false), (9, true), (10, true), (11, true), (12, true), (13, true)] (by kernel_rfl) (by kernel_rfl) (HPF.out) ?_; (iterate 8 (refine wpMix_q rfl (fun K hK => ?_); (go_simp; try go_bits); (refine hK _ ?_; clear hK K))); refine wpMix_e rfl (fun osm28_0 dm28_0 K hK => ?_); (go_simp; try go_bits); (go_at_call 150; (with_reducible refine (HADD.out _ (by (exact jkc))).mono ?_); rintro e w9 ⟨rfl, tb', tc', li, lc', hf9, ht9, hli9⟩; have H9 := Lib.hid (And.intro hf9 (And.intro ht9 hli9)); have k9 := (H7.out.1.on (by (exact jkc))).added HNE.out ht9; have HK9 := Lib.hid k9; have HP9 := Lib.hid (show (fun V => Box V g.G 100 (gL g now (some ⟨lb, 0, none⟩) 1 lcap) ∧ Box V v 107 (visL g.G 1 0 167772161 134744072 oo ob oc bl bc ⟨17, 167772161, fr, 134744072, tt⟩) ∧ Box V r18_0 50 [.int .i64 17, .int .u32 167772161, .int .i64 fr, .int .u32 134744072, .int .i64 tt, .int .i64 17, .int .u32 134744072, .int .i64 tt, .int .u32 3405803785, .int .i64 P, .int .i64 t, .int .i64 0]) w9 from ⟨k9.1.b, k9.2.2.1, k9.2.2.2⟩); clear hf9 ht9 hli9 k9); refine hK _ _ (⟨⟨_, by exact HP9.out⟩, rfl⟩) ?_; clear hK K; (iterate 5 (refine wpMix_q rfl (fun K hK => ?_); (go_simp; try go_bits); (refine hK _ ?_; clear hK K))); refine wpMix_nil (fun osm dm => ?_)
  go_upto_region 29 with (fail)
  clear kv0 kg17 kf0 kf1 kf2 kf3 kf4 kf5 kf6 kf7 kf8 kf9 kf10 kf11 kvs kgs kfs hne
  refine wp_keep (fun Y => GF B Y g now lb lcap ⟨q.sl, tb', tc', q.wh, q.mp, li, lc'⟩ ⟨⟨17, 167772161, fr, 134744072, tt⟩, ⟨17, 134744072, tt, 3405803785, P⟩, t, 0⟩ P ∧ Box Y v 107 (visL g.G 1 0 167772161 134744072 oo ob oc bl bc ⟨17, 167772161, fr, 134744072, tt⟩) ∧ Box Y r18_0 50 [.int .i64 17, .int .u32 167772161, .int .i64 fr, .int .u32 134744072, .int .i64 tt, .int .i64 17, .int .u32 134744072, .int .i64 tt, .int .u32 3405803785, .int .i64 P, .int .i64 t, .int .i64 0] ∧ IpAt Y (Pk 64 167772161 134744072 bl body) oo oc ob bc ∧ Tch (fun k => k = g.G ∨ k = g.s ∨ k = q.sl ∨ k = q.wh ∨ k = q.mp) w Y) (by
    have T35 : Tch (fun k => k = g.G) w X5 := ((Tch.of_junk H5.out.1.j).trans H6.out.2).then H7.out.2 (fun i hi e => by have e : i = r18_0 := e; have := HFB.out; omega)
    have T9 : Tch (fun k => k = g.G ∨ k = g.s ∨ k = q.sl ∨ k = q.wh ∨ k = q.mp) w w9 := ((T35.on (by (exact jkc))).mono (fun k hk => .inl hk)).trans (H9.out.2.1.mono (fun k hk => .inr hk))
    have hli := H9.out.2.2
    have hsz := T35.size
    have hB := HBW.out
    have lo := HH.out.lo
    have hN := HFN.out.2.2
    have hli2 : B ≤ li := by simp only [World.size_junk] at hli; omega
    have hI := ip_newer HI.out HFN.out.1 HFN.out.2.1 T9 (fun k hk => by rcases hk with rfl | rfl | rfl | rfl | rfl <;> omega)
    have hG : GF B w9 g now lb lcap ⟨q.sl, tb', tc', q.wh, q.mp, li, lc'⟩ ⟨⟨17, 167772161, fr, 134744072, tt⟩, ⟨17, 134744072, tt, 3405803785, P⟩, t, 0⟩ P := ⟨HK9.out.1, HK9.out.2.1, H9.out.1, HOK.out, HNE.out, ⟨lo.1, lo.2.1, lo.2.2.1, lo.2.2.2.1, lo.2.2.2.2, hli2⟩, HPP.out⟩
    exact ⟨hG.on (by (exact jkc)), HK9.out.2.2.1.on (by (exact jkc)), HK9.out.2.2.2.on (by (exact jkc)), hI.on (by (exact jkc)), T9.on (by (exact jkc))⟩) ?_
  intro Y9 ⟨k1, k2, k3, k4, k5⟩
  have HE := Lib.hid (And.intro k1 (And.intro k2 (And.intro k3 (And.intro k4 k5))))
  clear H5 H6 H7 HPF HADD H9 HK9 HP9
  have v0 : Y9.cell? ⟨v, 0, none⟩ = some (.pointer (some ⟨g.G, 0, none⟩)) := k2.cell rfl
  have v3 : Y9.cell? ⟨v, 3, none⟩ = some (.int .i64 0) := k2.cell rfl
  have v4 : Y9.cell? ⟨v, 4, none⟩ = some (.int .i64 0) := k2.cell rfl
  have v5 : Y9.cell? ⟨v, 5, none⟩ = some (.bool false) := k2.cell rfl
  have v6 : Y9.cell? ⟨v, 6, none⟩ = some (.bool false) := k2.cell rfl
  have v7 : Y9.cell? ⟨v, 7, none⟩ = some (.int .i64 0) := k2.cell rfl
  have v8 : Y9.cell? ⟨v, 8, none⟩ = some (.int .i64 64) := k2.cell rfl
  have v9 : Y9.cell? ⟨v, 9, none⟩ = some (.int .i64 17) := k2.cell rfl
  have v10 : Y9.cell? ⟨v, 10, none⟩ = some (.int .u32 167772161) := k2.cell rfl
  have v11 : Y9.cell? ⟨v, 11, none⟩ = some (.int .u32 134744072) := k2.cell rfl
  have v12 : Y9.cell? ⟨v, 12, none⟩ = some (.slice oo 0 oc) := k2.cell rfl
  have v13 : Y9.cell? ⟨v, 13, none⟩ = some (.slice ob bl bc) := k2.cell rfl
  have v14 : Y9.cell? ⟨v, 14, none⟩ = some (.int .i64 17) := k2.cell rfl
  have vs := k2.lt
  have f0 : Y9.cell? ⟨r18_0, 0, none⟩ = some (.int .i64 17) := k3.cell rfl
  have f1 : Y9.cell? ⟨r18_0, 1, none⟩ = some (.int .u32 167772161) := k3.cell rfl
  have f2 : Y9.cell? ⟨r18_0, 2, none⟩ = some (.int .i64 fr) := k3.cell rfl
  have f3 : Y9.cell? ⟨r18_0, 3, none⟩ = some (.int .u32 134744072) := k3.cell rfl
  have f4 : Y9.cell? ⟨r18_0, 4, none⟩ = some (.int .i64 tt) := k3.cell rfl
  have f5 : Y9.cell? ⟨r18_0, 5, none⟩ = some (.int .i64 17) := k3.cell rfl
  have f6 : Y9.cell? ⟨r18_0, 6, none⟩ = some (.int .u32 134744072) := k3.cell rfl
  have f7 : Y9.cell? ⟨r18_0, 7, none⟩ = some (.int .i64 tt) := k3.cell rfl
  have f8 : Y9.cell? ⟨r18_0, 8, none⟩ = some (.int .u32 3405803785) := k3.cell rfl
  have f9 : Y9.cell? ⟨r18_0, 9, none⟩ = some (.int .i64 P) := k3.cell rfl
  have f10 : Y9.cell? ⟨r18_0, 10, none⟩ = some (.int .i64 t) := k3.cell rfl
  have f11 : Y9.cell? ⟨r18_0, 11, none⟩ = some (.int .i64 0) := k3.cell rfl
  have fs := k3.lt
  have HTN := Lib.hid (fun w1 (hj : Junk Y9 w1) => by
    have := vturned_any v g.G 134744072 6 0 (some ⟨g.rb, 0, none⟩) g.rc 167772161 134744072 3405803785 fr tt P tt bl body oo ob oc bc ⟨⟨17, 167772161, fr, 134744072, tt⟩, ⟨17, 134744072, tt, 3405803785, P⟩, t, 0⟩ false w1 ((k2.on hj).lt) ((k1.gs.b.on hj).lt) ((k2.on hj).cell (j := 0) rfl) ((k1.gs.b.on hj).cell (j := 3) rfl) way_peer k1.gs.rcap (k1.gs.on hj).ros rfl HU.out (by decide) (by decide) ⟨by have := HPP.out.1; omega, by have := HPP.out.1; omega⟩ HFR.out.2 hb (k4.on hj)
    exact this)
  clear k1 k2 k3 k4 k5
  go_upto_region 34 with (fail)
  refine wp_region_mixj (Y9) [(0, true), (1, true), (2, true), (3, true), (4, true), (5, true), (6, false), (7, true), (8, true), (9, true), (10, true)] (by kernel_rfl) (by kernel_rfl) (by (exact jkc)) ?_; (iterate 6 (refine wpMix_q rfl (fun K hK => ?_); (go_simp; try go_bits); (refine hK _ ?_; clear hK K))); refine wpMix_e rfl (fun osm34_0 dm34_0 K hK => ?_); (go_simp; try go_bits); (go_at_call 138; (with_reducible refine (HTN.out _ (by (exact jkc))).mono ?_); rintro e wt ⟨n, cn, o, c, rfl, hs⟩; have HQ := Lib.hid hs; obtain ⟨os5, d5, rfl⟩ := hs.j; clear hs); refine hK _ _ (Junk.pair (by (first | exact jkc | repeat (first | with_reducible exact Junk.refl _ | with_reducible exact Junk.app _ _ _ _ _ | with_reducible apply Junk.alloc | with_reducible apply Junk.junk | with_reducible apply Junk.drew | with_reducible apply Junk.drewN | (with_reducible refine Junk.setCell ?_ (by simp) _))))) ?_; clear hK K; (iterate 4 (refine wpMix_q rfl (fun K hK => ?_); (go_simp; try go_bits); (refine hK _ ?_; clear hK K))); refine wpMix_nil (fun osm dm => ?_)
  go_wp2
  go_returns
  first
    | exact ⟨n, cn, o, c, lb, lcap, _, P, rfl, HE.out.1.on (by (exact jkc)), rfl, HQ.out.out.on (by (exact jkc)), HE.out.2.2.2.2.on (by (exact jkc))⟩
    | exact ⟨n, cn, rfl, o, c, lb, lcap, _, P, HE.out.1.on (by (exact jkc)), rfl, HQ.out.out.on (by (exact jkc)), HE.out.2.2.2.2.on (by (exact jkc))⟩
end Go.Proofs.YtfhkhnoiolkkdaaGreatDoor
