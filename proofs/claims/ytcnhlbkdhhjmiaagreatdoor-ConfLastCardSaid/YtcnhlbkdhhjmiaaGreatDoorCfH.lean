/- The line route. -/
import Derived.Test.YtcnhlbkdhhjmiaaGreatDoorCfG
import Derived.Test.YtcnhlbkdhhjmiaaGreatDoorMixP
import Derived.Test.YtcnhlbkdhhjmiaaGreatDoorPkG
set_option linter.unusedVariables false
set_option maxRecDepth 100000
set_option linter.unusedSimpArgs false
namespace Go
open RowKit
/-- An append to a slice of the call's own, inside a region that draws: what it leaves is told by the block that was written. -/
theorem ap_gr_wp {P : Program} {w : World} {o : Oper} {a : Act} {K : Act → World → Prop} {Q : Exit → Act → World → Prop} (s x : Operand) (t : TypeId)
    (ho : o.op = .call { callee := .builtin .append, args := #[s, x], argTypes := #[t, t] })
    (e : TypeId) (z : Value) (size bytes : Nat) (hinfo : (P.info? e).map (fun i => (i.zero, i.size, i.bytes)) = some (some z, size, bytes)) (hzs : z.cells.size = size) (hsz : 0 < size) (ht : P.underlying t = some (.slice e))
    (B : Nat) (hB : B ≤ w.heap.size) (oa : Option Addr) (cap n : Nat) (xs : List Value) (hs : a.eval s = .slice oa n cap) (hown : Own B w e size oa cap n xs)
    (ad : Addr) (m c : Nat) (hx : a.eval x = .slice (some ad) m c) (news : List Value) (hl : news.length = m * size) (hnews : ∀ j u, news[j]? = some u → w.cell? (ad.add j) = some u)
    (h1 : ∀ u ∈ news, u.oneCell' = true) (hm : n + m ≤ maxLen) (hb : (n + m) * bytes ≤ 140737488355328) (hm0 : 0 < m)
    (h : ∀ oa' cap' w1, Own B w1 e size oa' cap' (n + m) (xs ++ news) → w.grownBy w1 (rowOf oa) → (rowOf oa' = rowOf oa ∨ rowOf oa' = some w.heap.size) → K (a.put o.dst (.slice oa' (n + m) cap')) w1) : o.wp P a w K Q := by
  obtain ⟨i, hi, hz0, hz1, hz2⟩ := info_parts hinfo
  obtain ⟨v', w', hr, h2, h3, h4⟩ := run_append_own2 (P := P) w B t o.type e i z size bytes ht hi hz0 hz1 hz2 hzs hsz _ n xs hown ad m c news hl hnews h1 hm hb hB hm0
  have hk : K (a.put o.dst v') w' := by
    rcases h2.2 with ⟨rfl, h0⟩ | ⟨g, cap', cur, rfl, _⟩
    · omega
    · rw [ownBlock_slice] at h3 h4
      rw [ownBlock_slice] at h4
      exact h _ _ w' h2 h3 h4
  unfold Oper.wp
  simp only [execOp, ho, resolve, invoke, builtin, hs, hx, List.map_toArray, List.map_cons, List.map_nil, Sem.run_bind, hr, Sem.run_pure, Result.andThen]
  simpa [Oper.upon] using hk
end Go
namespace Go.Proofs.YtcnhlbkdhhjmiaaGreatDoor
open Go.RowKit
variable {L L' : Nat → Prop} {w w' w'' : World}
/-- The reader's block, and what is new. -/
def LX (r N : Nat) : Nat → Prop := fun k => k = r ∨ N ≤ k
theorem LX.r {r N : Nat} (t : Tch (· = r) w w') : Tch (LX r N) w w' := t.mono fun k hk => .inl hk
theorem Tch.setX {r N X : Nat} (t : Tch (LX r N) w w') (hX : N ≤ X) (i : Nat) (v : Value) : Tch (LX r N) w (w'.setCell ⟨X, i, none⟩ v) := Tch.setCell (a := ⟨X, i, none⟩) t (.inr hX) v
theorem RowAt.setX {kb r X : Nat} {ws : List ByteArray} {bad : Bool} (h : RowAt w kb r ws bad) (hX : r < X) (i : Nat) (v : Value) : RowAt (w.setCell ⟨X, i, none⟩ v) kb r ws bad := by
  obtain ⟨oa, cap, h0, h1, h2⟩ := h.c0
  refine ⟨by simpa [World.setCell] using h.lt, h.ge, h.kr, ⟨oa, cap, ?_, h1, fun j x hi => ?_⟩, ?_, ?_, ?_⟩
  · rw [World.cell?_setCell_other _ _ _ _ (by simp; try omega)]; exact h0
  · obtain ⟨g, o, he, hg, hc⟩ := h2 j x hi
    refine ⟨g, o, he, hg, ?_⟩
    have := hg.1
    rw [World.cell?_setCell_other _ _ _ _ (by simp; try omega)]
    exact hc
  · rw [World.cell?_setCell_other _ _ _ _ (by simp; try omega)]; exact h.c1
  · rw [World.frozen?_setCell]; exact h.f0
  · rw [World.frozen?_setCell]; exact h.f1
theorem built_cells_m {w : World} {news : List Value} {e : TypeId} {n : Nat} {os : Array Obj} {d : Nat} (hn : n = w.heap.size) : ∀ ad : Addr, some (⟨n, 0, none⟩ : Addr) = some ad → ∀ j u, news[j]? = some u → ((w.alloc (.cells news.toArray e)).junk os d).cell? (ad.add j) = some u := by
  intro ad had j u hu
  have h := built_cells (e := e) hn ad had j u hu
  cases had
  rw [Addr.add_lit] at h ⊢
  rw [World.cell?_junk _ _ _ _ _ (by simp [hn])]
  exact h
theorem row_ne {B R g : Nat} {e : TypeId} {sz : Nat} {oa : Option Addr} {cap n : Nat} {xs : List Value} (h : Own B w e sz oa cap n xs) (hg : g < B ∨ R ≤ g) (hb : ∀ k, oa = some ⟨k, 0, none⟩ → k < R) : some g ≠ rowOf oa := by
  rcases h.form with ⟨rfl, _⟩ | ⟨k, cur, rfl, hk, _⟩
  · simp [rowOf]
  · have := hb k rfl
    simp only [rowOf, Option.map_some, ne_eq, Option.some.injEq]
    omega
/-- The configuration's block, and the new line's. -/
def TwoB (c X : Nat) (tx : TypeId) (cs xs : List Value) (V : World) : Prop := Box V c 27 cs ∧ Box V X tx xs
theorem TwoB.on {c X : Nat} {tx : TypeId} {cs xs : List Value} (h : TwoB c X tx cs xs w) (hj : Junk w w') : TwoB c X tx cs xs w' := ⟨h.1.on hj, h.2.on hj⟩
theorem TwoB.grown {c X : Nat} {tx : TypeId} {cs xs : List Value} {row : Option Nat} (h : TwoB c X tx cs xs w) (hg : w.grownBy w' row) (h1 : some c ≠ row) (h2 : some X ≠ row) : TwoB c X tx cs xs w' := ⟨h.1.grown hg h1, h.2.grown hg h2⟩
theorem tch_grown {V w1 : World} {row : Option Nat} (hj : Junk V w) (hg : w.grownBy w1 row) (hrow : ∀ k, row = some k → L k) : Tch L V w1 :=
  (Tch.of_junk hj).trans ⟨hg.os, hg.tape, hg.output, hg.size, fun k hk hn => hg.block k hk (fun e => hn (hrow k e.symm))⟩
theorem own_kept {B : Nat} {e e0 : TypeId} {sz sz0 : Nat} {oa o0 : Option Addr} {cap n cap0 n0 : Nat} {xs xs0 : List Value} {w1 : World} (h : Own B w e sz oa cap n xs) (h0 : Own B w e0 sz0 o0 cap0 n0 xs0) (hne : e ≠ e0) (hg : w.grownBy w1 (rowOf o0)) : Own B w1 e sz oa cap n xs := by
  refine World.ownsRow.kept h hg ?_
  rw [ownBlock_slice]
  rcases h.form with ⟨rfl, _⟩ | ⟨k, cur, rfl, hk, hh, _⟩
  · exact .inl rfl
  · refine .inr fun he => ?_
    rcases h0.form with ⟨rfl, _⟩ | ⟨k0, cur0, rfl, hk0, hh0, _⟩
    · cases he
    · simp only [rowOf, Option.map_some, Option.some.injEq] at he
      subst he
      rw [hh] at hh0
      injection hh0 with hh0
      injection hh0 with _ ht
      exact hne ht
theorem own_lt {B : Nat} {e : TypeId} {sz : Nat} {oa : Option Addr} {cap n : Nat} {xs : List Value} (h : Own B w e sz oa cap n xs) : ∀ g, oa = some ⟨g, 0, none⟩ → g < w.heap.size := by
  intro g hg
  rcases h.form with ⟨rfl, _⟩ | ⟨k, cur, rfl, hk, hh, _⟩
  · cases hg
  · cases hg
    exact (Array.getElem?_eq_some_iff.1 hh).1
theorem own_set {B c : Nat} {e : TypeId} {sz : Nat} {oa : Option Addr} {cap n : Nat} {xs : List Value} (h : Own B w e sz oa cap n xs) (hc : c < B) (i : Nat) (v : Value) : Own B (w.setCell ⟨c, i, none⟩ v) e sz oa cap n xs :=
  own_tch h (own_lt h) ((Tch.refl w).at (r := c) i v) (fun k h1 h2 e => by omega)
theorem row_lt {B R : Nat} {e : TypeId} {sz : Nat} {oa : Option Addr} {cap n : Nat} {xs : List Value} (h : Own B w e sz oa cap n xs) (hb : ∀ k, oa = some ⟨k, 0, none⟩ → k < R) : ∀ k, rowOf oa = some k → B ≤ k ∧ k < R := by
  intro k hk
  rcases h.form with ⟨rfl, _⟩ | ⟨g, cur, rfl, hg, _⟩
  · cases hk
  · simp only [rowOf, Option.map_some, Option.some.injEq] at hk
    subst hk
    exact ⟨hg, hb _ rfl⟩
theorem cf_routes {c B R : Nat} {f : Cf} {o0 o1 o6 oz : Option Addr} {c0 c1 c6 cz : Nat} {x : Ro} {Wb w9 : World} (hge : 8 ≤ c) (hlt : c < B) (hR : R ≤ w9.heap.size) (hO : CfOwn Wb B R f o0 c0 o1 c1 o6 c6) (hg : Wb.grownBy w9 (rowOf o0))
    (hb : Box w9 c 27 (cfVals f o0 c0 o1 c1 o6 c6)) (hx : Own B w9 49 4 oz cz (f.routes.length + 1) (rosL f.routes ++ x.cells)) :
    CfAt (w9.setCell ⟨c, 0, none⟩ (.slice oz (f.routes.length + 1) cz)) c B w9.heap.size { f with routes := f.routes ++ [x] } := by
  have hs : (w9.setCell ⟨c, 0, none⟩ (.slice oz (f.routes.length + 1) cz)).heap.size = w9.heap.size := by simp [World.setCell]
  refine ⟨hge, hlt, oz, cz, o1, c1, o6, c6, ?_, ?_⟩
  · have := hb.set 0 (.slice oz (f.routes.length + 1) cz)
    simpa [cfVals] using this
  · refine ⟨?_, own_set (own_kept hO.r1 hO.r0 (by decide) hg) hlt _ _, own_set (own_kept hO.r6 hO.r0 (by decide) hg) hlt _ _, ?_, ?_, ?_⟩
    · have := own_set hx hlt 0 (.slice oz (f.routes.length + 1) cz)
      simpa [rosL] using this
    · exact own_lt hx
    · intro g hg1; have := hO.b1 g hg1; omega
    · intro g hg1; have := hO.b6 g hg1; omega
theorem CfAt.on {c B R : Nat} {f : Cf} (h : CfAt w c B R f) (hj : Junk w w') (hR : B ≤ R) : CfAt w' c B R f := h.tch (L := fun _ => False) (Tch.of_junk hj) (fun _ _ e => e) hR
theorem LX.lc {r N c B : Nat} (t : Tch (LX r N) w w') (hr : B ≤ r) (hN : B ≤ N) : Tch (LC c B) w w' := t.mono fun k hk => .inr (by rcases hk with rfl | hk <;> omega)
set_option maxHeartbeats 4000000 in
theorem route_m (r c B R : Nat) (ws : List ByteArray) (f : Cf) (h : LinePre w r c B R ws f) (hlen : f.routes.length ≤ 1000) :
    Calls Tryz.prog 35 #[.pointer (some ⟨r, 0, none⟩), .pointer (some ⟨c, 0, none⟩)] w fun e w' => e = .returned (.tuple #[]) ∧ Tch (LC c B) w w' ∧ LineR (lineW f wRoute (w8s ws)) r c B R w' := by
  have HP := Lib.hid h
  have hc : c < R := by have := h.cf.lt; have := h.hR; omega
  have hcr : c ≠ r := by have := h.row.kr; omega
  obtain ⟨N, hN⟩ : ∃ N, N = w.heap.size := ⟨_, rfl⟩
  have hrN : r < N := by rw [hN]; exact h.row.lt
  have hNr : N ≠ r := by omega
  have hRr : R ≤ r := h.row.kr
  have HE := Lib.hid (fun (w1 : World) (t : Tch (LX r N) w w1) => h.env.on t (fun k hk => by have := h.row.ge; rcases hk with rfl | hk <;> omega))
  obtain ⟨o0, c0, o1, c1, o6, c6, hb, ho⟩ := h.cf.box
  have hj0 : Junk w (w.alloc (.cells #[.int .u32 0, .int .i64 0, .int .i64 0, .int .i64 0] 49)) := (Junk.refl w).alloc _
  have hbx := box_new w #[.int .u32 0, .int .i64 0, .int .i64 0, .int .i64 0] 49
  rw [← hN] at hbx
  have HT0 := Lib.hid (show Tch (LX r N) w (w.alloc (.cells #[.int .u32 0, .int .i64 0, .int .i64 0, .int .i64 0] 49)) from Tch.of_junk hj0)
  have HN := Lib.hid (net_any (HE.out _ HT0.out) r ws false h.short (h.row.on hj0))
  have HB0 := Lib.hid (hb.on hj0)
  have HBX := Lib.hid hbx
  have HS1 := Lib.hid h.short.tail
  have HO := Lib.hid ho
  have HNN := Lib.hid hN
  have HLEN := Lib.hid hlen
  have hNN : N ≤ N := Nat.le_refl _
  clear h hb ho hj0 hbx hlen
  go_enter Tryz.func35, Tryz.ntmps35
  go_upto_region 1 with (fail)
  rw [← hN]
  clear hN
  generalize w.alloc (.cells #[.int .u32 0, .int .i64 0, .int .i64 0, .int .i64 0] 49) = w0 at *
  go_upto_region 2 with (go_at_call 56; (refine HN.out.mono ?_; rintro e w1 ⟨a, n, rfl, hv, hn2, hR1, hT1⟩); have hB1 := box_row HBX.out hT1 hNr; have p0 := hB1.lt; have p1 := hB1.frozen; have p2 := hB1.cell (j := 0) rfl; have p3 := hB1.cell (j := 1) rfl; have HC1 := Lib.hid (((box_row HB0.out hT1 hcr).far (a := ⟨N, 0, none⟩) (by show N ≠ c; omega) (.int .u32 a)).far (a := ⟨N, 1, none⟩) (by show N ≠ c; omega) (.int .i64 n)); have HR1 := Lib.hid ((hR1.setX hrN 0 (.int .u32 a)).setX hrN 1 (.int .i64 n)); have HT1 := Lib.hid (((HT0.out.trans (LX.r hT1)).setX hNN 0 (.int .u32 a)).setX hNN 1 (.int .i64 n)); have HB1 := Lib.hid ((hB1.set 0 (.int .u32 a)).set 1 (.int .i64 n)); have HV1 := Lib.hid hv; clear hR1 hT1 hB1 hv)
  generalize (w1.setCell ⟨N, 0, none⟩ (.int .u32 a)).setCell ⟨N, 1, none⟩ (.int .i64 n) = V1 at *
  go_upto_region 3 with (go_at_call 57; (refine (num_any (HE.out _ HT1.out) r _ _ HS1.out HR1.out).mono ?_; rintro e w2 ⟨z, rfl, hz, hz2, hR2, hT2⟩); have hB2 := box_row HB1.out hT2 hNr; have q0 := hB2.lt; have q1 := hB2.frozen; have q2 := hB2.cell (j := 2) rfl; have HC2 := Lib.hid ((box_row HC1.out hT2 hcr).far (a := ⟨N, 2, none⟩) (by show N ≠ c; omega) (.int .i64 z)); have HR2 := Lib.hid (hR2.setX hrN 2 (.int .i64 z)); have HT2 := Lib.hid ((HT1.out.trans (LX.r hT2)).setX hNN 2 (.int .i64 z)); have HB2 := Lib.hid (hB2.set 2 (.int .i64 z)); have HZ2 := Lib.hid hz; clear hR2 hT2 hB2 hz)
  generalize w2.setCell ⟨N, 2, none⟩ (.int .i64 z) = V2 at *
  go_upto_region 4 with (go_at_call 57; (refine (num_any (HE.out _ HT2.out) r _ _ HS1.out.tail HR2.out).mono ?_; rintro e w3 ⟨m, rfl, hm, hm2, hR3, hT3⟩); have hB3 := box_row HB2.out hT3 hNr; have s0 := hB3.lt; have s1 := hB3.frozen; have s2 := hB3.cell (j := 3) rfl; have HC3 := Lib.hid ((box_row HC2.out hT3 hcr).far (a := ⟨N, 3, none⟩) (by show N ≠ c; omega) (.int .i64 m)); have HR3 := Lib.hid (hR3.setX hrN 3 (.int .i64 m)); have HT3 := Lib.hid ((HT2.out.trans (LX.r hT3)).setX hNN 3 (.int .i64 m)); have HB3 := Lib.hid (hB3.set 3 (.int .i64 m)); have HM3 := Lib.hid hm; clear hR3 hT3 hB3 hm)
  generalize w3.setCell ⟨N, 3, none⟩ (.int .i64 m) = V3 at *
  have HO3 := Lib.hid (HO.out.tch HT3.out (fun k h1 h2 e => by have := HP.out.row.kr; rcases e with e | e <;> omega))
  have HF := Lib.hid (show TwoB c N 49 (cfVals f o0 c0 o1 c1 o6 c6) [.int .u32 a, .int .i64 n, .int .i64 z, .int .i64 m] V3 from ⟨HC3.out, HB3.out⟩)
  clear p0 p1 p2 p3 q0 q1 q2 s0 s1 s2
  have HBV := Lib.hid (show B ≤ V3.heap.size from by have := HT3.out.size; have := HNN.out; have := HP.out.hR; omega)
  have hBR := HP.out.hR
  have HC0 := Lib.hid (row_ne HO3.out.r0 (g := c) (.inl HP.out.cf.lt) HO3.out.b0)
  have HX0 := Lib.hid (row_ne HO3.out.r0 (g := N) (.inr (show R ≤ N by omega)) HO3.out.b0)
  haveI hne : Nonempty (PW (TwoB c N 49 (cfVals f o0 c0 o1 c1 o6 c6) [.int .u32 a, .int .i64 n, .int .i64 z, .int .i64 m])) := ⟨⟨V3, HF.out⟩⟩
  have k0 : ∀ x : PW (TwoB c N 49 (cfVals f o0 c0 o1 c1 o6 c6) [.int .u32 a, .int .i64 n, .int .i64 z, .int .i64 m]), x.V.cell? ⟨c, 0, none⟩ = some (.slice o0 f.routes.length c0) := fun x => x.h.1.cell rfl
  have y0 : ∀ x : PW (TwoB c N 49 (cfVals f o0 c0 o1 c1 o6 c6) [.int .u32 a, .int .i64 n, .int .i64 z, .int .i64 m]), x.V.cell? ⟨N, 0, none⟩ = some (.int .u32 a) := fun x => x.h.2.cell rfl
  have y1 : ∀ x : PW (TwoB c N 49 (cfVals f o0 c0 o1 c1 o6 c6) [.int .u32 a, .int .i64 n, .int .i64 z, .int .i64 m]), x.V.cell? ⟨N, 1, none⟩ = some (.int .i64 n) := fun x => x.h.2.cell rfl
  have y2 : ∀ x : PW (TwoB c N 49 (cfVals f o0 c0 o1 c1 o6 c6) [.int .u32 a, .int .i64 n, .int .i64 z, .int .i64 m]), x.V.cell? ⟨N, 2, none⟩ = some (.int .i64 z) := fun x => x.h.2.cell rfl
  have y3 : ∀ x : PW (TwoB c N 49 (cfVals f o0 c0 o1 c1 o6 c6) [.int .u32 a, .int .i64 n, .int .i64 z, .int .i64 m]), x.V.cell? ⟨N, 3, none⟩ = some (.int .i64 m) := fun x => x.h.2.cell rfl
  refine wp_region_mixq (TwoB c N 49 (cfVals f o0 c0 o1 c1 o6 c6) [.int .u32 a, .int .i64 n, .int .i64 z, .int .i64 m]) (fun _ _ h hj => h.on hj) 10 [(0, true), (1, true), (2, true), (3, true), (4, true), (5, true), (6, false), (7, false), (8, true), (9, true), (10, false)] (by kernel_rfl) (by kernel_rfl) (HF.out) ?_; (iterate 6 (refine wpMixL_q rfl (fun K hK => ?_); (go_simp; try go_bits); (refine hK _ ?_; clear hK K))); refine wpMixL_e rfl (fun osm4_0 dm4_0 K hK => ?_); (go_simp; try go_bits); refine hK _ _ (⟨⟨_, by first | exact HF9.out | exact HF.out.on (Junk.alloc ⟨_, _, rfl⟩ _)⟩, rfl⟩) ?_; clear hK K; refine wpMixL_e1 rfl rfl (fun osm4_1 dm4_1 K hK => ?_); (refine ap_gr_wp _ _ 22 rfl 49 (.agg #[.int .u32 0, .int .i64 0, .int .i64 0, .int .i64 0]) 4 32 (by kernel_rfl) rfl (by decide) Tryz.underlying22 B (Nat.le_trans HBV.out (Junk.size (by (exact jkc)))) o0 c0 f.routes.length (rosL f.routes) rfl (HO3.out.r0.on (by (exact jkc))) ⟨_, 0, none⟩ 1 1 rfl [.int .u32 a, .int .i64 n, .int .i64 z, .int .i64 m] rfl (built_cells_m (by simp) _ rfl) (by simp [Value.oneCell']) (by have := HLEN.out; simp only [maxLen]; omega) (by have := HLEN.out; omega) (by decide) ?_; intro oz cz w9 ho9 hg9 hz9; have HO9 := Lib.hid ho9; have HG9 := Lib.hid hg9; have HF9 := Lib.hid (TwoB.grown (hg := hg9) (h := HF.out.on (by (exact jkc))) HC0.out HX0.out); have t0 := HF9.out.1.lt; have t1 := HF9.out.1.frozen; have t2 := HF9.out.1.cell (j := 0) rfl; clear ho9 hg9 hz9); refine hK _ _ (⟨⟨_, by first | exact HF9.out | exact HF.out.on (Junk.alloc ⟨_, _, rfl⟩ _)⟩, rfl⟩) ?_; clear hK K; (iterate 2 (refine wpMixL_q rfl (fun K hK => ?_); (go_simp; try go_bits); (refine hK _ ?_; clear hK K))); refine wpMixL_last rfl (fun osm4_2 dm4_2 K hK => ?_); (go_simp; try go_bits); skip; refine hK _ _ ?_; clear hK K; refine wpMixL_nil (fun osm dm => ?_)
  go_returns
  obtain ⟨Wb, hWb⟩ : ∃ Wb, ((V3.junk osm4_0 dm4_0).alloc (.cells #[.int .u32 a, .int .i64 n, .int .i64 z, .int .i64 m] 49)).junk osm4_1 dm4_1 = Wb := ⟨_, rfl⟩
  have hjb : Junk V3 Wb := by rw [← hWb]; exact (Junk.alloc ⟨_, _, rfl⟩ _).junk _ _
  have hg9 := HG9.out
  rw [hWb] at hg9
  have hRw : R ≤ w9.heap.size := by have := HT3.out.size; have := HNN.out; have := hjb.size; have := hg9.size; omega
  have hRV : R ≤ V3.heap.size := by have := HT3.out.size; have := HNN.out; omega
  have hOb := HO3.out.tch (L := fun _ => False) (Tch.of_junk hjb) (fun _ _ _ e => e)
  refine ⟨rfl, ?_, ?_⟩
  · have t1 : Tch (LC c B) w V3 := LX.lc HT3.out (by omega) (by omega)
    have t2 : Tch (LC c B) V3 w9 := tch_grown hjb hg9 (fun k hk => .inr (row_lt hOb.r0 hOb.b0 k hk).1)
    exact ((t1.trans t2).set 0 (.slice oz (f.routes.length + 1) cz)).junk (by (exact jkc))
  · have hr9 : RowAt w9 R r ws.tail.tail.tail (false || (netW (hdW ws)).isNone || (numW (hdW ws.tail)).isNone || (numW (hdW ws.tail.tail)).isNone) :=
      HR3.out.far (tch_grown (L := fun k => k < R) hjb hg9 (fun k hk => (row_lt hOb.r0 hOb.b0 k hk).2)) (fun k h1 h2 => by omega)
    refine ⟨_, _, (hr9.setC (B := B) hc 0 (.slice oz (f.routes.length + 1) cz)).on (by (exact jkc)), ?_⟩
    have hl : lineW f wRoute (w8s ws) = (if ws.drop 3 = [] then (match netW (hdW ws), numW (hdW ws.tail), numW (hdW ws.tail.tail) with | some a, some x, some y => some { f with routes := f.routes ++ [⟨a.1, a.2, x, y⟩] } | _, _, _ => none) else none) := by
      unfold lineW routeW
      rw [if_pos rfl, w8s_drop, w8s_get, w8s_get, w8s_get, List.drop_zero, List.drop_one, ← tail_drop ws 1, List.drop_one]
      simp only [w8s_nil]
      cases netW (hdW ws) <;> cases numW (hdW ws.tail) <;> cases numW (hdW ws.tail.tail) <;> rfl
    have ht : ws.tail.tail.tail = ws.drop 3 := by rw [← List.drop_one, ← List.drop_one, ← List.drop_one, List.drop_drop, List.drop_drop]
    rw [hl, ht]
    by_cases hd : ws.drop 3 = []
    · rw [if_pos hd]
      cases hx : netW (hdW ws) with
      | none => exact .inl (by simp)
      | some x =>
        cases hy : numW (hdW ws.tail) with
        | none => exact .inl (by simp)
        | some y =>
          cases hz : numW (hdW ws.tail.tail) with
          | none => exact .inl (by simp)
          | some u =>
            obtain ⟨e1, e2⟩ := HV1.out x.1 x.2 hx
            have e3 := HZ2.out y hy
            have e4 := HM3.out u hz
            subst e1 e2 e3 e4
            refine ⟨by simp, hd, w9.heap.size, hRw, ?_⟩
            have hA := cf_routes (x := ⟨x.1, x.2, z, m⟩) HP.out.cf.ge HP.out.cf.lt hRw hOb hg9 HF9.out.1 HO9.out
            exact hA.on (by (exact jkc)) (by omega)
    · rw [if_neg hd]
      exact .inr hd
end Go.Proofs.YtcnhlbkdhhjmiaaGreatDoor
