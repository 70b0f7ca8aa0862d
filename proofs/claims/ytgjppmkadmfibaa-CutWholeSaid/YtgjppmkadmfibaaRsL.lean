/- slices.Insert of a run into a slice of the call's own. -/
import Derived.Test.YtgjppmkadmfibaaRsP
import Derived.Test.YtgjppmkadmfibaaRsB
set_option linter.unusedVariables false
set_option maxRecDepth 100000
set_option linter.unusedSimpArgs false
namespace Go.Proofs.Ytgjppmkadmfibaa
open Go.RowKit
theorem ins_grow {X T D zs : List Value} (hz : zs.take X.length = X) (hl : zs.length = X.length + T.length + D.length) :
    (zs.take X.length ++ T ++ zs.drop (X.length + T.length)).take (X.length + T.length) ++ D ++ (zs.take X.length ++ T ++ zs.drop (X.length + T.length)).drop (X.length + T.length + D.length) = X ++ T ++ D := by
  rw [hz, List.take_append_of_le_length (by simp), List.take_of_length_le (by simp), List.drop_eq_nil_of_le (by simp; omega), List.append_nil]
theorem ins_room {X T D z : List Value} (hz : z.length = T.length) :
    (((X ++ D ++ z).take (X.length + T.length) ++ D ++ (X ++ D ++ z).drop (X.length + T.length + D.length)).take X.length ++ T ++ ((X ++ D ++ z).take (X.length + T.length) ++ D ++ (X ++ D ++ z).drop (X.length + T.length + D.length)).drop (X.length + T.length)) = X ++ T ++ D := by
  have e1 : (X ++ D ++ z).drop (X.length + T.length + D.length) = [] := List.drop_eq_nil_of_le (by simp; omega)
  rw [e1, List.append_nil]
  have e2 : ((X ++ D ++ z).take (X.length + T.length)).length = X.length + T.length := by rw [List.length_take]; simp; omega
  have e3 : ((X ++ D ++ z).take (X.length + T.length)).take X.length = X := by rw [List.take_take, Nat.min_eq_left (by omega), List.append_assoc, List.take_left]
  generalize (X ++ D ++ z).take (X.length + T.length) = A at e2 e3
  rw [List.take_append_of_le_length (by omega), e3, ← e2, List.drop_left]
/-- The list that slices.Insert makes. -/
def insL (L : List Ot) (k : Nat) (t : Ot) : List Ot := L.take k ++ t :: L.drop k
theorem otsL_app (A B : List Ot) : otsL (A ++ B) = otsL A ++ otsL B := by unfold otsL; rw [List.map_append, List.flatten_append]
theorem otsL_take (L : List Ot) (k : Nat) : (otsL L).take (k * 2) = otsL (L.take k) := by unfold otsL; rw [flat_take (ot_rows L), List.map_take]
theorem ots_ins (L : List Ot) (k : Nat) (t : Ot) : otsL (insL L k t) = otsL (L.take k) ++ t.cells ++ otsL (L.drop k) := by
  unfold insL
  rw [otsL_app, otsL_cons, List.append_assoc]
theorem insL_len {L : List Ot} {k : Nat} (t : Ot) (h : k ≤ L.length) : (insL L k t).length = L.length + 1 := by
  unfold insL
  rw [List.length_append, List.length_cons, List.length_take, List.length_drop]; omega
theorem ots_drop (L : List Ot) (k : Nat) (h : k ≤ L.length) : (otsL L).drop (k * 2) = otsL (L.drop k) := by
  conv => lhs; rw [← List.take_append_drop k L, otsL_app]
  rw [show k * 2 = (otsL (L.take k)).length by rw [otsL_len, List.length_take]; omega, List.drop_left]
def InsM (W0 w : World) (oa : Option Addr) (n : Nat) (M : List Ot) (e : Ending) (w' : World) : Prop := ∃ oq cq, e = .returned (.slice oq n cq) ∧ Junk W0 w' ∧ Own W0.heap.size w' 72 2 oq cq n (otsL M) ∧ w.grownBy w' (rowOf oa) ∧ (rowOf oq = rowOf oa ∨ ∀ a, oq = some a → w.heap.size ≤ a.block)
theorem row_new {oa oq : Option Addr} {n m : Nat} (h : rowOf oq = rowOf oa ∨ rowOf oq = some n) (hm : m ≤ n) : rowOf oq = rowOf oa ∨ ∀ a, oq = some a → m ≤ a.block := by
  rcases h with h | h
  · exact .inl h
  · refine .inr (fun a ha => ?_)
    rw [ha] at h
    have h2 : a.block = n := Option.some.inj h
    omega
theorem grown_of_junk {w w' : World} (h : Junk w w') (row : Option Nat) : w.grownBy w' row := by
  have hb := h.below (Nat.le_refl _)
  obtain ⟨os, d, rfl⟩ := h
  exact ⟨rfl, rfl, rfl, by simp, fun k hk _ => World.heap_junk _ _ _ hk⟩
theorem grown_trans {a b c : World} {row : Option Nat} (h : a.grownBy b row) (k : b.grownBy c row) : a.grownBy c row :=
  ⟨k.os.trans h.os, k.tape.trans h.tape, k.output.trans h.output, Nat.le_trans h.size k.size, fun n hn hne => (k.block n (Nat.lt_of_lt_of_le hn h.size) hne).trans (h.block n hn hne)⟩
theorem ot_src {w : World} {gv : Nat} {t : Ot} (h : w.heap[gv]? = some (.cells #[.int .i64 t.k, .slice t.oa t.l t.c] 72 (0, 0))) : ∀ j v, t.cells[j]? = some v → w.cell? ((⟨gv, 0, none⟩ : Addr).add j) = some v := by
  intro j v hv
  rw [Addr.add_lit, Nat.zero_add]
  unfold World.cell?
  simp only [h]
  unfold Ot.cells at hv
  simpa using hv
theorem heap_on {w w' : World} {g : Nat} {o : Obj} (h : w.heap[g]? = some o) (hj : Junk w w') : w'.heap[g]? = some o := by
  obtain ⟨os, d, rfl⟩ := hj
  rw [World.heap_junk _ _ _ (Array.getElem?_eq_some_iff.1 h).1]
  exact h
set_option maxHeartbeats 1000000 in
theorem ins_end (oa : Option Addr) (l cap k gv : Nat) (L : List Ot) (t : Ot) (W0 w : World) (hl : l ≤ 1000000) (hj : Junk W0 w) (hO : Own W0.heap.size w 72 2 oa cap l (otsL L)) (hL : L.length = l) (hgv : w.heap[gv]? = some (.cells #[.int .i64 t.k, .slice t.oa t.l t.c] 72 (0, 0))) (hk : k = l) : Calls Try.prog 55 #[.slice oa l cap, .int .i64 k, .slice (some ⟨gv, 0, none⟩) 1 1] w (InsM W0 w oa (l + 1) (insL L k t)) := by
  have HJ := Lib.hid hj
  have HO := Lib.hid hO
  have HG := Lib.hid hgv
  subst hk
  have HE := Lib.hid (show insL L k t = L ++ [t] by unfold insL; rw [List.take_of_length_le (by omega), List.drop_eq_nil_of_le (by omega)])
  clear hj hO hgv
  go_enter Try.func55, Try.ntmps55
  go_wp2_with (first
    | (at_builtin; (refine ap_own2 (W0 := W0) rfl _ _ 43 rfl 72 (.agg #[.int .i64 0, .slice none 0 0]) 2 32 (by kernel_rfl) rfl (by decide) Try.underlying43 (HJ.out.trans (by (exact jkc))) oa cap k (otsL L) rfl (HO.out.on (by (exact jkc))) ⟨gv, 0, none⟩ 1 1 rfl t.cells (by simp [Ot.cells]) (ot_src (heap_on HG.out (by (exact jkc)))) t.one (by simp only [maxLen]; omega) (by omega) (by decide) ?_; intro oa1 cap1 os1 d1 hown hgr hrow; rw [otsL_one] at hown; have Hown := Lib.hid hown; have HGR := Lib.hid hgr; have HRW := Lib.hid hrow; clear hown hgr hrow)))
  all_goals (go_returns; exact ⟨oa1, cap1, rfl, by (exact jkc), by rw [HE.out]; exact Hown.out.on (by (exact jkc)), grown_trans (grown_trans (grown_of_junk (by (exact jkc)) _) HGR.out) (grown_of_junk (by (exact jkc)) _), row_new HRW.out (by simp)⟩)
set_option maxHeartbeats 2000000 in
theorem ins_more (oa : Option Addr) (l cap k gv : Nat) (L : List Ot) (t : Ot) (W0 w : World) (hl : l ≤ 1000000) (hj : Junk W0 w) (hO : Own W0.heap.size w 72 2 oa cap l (otsL L)) (hL : L.length = l) (hgv : w.heap[gv]? = some (.cells #[.int .i64 t.k, .slice t.oa t.l t.c] 72 (0, 0))) (hk : k < l) (hcap : cap < l + 1) : Calls Try.prog 55 #[.slice oa l cap, .int .i64 k, .slice (some ⟨gv, 0, none⟩) 1 1] w (InsM W0 w oa (l + 1) (insL L k t)) := by
  have hB := hj.size
  obtain ⟨g, rfl⟩ : ∃ g, oa = some ⟨g, 0, none⟩ := by
    rcases hO.form with ⟨_, h, _⟩ | ⟨g, cur, h, _⟩
    · omega
    · exact ⟨g, h⟩
  have hlc := hO.capLe
  obtain rfl : cap = l := by omega
  have HJ := Lib.hid hj
  have HO := Lib.hid hO
  have HG := Lib.hid hgv
  have HL := Lib.hid hL
  have e1 : ((cap : Int) + 1 - (k : Int)) = ((cap + 1 - k : Nat) : Int) := by omega
  obtain ⟨m, hm⟩ : ∃ m, cap + 1 - k = m := ⟨_, rfl⟩
  rw [hm] at e1
  have HM := Lib.hid hm
  have h1 : ¬ ((k : Int) = (cap : Int)) := by omega
  have h2 : (k : Int) < (cap : Int) := by omega
  have h3 : (k : Int) ≤ (cap : Int) := by omega
  have h4 : ¬ cap = k := by omega
  clear hj hO hgv hL hm
  go_enter Try.func55, Try.ntmps55
  have HXT := Lib.hid (show (otsL L).take (k * 2) = otsL (L.take k) from otsL_take L k)
  have HXD := Lib.hid (show (otsL L).drop (k * 2) = otsL (L.drop k) from ots_drop L k (by rw [HL.out]; omega))
  have HXL := Lib.hid (show (otsL (L.take k)).length = k * 2 by rw [otsL_len, List.length_take, HL.out]; omega)
  have HDL := Lib.hid (show (otsL (L.drop k)).length = (cap - k) * 2 by rw [otsL_len, List.length_drop, HL.out])
  go_upto_region 10 with (first
    | (at_builtin; (refine ap_grow rfl _ _ 43 3 rfl 72 (.agg #[.int .i64 0, .slice none 0 0]) 2 32 (by kernel_rfl) rfl (by decide) (by decide) Try.underlying43 .i64 .i64 Try.underlying3 (HO.out.on (by (exact jkc))) k m rfl rfl rfl rfl (by omega) (by have := HM.out; omega) (by have := HM.out; omega) (by first | exact hB | (simp; omega)) (by have := HM.out; omega) ?_; intro g2 cap2 zs w2 hj2 hg2 ho2 hz2)))
  all_goals
    have HJ2 := Lib.hid hj2
    have HO2 := Lib.hid ho2
    have HZ2 := Lib.hid hz2
    have HG2 := Lib.hid hg2
    have HGL := Lib.hid (show gv < w.heap.size from (Array.getElem?_eq_some_iff.1 HG.out).1)
    have HGG := Lib.hid (show g < w.heap.size by
      rcases HO.out.form with ⟨h, _⟩ | ⟨g1, cur, h, _, hc, _⟩
      · cases h
      · cases h; exact (Array.getElem?_eq_some_iff.1 hc).1)
    have e2 : k + m = cap + 1 := by have := HM.out; omega
    have e3 : ((k + m : Nat) : Int) = (cap : Int) + 1 := by omega
    have e4 : k ≤ k + m := by omega
    have e5 : (k : Int) ≤ ((k + m : Nat) : Int) := by omega
    clear hj2 ho2 hz2 hg2
    have e6 : ¬ cap2 = k := by have := HO2.out.capLe; omega
    obtain ⟨w3, hr3, ho3, hg3⟩ := run_copy_own (P := Try.prog) w2 43 43 3 72 HO2.out (k * 2) (cap + 1 - k) (cap2 - k) 1 ⟨gv, 0, none⟩ 1 1 t.cells Try.underlying43 (by kernel_rfl) (show 1 = min 1 _ from (Nat.min_eq_left (by omega)).symm) rfl (by rw [Ot.cells_len]; omega) (ot_src (heap_on HG.out HJ2.out)) t.one
    go_upto_region 11 with (fail)
    clear hr3
    have HJ3 := Lib.hid (below_of_grown (HJ.out.trans HJ2.out) hg3 (fun q hq => by cases hq; have := HG2.out; omega))
    have HK3 := Lib.hid (below_of_grown HJ2.out hg3 (fun q hq => by cases hq; exact HG2.out))
    have HS3 := Lib.hid (own_grown (HO.out.on HJ2.out) hg3 (fun q hq => by cases hq; have := HG2.out; have := HGG.out; omega))
    have HO3 := Lib.hid ho3
    clear hg3 ho3
    have e7 : (k : Int) + 1 ≤ ((k + m : Nat) : Int) := by omega
    have e8 : ¬ cap2 = k + 1 := by have := HO2.out.capLe; omega
    have e9 : k + 1 ≤ cap := by omega
    have e10 : (k : Int) + 1 ≤ (cap : Int) + 1 := by omega
    have e11 : k + 1 ≤ cap + 1 := by omega
    have e12 : (0 : Int) ≤ (k : Int) + 1 := by omega
    refine wp_region_mixn (w3) 8 [(0, true), (1, true), (2, true), (3, true), (4, true), (5, true), (6, true), (7, true), (8, false)] (by kernel_rfl) (by kernel_rfl) (by (exact jkc)) ?_; (iterate 8 (refine wpMixL_q rfl (fun K hK => ?_); (go_simp; try go_bits); (refine hK _ ?_; clear hK K))); refine wpMixL_last1 rfl rfl (fun osm11_0 dm11_0 K hK => ?_); (refine cp_own_wp _ _ 43 43 rfl rfl rfl (HO3.out.on (by (exact jkc))) ((k + 1) * 2) (cap - k) (cap2 - (k + 1)) (cap - k) ⟨g, k * 2, none⟩ (cap - k) (cap - k) (otsL (L.drop k)) rfl rfl Try.underlying43 (by kernel_rfl) (show cap - k = min (cap - k) (cap - k) from (Nat.min_self _).symm) HDL.out (by rw [HDL.out]; omega) (by rw [← HXD.out]; exact own_cell (HS3.out.on (by (exact jkc))) (k * 2)) (otsL_oneR _) ?_; intro w4 hg4 ho4); refine hK _ _ ?_; clear hK K; refine wpMixL_nil (fun osm dm => ?_)
    have HJ4 := Lib.hid (below_of_grown (HJ3.out.trans (by (exact jkc))) hg4 (fun q hq => by cases hq; have := HG2.out; omega))
    have HK4 := Lib.hid (below_of_grown (HK3.out.trans (by (exact jkc))) hg4 (fun q hq => by cases hq; exact HG2.out))
    have HO4 := Lib.hid ho4
    clear hg4 ho4
    go_wp2
    go_returns
    refine ⟨some ⟨g2, 0, none⟩, cap2, rfl, HJ4.out.trans (by (exact jkc)), ?_, grown_trans (grown_of_junk HK4.out _) (grown_of_junk (by (exact jkc)) _), .inr (fun a ha => by cases ha; exact HG2.out)⟩
    have hx := HXL.out
    have hz := HZ2.out
    rw [HXT.out] at hz
    have hfin := ins_grow (X := otsL (L.take k)) (T := t.cells) (D := otsL (L.drop k)) (zs := zs) (by rw [hx]; exact hz) (by rw [HO2.out.len, hx, HDL.out, Ot.cells_len]; omega)
    rw [ots_ins, ← hfin, ← e2]
    rw [Ot.cells_len, hx]
    have ho := HO4.out
    rw [show (k + 1) * 2 = k * 2 + 2 by omega, Ot.cells_len] at ho
    exact ho.on (by (exact jkc))
set_option maxHeartbeats 2000000 in
theorem ins_space (oa : Option Addr) (l cap k gv : Nat) (L : List Ot) (t : Ot) (W0 w : World) (hl : l ≤ 1000000) (hj : Junk W0 w) (hO : Own W0.heap.size w 72 2 oa cap l (otsL L)) (hL : L.length = l) (hgv : w.heap[gv]? = some (.cells #[.int .i64 t.k, .slice t.oa t.l t.c] 72 (0, 0))) (hk : k < l) (hcap : l + 1 ≤ cap) (hne : ∀ g, oa = some ⟨g, 0, none⟩ → g ≠ gv) : Calls Try.prog 55 #[.slice oa l cap, .int .i64 k, .slice (some ⟨gv, 0, none⟩) 1 1] w (InsM W0 w oa (l + 1) (insL L k t)) := by
  have hB := hj.size
  obtain ⟨g, rfl⟩ : ∃ g, oa = some ⟨g, 0, none⟩ := by
    rcases hO.form with ⟨_, h, _⟩ | ⟨g, cur, h, _⟩
    · omega
    · exact ⟨g, h⟩
  have hgne : gv ≠ g := fun h => hne g rfl h.symm
  have hov : ∀ (off lb cb : Nat), (callFunc 63 #[.slice (some ⟨gv, 0, none⟩) 1 1, .slice (some ⟨g, off, none⟩) lb cb]).run Try.prog w = .ok (.value (.bool false)) w := fun off lb cb => by
    obtain ⟨cur, hcur, hcs⟩ : ∃ cur, w.heap[g]? = some (.cells cur 72 (0, 0)) ∧ cur.size = cap * 2 := by
      rcases hO.form with ⟨h, _⟩ | ⟨g1, cur, h, _, hc, _, _, hs, _⟩
      · cases h
      · cases h; exact ⟨cur, hc, hs⟩
    rw [run_callFunc_extern Try.func63 (by kernel_rfl) (by kernel_rfl) (by kernel_rfl) (e := Extern.SlicesOverlaps.overlaps #[43, 43] #[4]) (by kernel_rfl),
      Lib.run_overlaps_apart w 43 4 72 Try.underlying43 2 Try.sizeOf72 ⟨gv, 0, none⟩ ⟨g, off, none⟩ 1 1 lb cb hgne 72 72 2 cur.size (by unfold World.shape?; simp only [hgv]; rfl) (by unfold World.shape?; simp only [hcur]) (by omega) (by unfold World.frozen?; simp only [hgv]; rfl) (by unfold World.frozen?; simp only [hgv]; rfl)]
    rfl
  have HJ := Lib.hid hj
  have HG := Lib.hid hgv
  have HL := Lib.hid hL
  have hge : W0.heap.size ≤ g := by
    rcases hO.form with ⟨h, _⟩ | ⟨g1, cur, h, hb, _⟩
    · cases h
    · cases h; exact hb
  have HGE := Lib.hid hge
  obtain ⟨z, hz, hO1⟩ := own_more hO hcap
  have HZ := Lib.hid hz
  have HO1 := Lib.hid hO1
  have HO := Lib.hid hO
  have HXT := Lib.hid (show (otsL L).take (k * 2) = otsL (L.take k) from otsL_take L k)
  have HXD := Lib.hid (show (otsL L).drop (k * 2) = otsL (L.drop k) from ots_drop L k (by rw [HL.out]; omega))
  have HXL := Lib.hid (show (otsL (L.take k)).length = k * 2 by rw [otsL_len, List.length_take, HL.out]; omega)
  have HDL := Lib.hid (show (otsL (L.drop k)).length = (l - k) * 2 by rw [otsL_len, List.length_drop, HL.out])
  have h1 : ¬ ((k : Int) = (l : Int)) := by omega
  have h2 : (k : Int) < (l : Int) := by omega
  have h3 : (k : Int) ≤ (l : Int) := by omega
  have h4 : ¬ cap = k := by omega
  have h5 : ¬ (cap : Int) < (l : Int) + 1 := by omega
  have h6 : ¬ cap = k + 1 := by omega
  have h7 : (l : Int) + 1 ≤ (cap : Int) := by omega
  have h8 : (k : Int) + 1 ≤ (l : Int) + 1 := by omega
  have h9 : (0 : Int) ≤ (k : Int) + 1 := by omega
  have h10 : (0 : Int) ≤ (l : Int) + 1 := by omega
  have h11 : (k : Int) ≤ (l : Int) + 1 := by omega
  have h12 : k ≤ l + 1 := by omega
  clear hj hO hgv hL hz hO1 hne
  go_enter Try.func55, Try.ntmps55
  go_upto_region 14 with (fail)
  go_upto_region 15 with (simp only [hov])
  clear hov
  refine wp_region_mixn (w) 8 [(0, true), (1, true), (2, true), (3, true), (4, true), (5, true), (6, true), (7, true), (8, false)] (by kernel_rfl) (by kernel_rfl) (by (exact jkc)) ?_; (iterate 8 (refine wpMixL_q rfl (fun K hK => ?_); (go_simp; try go_bits); (refine hK _ ?_; clear hK K))); refine wpMixL_last1 rfl rfl (fun osm15_0 dm15_0 K hK => ?_); (refine cp_own_wp _ _ 43 43 rfl rfl rfl (HO1.out.on (by (exact jkc))) ((k + 1) * 2) (l - k) (cap - (k + 1)) (l - k) ⟨g, k * 2, none⟩ (l + 1 - k) (cap - k) (otsL (L.drop k)) rfl rfl Try.underlying43 (by kernel_rfl) (show l - k = min (l + 1 - k) (l - k) from (Nat.min_eq_right (by omega)).symm) HDL.out (by rw [HDL.out]; omega) (by rw [← HXD.out]; exact own_cell (HO.out.on (by (exact jkc))) (k * 2)) (otsL_oneR _) ?_; intro w4 hg4 ho4); refine hK _ _ ?_; clear hK K; refine wpMixL_nil (fun osm dm => ?_)
  have HG4 := Lib.hid (show w4.heap[gv]? = some (.cells #[.int .i64 t.k, .slice t.oa t.l t.c] 72 (0, 0)) by
    rw [hg4.block gv (by have := (Array.getElem?_eq_some_iff.1 HG.out).1; simp; omega) (fun e => hgne (Option.some.inj e))]
    exact heap_on HG.out (by (exact jkc)))
  have HJ4 := Lib.hid (below_of_grown (HJ.out.trans (by (exact jkc))) hg4 (fun q hq => by cases hq; exact HGE.out))
  have HO4 := Lib.hid ho4
  have HGR4 := Lib.hid (show w.grownBy w4 (some g) from grown_trans (grown_of_junk (by (exact jkc)) _) hg4)
  clear hg4 ho4
  have hoV := HO4.out.on (show Junk w4 (w4.junk osm dm) from ⟨_, _, rfl⟩)
  have hgV := heap_on HG4.out (show Junk w4 (w4.junk osm dm) from ⟨_, _, rfl⟩)
  have hjV : Junk W0 (w4.junk osm dm) := HJ4.out.trans ⟨_, _, rfl⟩
  have HGV := Lib.hid (show w.grownBy (w4.junk osm dm) (some g) from grown_trans HGR4.out (grown_of_junk (by (exact jkc)) _))
  clear HO4 HG4 HJ4 HGR4
  generalize w4.junk osm dm = V at hoV hgV hjV HGV ⊢
  obtain ⟨w5, hr5, ho5, hg5⟩ := run_copy_own (P := Try.prog) V 43 43 3 72 hoV (k * 2) (l + 1 - k) (cap - k) 1 ⟨gv, 0, none⟩ 1 1 t.cells Try.underlying43 (by kernel_rfl) (show 1 = min 1 (l + 1 - k) from (Nat.min_eq_left (by omega)).symm) rfl (by rw [Ot.cells_len]; omega) (ot_src hgV) t.one
  have HJ5 := Lib.hid (below_of_grown hjV hg5 (fun q hq => by cases hq; exact HGE.out))
  have HO5 := Lib.hid ho5
  have HG5 := Lib.hid (grown_trans HGV.out hg5)
  clear hg5 ho5 hoV hgV hjV
  go_wp2
  go_returns
  refine ⟨some ⟨g, 0, none⟩, cap, rfl, HJ5.out.trans (by (exact jkc)), ?_, grown_trans HG5.out (grown_of_junk (by (exact jkc)) _), .inl rfl⟩
  have hx := HXL.out
  have hXY : otsL L = otsL (L.take k) ++ otsL (L.drop k) := by rw [← otsL_app, List.take_append_drop]
  have hfin := ins_room (X := otsL (L.take k)) (T := t.cells) (D := otsL (L.drop k)) (z := z) (by rw [HZ.out, Ot.cells_len])
  rw [ots_ins, ← hfin, ← hXY, Ot.cells_len, hx]
  have ho := HO5.out
  rw [show (k + 1) * 2 = k * 2 + 2 by omega, Ot.cells_len] at ho
  exact ho.on (by (exact jkc))
/-- slices.Insert, whatever the place. -/
theorem insert_any (oa : Option Addr) (l cap k gv : Nat) (L : List Ot) (t : Ot) (W0 w : World) (hl : l ≤ 1000000) (hj : Junk W0 w) (hO : Own W0.heap.size w 72 2 oa cap l (otsL L)) (hL : L.length = l) (hgv : w.heap[gv]? = some (.cells #[.int .i64 t.k, .slice t.oa t.l t.c] 72 (0, 0))) (hk : k ≤ l) (hne : ∀ g, oa = some ⟨g, 0, none⟩ → g ≠ gv) : Calls Try.prog 55 #[.slice oa l cap, .int .i64 k, .slice (some ⟨gv, 0, none⟩) 1 1] w (InsM W0 w oa (l + 1) (insL L k t)) := by
  by_cases h1 : k = l
  · exact ins_end oa l cap k gv L t W0 w hl hj hO hL hgv h1
  · by_cases h2 : cap < l + 1
    · exact ins_more oa l cap k gv L t W0 w hl hj hO hL hgv (by omega) h2
    · exact ins_space oa l cap k gv L t W0 w hl hj hO hL hgv (by omega) (by omega) hne
end Go.Proofs.Ytgjppmkadmfibaa
