/- count.plus. -/
import Derived.Test.YteoommoolmddaaaDoorCoD
import Derived.Test.YteoommoolmddaaaDoorCoE
import Derived.Test.YteoommoolmddaaaDoorCoF
import Derived.Test.YteoommoolmddaaaDoorMix3
import Derived.Test.YteoommoolmddaaaDoorMix4
set_option linter.unusedVariables false
set_option maxRecDepth 100000
set_option linter.unusedSimpArgs false
namespace Go.Proofs.YteoommoolmddaaaDoor
open Go.RowKit
def PlusM (w : World) (oa : Option Addr) (l c : Nat) (R : Option (List Tl)) (e : Ending) (w' : World) : Prop := Junk w w' ∧
  match R with
  | none => e = .returned (.tuple #[.slice oa l c, .bool false])
  | some M => ∃ oq cq, e = .returned (.tuple #[.slice oq M.length cq, .bool true]) ∧ Own w.heap.size w' 28 4 oq cq M.length (tlsL M)
theorem own_lt {B : Nat} {w : World} {e : TypeId} {sz : Nat} {oa : Option Addr} {g cap n : Nat} {xs : List Value} (h : Own B w e sz oa cap n xs) (hg : oa = some ⟨g, 0, none⟩) : B ≤ g ∧ g < w.heap.size := by
  rcases h.form with ⟨h1, _⟩ | ⟨g1, cur, h1, hb, hc, _⟩
  · rw [hg] at h1; cases h1
  · rw [hg] at h1; cases h1
    exact ⟨hb, (Array.getElem?_eq_some_iff.1 hc).1⟩
theorem own_storedT {B : Nat} {w : World} {e : TypeId} {size g cap n : Nat} {xs : List Value} (h : Own B w e size (some ⟨g, 0, none⟩) cap n xs) (j : Nat) (u : Value) : Own B (w.setCell ⟨g, j, none⟩ u) e size (some ⟨g, 0, none⟩) cap n (xs.set j u) := (World.ownsRow.stored h j u).1
theorem plus_ok {w w' : World} {oa : Option Addr} {l c : Nat} {R : Option (List Tl)} {M : List Tl} {oz : Option Addr} {cz n : Nat} (hR : R = some M) (hn : M.length = n) (hj : Junk w w') (ho : Own w.heap.size w' 28 4 oz cz n (tlsL M)) : PlusM w oa l c R (.returned (.tuple #[.slice oz n cz, .bool true])) w' := by
  subst hR hn
  exact ⟨hj, oz, cz, rfl, ho⟩
theorem plus_no {w w' : World} {oa : Option Addr} {l c : Nat} {R : Option (List Tl)} (hR : R = none) (hj : Junk w w') : PlusM w oa l c R (.returned (.tuple #[.slice oa l c, .bool false])) w' := by
  subst hR
  exact ⟨hj, rfl⟩
theorem tls_set_n {v : Int} : ∀ {L : List Tl} {k : Nat} {x : Tl}, L[k]? = some x → (tlsL L).set (k * 4 + 2) (.int .i64 v) = tlsL (L.set k { x with n := v })
  | [], k, x, h => by simp at h
  | y :: L, 0, x, h => by
    simp only [List.getElem?_cons_zero, Option.some.injEq] at h
    subst h
    rw [tlsL_cons, List.set_append_left _ _ (by rw [Tl.cells_len]; omega)]
    rfl
  | y :: L, k + 1, x, h => by
    rw [List.getElem?_cons_succ] at h
    rw [tlsL_cons, List.set_append_right _ _ (by rw [Tl.cells_len]; omega), Tl.cells_len, show (k + 1) * 4 + 2 - 4 = k * 4 + 2 by omega, tls_set_n h]
    rfl
theorem tls_set_b {v : Int} : ∀ {L : List Tl} {k : Nat} {x : Tl}, L[k]? = some x → (tlsL L).set (k * 4 + 3) (.int .i64 v) = tlsL (L.set k { x with b := v })
  | [], k, x, h => by simp at h
  | y :: L, 0, x, h => by
    simp only [List.getElem?_cons_zero, Option.some.injEq] at h
    subst h
    rw [tlsL_cons, List.set_append_left _ _ (by rw [Tl.cells_len]; omega)]
    rfl
  | y :: L, k + 1, x, h => by
    rw [List.getElem?_cons_succ] at h
    rw [tlsL_cons, List.set_append_right _ _ (by rw [Tl.cells_len]; omega), Tl.cells_len, show (k + 1) * 4 + 3 - 4 = k * 4 + 3 by omega, tls_set_b h]
    rfl
theorem heap_built {X : World} {o : Obj} {os : Array Obj} {d gv : Nat} (h : gv = X.heap.size) : ((X.alloc o).junk os d).heap[gv]? = some o := by
  subst h
  rw [World.heap_junk _ _ _ (by simp)]
  exact heap_alloc_new _ _
theorem found_not {L : List Tl} {t : Tl} {k : Nat} (hp : TlPos L t k) (h : foundB L t k = false) : tlPlus L t = some (insL L k t) := by
  cases hx : L[k]? with
  | none =>
    have hk : k = L.length := by
      have := hp.le
      rw [List.getElem?_eq_none_iff] at hx
      omega
    subst hk
    rw [plus_end hp]
    unfold insL
    rw [List.take_length, List.drop_length]
  | some x =>
    have hl : tlLess t x = true := by
      have h1 := hp.hi k (by omega) x hx
      unfold foundB at h
      rw [hx] at h
      simp only [decide_eq_false_iff_not, ordI_zero] at h
      cases hc : tlLess t x with
      | true => rfl
      | false => exact absurd (same_key h1 hc) h
    exact plus_in hp hx hl
theorem found_is {L : List Tl} {t : Tl} {k : Nat} (hp : TlPos L t k) (h : foundB L t k = true) : ∃ x, L[k]? = some x ∧ tlLess t x = false ∧ tlLess x t = false := by
  unfold foundB at h
  cases hx : L[k]? with
  | none => rw [hx] at h; cases h
  | some x =>
    rw [hx] at h
    simp only [decide_eq_true_eq, ordI_zero] at h
    exact ⟨x, rfl, by unfold tlLess; rw [decide_eq_false_iff_not]; omega, hp.hi k (by omega) x hx⟩
set_option maxHeartbeats 4000000 in
theorem plus_any (oa : Option Addr) (l c : Nat) (L : List Tl) (t : Tl) (w : World) (hl : l ≤ 1000000) (hS : TsB w oa l c L) (hR : TlR L) (ht : tlOk t = true) :
    Calls Tryd.prog 22 #[.slice oa l c, t.val] w (PlusM w oa l c (tlPlus L t)) := by
  have HS := Lib.hid hS
  have HL := Lib.hid hS.len
  have HRR := Lib.hid hR
  have HBS := Lib.hid (fun w1 (h : TsB w1 oa l c L) => bsearch_any oa l c L t w1 hl h hR.sorted)
  have HT := Lib.hid ht
  clear hS hR ht
  obtain ⟨tz, tv, tn, tb⟩ := t
  go_enter Tryd.func22, Tryd.ntmps22
  go_upto_region 2 with (first | (go_at_call 29; (with_reducible refine (HBS.out _ (HS.out.on (by (first | ((repeat (first | with_reducible exact Junk.refl _ | with_reducible exact Junk.app _ _ _ _ _ | with_reducible apply Junk.alloc | with_reducible apply Junk.junk | with_reducible apply Junk.drew | with_reducible apply Junk.drewN)); done) | ((try simp only [World.junk_junk, Array.append_assoc]); (repeat (first | with_reducible exact Junk.refl _ | with_reducible exact Junk.app _ _ _ _ _ | with_reducible exact Junk.app2 _ _ _ _ _ _ | with_reducible exact Junk.app3 _ _ _ _ _ _ _ | with_reducible exact Junk.app4 _ _ _ _ _ _ _ _ | with_reducible exact Junk.app5 _ _ _ _ _ _ _ _ _ | with_reducible apply Junk.alloc | with_reducible apply Junk.junk | with_reducible apply Junk.drew | with_reducible apply Junk.drewN))))))).mono ?_); rintro e w' ⟨k, rfl, ⟨osB, dB, rfl⟩, hpos⟩; have HPos := Lib.hid hpos; clear hpos))
  cases hf : foundB L ⟨tz, tv, tn, tb⟩ k with
  | false =>
    have HP := Lib.hid (found_not HPos.out hf)
    have hk : k ≤ l := by have := HPos.out.le; rw [HL.out] at this; exact this
    have HIN := Lib.hid (fun (oq : Option Addr) (cq gv : Nat) (w1 : World) (hj : Junk ((w.alloc (.cells #[.int .i64 tz, .int .i64 tv, .int .i64 tn, .int .i64 tb] 28)).junk osB dB) w1) (ho : Own (((w.alloc (.cells #[.int .i64 tz, .int .i64 tv, .int .i64 tn, .int .i64 tb] 28)).junk osB dB)).heap.size w1 28 4 oq cq l (tlsL L)) (hg : w1.heap[gv]? = some (.cells #[.int .i64 tz, .int .i64 tv, .int .i64 tn, .int .i64 tb] 28 (0, 0))) (hne : ∀ g, oq = some ⟨g, 0, none⟩ → g ≠ gv) => show Calls Tryd.prog 30 #[.slice oq l cq, .int .i64 k, .slice (some ⟨gv, 0, none⟩) 1 1] w1 (InsM ((w.alloc (.cells #[.int .i64 tz, .int .i64 tv, .int .i64 tn, .int .i64 tb] 28)).junk osB dB) (l + 1) (insL L k ⟨tz, tv, tn, tb⟩)) from insert_any oq l cq k gv L ⟨tz, tv, tn, tb⟩ ((w.alloc (.cells #[.int .i64 tz, .int .i64 tv, .int .i64 tn, .int .i64 tb] 28)).junk osB dB) w1 hl hj ho HL.out hg hk hne)
    have HML := Lib.hid (show (insL L k ⟨tz, tv, tn, tb⟩).length = l + 1 by rw [insL_len _ (by rw [HL.out]; exact hk), HL.out])
    generalize insL L k ⟨tz, tv, tn, tb⟩ = M at HP HIN HML
    go_upto_region 3 with (fail)
    refine wp_region_mixTj ((w.alloc (.cells #[.int .i64 tz, .int .i64 tv, .int .i64 tn, .int .i64 tb] 28)).junk osB dB) (.q 0 (.q 2 (.q 3 (.two 1 (.e 4 (.e 5 (.q 6 (.q 7 .nil)))) 4 (.e 1 (.e 5 (.q 6 (.q 7 .nil)))))))) (by kernel_rfl) (by kernel_rfl) (by (repeat (first | with_reducible exact Junk.refl _ | with_reducible exact Junk.app _ _ _ _ _ | with_reducible apply Junk.alloc | with_reducible apply Junk.junk | with_reducible apply Junk.drew | with_reducible apply Junk.drewN))) ?_; refine wpMixT_q rfl (fun K hK => ?_); (go_simp; try go_bits); (refine hK _ ?_; clear hK K); refine wpMixT_q rfl (fun K hK => ?_); (go_simp; try go_bits); (refine hK _ ?_; clear hK K); refine wpMixT_q rfl (fun K hK => ?_); (go_simp; try go_bits); (refine hK _ ?_; clear hK K); refine wpMixT_two ?_ ?_; refine wpMixT_e rfl (fun osm3_0 dm3_0 K hK => ?_); (go_simp; try go_bits); (go_at_call 21; refine (cloneT_any oa l c L _ hl (HS.out.on (by (first | ((repeat (first | with_reducible exact Junk.refl _ | with_reducible exact Junk.app _ _ _ _ _ | with_reducible apply Junk.alloc | with_reducible apply Junk.junk | with_reducible apply Junk.drew | with_reducible apply Junk.drewN)); done) | ((try simp only [World.junk_junk, Array.append_assoc]); (repeat (first | with_reducible exact Junk.refl _ | with_reducible exact Junk.app _ _ _ _ _ | with_reducible exact Junk.app2 _ _ _ _ _ _ | with_reducible exact Junk.app3 _ _ _ _ _ _ _ | with_reducible exact Junk.app4 _ _ _ _ _ _ _ _ | with_reducible exact Junk.app5 _ _ _ _ _ _ _ _ _ | with_reducible apply Junk.alloc | with_reducible apply Junk.junk | with_reducible apply Junk.drew | with_reducible apply Junk.drewN))))))).mono ?_; rintro e w' ⟨oq, cq, rfl, ⟨osC, dC, rfl⟩, hown⟩; have HOWN := Lib.hid hown; clear hown); refine hK _ _ (Junk.pair (by (repeat (first | with_reducible exact Junk.refl _ | with_reducible exact Junk.app _ _ _ _ _ | with_reducible apply Junk.alloc | with_reducible apply Junk.junk | with_reducible apply Junk.drew | with_reducible apply Junk.drewN | (with_reducible refine Junk.setCell ?_ (by simp) _))))) ?_; clear hK K; refine wpMixT_e rfl (fun osm3_1 dm3_1 K hK => ?_); (go_simp; try go_bits); refine hK _ _ (Junk.pair (by (repeat (first | with_reducible exact Junk.refl _ | with_reducible exact Junk.app _ _ _ _ _ | with_reducible apply Junk.alloc | with_reducible apply Junk.junk | with_reducible apply Junk.drew | with_reducible apply Junk.drewN | (with_reducible refine Junk.setCell ?_ (by simp) _))))) ?_; clear hK K; refine wpMixT_e rfl (fun osm3_2 dm3_2 K hK => ?_); (go_simp; try go_bits); (go_at_call 30; (with_reducible refine (HIN.out oq cq _ _ ?_ ?_ ?_ ?_).mono ?_); (· (first | ((repeat (first | with_reducible exact Junk.refl _ | with_reducible exact Junk.app _ _ _ _ _ | with_reducible apply Junk.alloc | with_reducible apply Junk.junk | with_reducible apply Junk.drew | with_reducible apply Junk.drewN)); done) | ((try simp only [World.junk_junk, Array.append_assoc]); (repeat (first | with_reducible exact Junk.refl _ | with_reducible exact Junk.app _ _ _ _ _ | with_reducible exact Junk.app2 _ _ _ _ _ _ | with_reducible exact Junk.app3 _ _ _ _ _ _ _ | with_reducible exact Junk.app4 _ _ _ _ _ _ _ _ | with_reducible exact Junk.app5 _ _ _ _ _ _ _ _ _ | with_reducible apply Junk.alloc | with_reducible apply Junk.junk | with_reducible apply Junk.drew | with_reducible apply Junk.drewN))))); (· refine (HOWN.out.on ?_).lower ?_; (· (first | ((repeat (first | with_reducible exact Junk.refl _ | with_reducible exact Junk.app _ _ _ _ _ | with_reducible apply Junk.alloc | with_reducible apply Junk.junk | with_reducible apply Junk.drew | with_reducible apply Junk.drewN)); done) | ((try simp only [World.junk_junk, Array.append_assoc]); (repeat (first | with_reducible exact Junk.refl _ | with_reducible exact Junk.app _ _ _ _ _ | with_reducible exact Junk.app2 _ _ _ _ _ _ | with_reducible exact Junk.app3 _ _ _ _ _ _ _ | with_reducible exact Junk.app4 _ _ _ _ _ _ _ _ | with_reducible exact Junk.app5 _ _ _ _ _ _ _ _ _ | with_reducible apply Junk.alloc | with_reducible apply Junk.junk | with_reducible apply Junk.drew | with_reducible apply Junk.drewN))))); (· simp; try omega)); (· exact heap_built (by simp)); (· intro g hg; have h1 := own_lt HOWN.out hg; simp at h1; omega); rintro e w' ⟨oz, cz, rfl, ⟨osI, dI, rfl⟩, hoI⟩; have HOI := Lib.hid hoI; clear hoI); refine hK _ _ (Junk.pair (by (repeat (first | with_reducible exact Junk.refl _ | with_reducible exact Junk.app _ _ _ _ _ | with_reducible apply Junk.alloc | with_reducible apply Junk.junk | with_reducible apply Junk.drew | with_reducible apply Junk.drewN | (with_reducible refine Junk.setCell ?_ (by simp) _))))) ?_; clear hK K; refine wpMixT_q rfl (fun K hK => ?_); (go_simp; try go_bits); (refine hK _ ?_; clear hK K); refine wpMixT_q rfl (fun K hK => ?_); (go_simp; try go_bits); (refine hK _ ?_; clear hK K); refine wpMixT_nil (fun osm dm => ?_); rotate_left; refine wpMixT_e rfl (fun osm3_3 dm3_3 K hK => ?_); (go_simp; try go_bits); refine hK _ _ (Junk.pair (by (repeat (first | with_reducible exact Junk.refl _ | with_reducible exact Junk.app _ _ _ _ _ | with_reducible apply Junk.alloc | with_reducible apply Junk.junk | with_reducible apply Junk.drew | with_reducible apply Junk.drewN | (with_reducible refine Junk.setCell ?_ (by simp) _))))) ?_; clear hK K; refine wpMixT_e rfl (fun osm3_4 dm3_4 K hK => ?_); (go_simp; try go_bits); (go_at_call 21; refine (cloneT_any oa l c L _ hl (HS.out.on (by (first | ((repeat (first | with_reducible exact Junk.refl _ | with_reducible exact Junk.app _ _ _ _ _ | with_reducible apply Junk.alloc | with_reducible apply Junk.junk | with_reducible apply Junk.drew | with_reducible apply Junk.drewN)); done) | ((try simp only [World.junk_junk, Array.append_assoc]); (repeat (first | with_reducible exact Junk.refl _ | with_reducible exact Junk.app _ _ _ _ _ | with_reducible exact Junk.app2 _ _ _ _ _ _ | with_reducible exact Junk.app3 _ _ _ _ _ _ _ | with_reducible exact Junk.app4 _ _ _ _ _ _ _ _ | with_reducible exact Junk.app5 _ _ _ _ _ _ _ _ _ | with_reducible apply Junk.alloc | with_reducible apply Junk.junk | with_reducible apply Junk.drew | with_reducible apply Junk.drewN))))))).mono ?_; rintro e w' ⟨oq, cq, rfl, ⟨osC, dC, rfl⟩, hown⟩; have HOWN := Lib.hid hown; clear hown); refine hK _ _ (Junk.pair (by (repeat (first | with_reducible exact Junk.refl _ | with_reducible exact Junk.app _ _ _ _ _ | with_reducible apply Junk.alloc | with_reducible apply Junk.junk | with_reducible apply Junk.drew | with_reducible apply Junk.drewN | (with_reducible refine Junk.setCell ?_ (by simp) _))))) ?_; clear hK K; refine wpMixT_e rfl (fun osm3_5 dm3_5 K hK => ?_); (go_simp; try go_bits); (go_at_call 30; (with_reducible refine (HIN.out oq cq _ _ ?_ ?_ ?_ ?_).mono ?_); (· (first | ((repeat (first | with_reducible exact Junk.refl _ | with_reducible exact Junk.app _ _ _ _ _ | with_reducible apply Junk.alloc | with_reducible apply Junk.junk | with_reducible apply Junk.drew | with_reducible apply Junk.drewN)); done) | ((try simp only [World.junk_junk, Array.append_assoc]); (repeat (first | with_reducible exact Junk.refl _ | with_reducible exact Junk.app _ _ _ _ _ | with_reducible exact Junk.app2 _ _ _ _ _ _ | with_reducible exact Junk.app3 _ _ _ _ _ _ _ | with_reducible exact Junk.app4 _ _ _ _ _ _ _ _ | with_reducible exact Junk.app5 _ _ _ _ _ _ _ _ _ | with_reducible apply Junk.alloc | with_reducible apply Junk.junk | with_reducible apply Junk.drew | with_reducible apply Junk.drewN))))); (· refine (HOWN.out.on ?_).lower ?_; (· (first | ((repeat (first | with_reducible exact Junk.refl _ | with_reducible exact Junk.app _ _ _ _ _ | with_reducible apply Junk.alloc | with_reducible apply Junk.junk | with_reducible apply Junk.drew | with_reducible apply Junk.drewN)); done) | ((try simp only [World.junk_junk, Array.append_assoc]); (repeat (first | with_reducible exact Junk.refl _ | with_reducible exact Junk.app _ _ _ _ _ | with_reducible exact Junk.app2 _ _ _ _ _ _ | with_reducible exact Junk.app3 _ _ _ _ _ _ _ | with_reducible exact Junk.app4 _ _ _ _ _ _ _ _ | with_reducible exact Junk.app5 _ _ _ _ _ _ _ _ _ | with_reducible apply Junk.alloc | with_reducible apply Junk.junk | with_reducible apply Junk.drew | with_reducible apply Junk.drewN))))); (· simp; try omega)); (· exact heap_built (by simp)); (· intro g hg; have h1 := own_lt HOWN.out hg; simp at h1; omega); rintro e w' ⟨oz, cz, rfl, ⟨osI, dI, rfl⟩, hoI⟩; have HOI := Lib.hid hoI; clear hoI); refine hK _ _ (Junk.pair (by (repeat (first | with_reducible exact Junk.refl _ | with_reducible exact Junk.app _ _ _ _ _ | with_reducible apply Junk.alloc | with_reducible apply Junk.junk | with_reducible apply Junk.drew | with_reducible apply Junk.drewN | (with_reducible refine Junk.setCell ?_ (by simp) _))))) ?_; clear hK K; refine wpMixT_q rfl (fun K hK => ?_); (go_simp; try go_bits); (refine hK _ ?_; clear hK K); refine wpMixT_q rfl (fun K hK => ?_); (go_simp; try go_bits); (refine hK _ ?_; clear hK K); refine wpMixT_nil (fun osm dm => ?_)
    all_goals
      repeat (first | go_values | go_skip | go_guarded | go_step)
      go_returns
      exact plus_ok HP.out HML.out (by (first | ((repeat (first | with_reducible exact Junk.refl _ | with_reducible exact Junk.app _ _ _ _ _ | with_reducible apply Junk.alloc | with_reducible apply Junk.junk | with_reducible apply Junk.drew | with_reducible apply Junk.drewN)); done) | ((try simp only [World.junk_junk, Array.append_assoc]); (repeat (first | with_reducible exact Junk.refl _ | with_reducible exact Junk.app _ _ _ _ _ | with_reducible exact Junk.app2 _ _ _ _ _ _ | with_reducible exact Junk.app3 _ _ _ _ _ _ _ | with_reducible exact Junk.app4 _ _ _ _ _ _ _ _ | with_reducible exact Junk.app5 _ _ _ _ _ _ _ _ _ | with_reducible apply Junk.alloc | with_reducible apply Junk.junk | with_reducible apply Junk.drew | with_reducible apply Junk.drewN))))) ((HOI.out.on (by (first | ((repeat (first | with_reducible exact Junk.refl _ | with_reducible exact Junk.app _ _ _ _ _ | with_reducible apply Junk.alloc | with_reducible apply Junk.junk | with_reducible apply Junk.drew | with_reducible apply Junk.drewN)); done) | ((try simp only [World.junk_junk, Array.append_assoc]); (repeat (first | with_reducible exact Junk.refl _ | with_reducible exact Junk.app _ _ _ _ _ | with_reducible exact Junk.app2 _ _ _ _ _ _ | with_reducible exact Junk.app3 _ _ _ _ _ _ _ | with_reducible exact Junk.app4 _ _ _ _ _ _ _ _ | with_reducible exact Junk.app5 _ _ _ _ _ _ _ _ _ | with_reducible apply Junk.alloc | with_reducible apply Junk.junk | with_reducible apply Junk.drew | with_reducible apply Junk.drewN)))))).lower (by simp; omega))
  | true =>
    obtain ⟨x, hx, hl1, hl2⟩ := found_is HPos.out hf
    obtain ⟨xz, xv, xn, xb⟩ := x
    have hk : k < l := by have := (List.getElem?_eq_some_iff.1 hx).1; rw [HL.out] at this; exact this
    have hk2 : (k : Int) < (l : Int) := by omega
    obtain ⟨bb, off, hob, hbb, z0, z1, z2, z3⟩ := HS.out.at_ k _ hx
    subst hob
    simp only at z0 z1 z2 z3
    have hxo := ok_n (HRR.out.ok _ (List.mem_of_getElem? hx))
    have hto := ok_n HT.out
    simp only at hxo hto
    have HX := Lib.hid hx
    have HL1 := Lib.hid hl1
    have p1 := wrapk_i64 (1099511627776 - tn) (by omega) (by omega)
    have p2 := wrapk_i64 (1099511627776 - tb) (by omega) (by omega)
    by_cases q1 : 1099511627776 - tn < xn
    · have HP := Lib.hid (show tlPlus L ⟨tz, tv, tn, tb⟩ = none from plus_big HPos.out HX.out HL1.out (by unfold tlBig; simp [q1]))
      have q1d : decide (1099511627776 - tn < xn) = true := by simpa using q1
      clear hx hl1 hl2 hxo hto
      go_wp2
      refine wp_region_junk (by kernel_rfl) (by kernel_rfl) ?_; (repeat (go_big_quiet_step (first | fail))); refine wpQuiet_nil ?_; rintro _ ⟨⟨osq, dq⟩, rfl⟩
      go_wp2
      go_returns
      exact plus_no HP.out (by (first | ((repeat (first | with_reducible exact Junk.refl _ | with_reducible exact Junk.app _ _ _ _ _ | with_reducible apply Junk.alloc | with_reducible apply Junk.junk | with_reducible apply Junk.drew | with_reducible apply Junk.drewN)); done) | ((try simp only [World.junk_junk, Array.append_assoc]); (repeat (first | with_reducible exact Junk.refl _ | with_reducible exact Junk.app _ _ _ _ _ | with_reducible exact Junk.app2 _ _ _ _ _ _ | with_reducible exact Junk.app3 _ _ _ _ _ _ _ | with_reducible exact Junk.app4 _ _ _ _ _ _ _ _ | with_reducible exact Junk.app5 _ _ _ _ _ _ _ _ _ | with_reducible apply Junk.alloc | with_reducible apply Junk.junk | with_reducible apply Junk.drew | with_reducible apply Junk.drewN)))))
    · have q1d : decide (1099511627776 - tn < xn) = false := by simpa using q1
      by_cases q2 : 1099511627776 - tb < xb
      · have HP := Lib.hid (show tlPlus L ⟨tz, tv, tn, tb⟩ = none from plus_big HPos.out HX.out HL1.out (by unfold tlBig; simp [q2]))
        have q2d : decide (1099511627776 - tb < xb) = true := by simpa using q2
        clear hx hl1 hl2 hxo hto
        go_wp2
        refine wp_region_junk (by kernel_rfl) (by kernel_rfl) ?_; (repeat (go_big_quiet_step (first | fail))); refine wpQuiet_nil ?_; rintro _ ⟨⟨osq, dq⟩, rfl⟩
        go_wp2
        go_returns
        exact plus_no HP.out (by (first | ((repeat (first | with_reducible exact Junk.refl _ | with_reducible exact Junk.app _ _ _ _ _ | with_reducible apply Junk.alloc | with_reducible apply Junk.junk | with_reducible apply Junk.drew | with_reducible apply Junk.drewN)); done) | ((try simp only [World.junk_junk, Array.append_assoc]); (repeat (first | with_reducible exact Junk.refl _ | with_reducible exact Junk.app _ _ _ _ _ | with_reducible exact Junk.app2 _ _ _ _ _ _ | with_reducible exact Junk.app3 _ _ _ _ _ _ _ | with_reducible exact Junk.app4 _ _ _ _ _ _ _ _ | with_reducible exact Junk.app5 _ _ _ _ _ _ _ _ _ | with_reducible apply Junk.alloc | with_reducible apply Junk.junk | with_reducible apply Junk.drew | with_reducible apply Junk.drewN)))))
      · have q2d : decide (1099511627776 - tb < xb) = false := by simpa using q2
        have HP := Lib.hid (show tlPlus L ⟨tz, tv, tn, tb⟩ = some (L.set k (tlSum ⟨xz, xv, xn, xb⟩ ⟨tz, tv, tn, tb⟩)) from plus_set HPos.out HX.out HL1.out (by unfold tlBig; simp; omega))
        have p3 := wrapk_i64 (xn + tn) (by omega) (by omega)
        have p4 := wrapk_i64 (xb + tb) (by omega) (by omega)
        clear hx hl1 hl2 hxo hto
        go_wp2
        refine wp_region_junk (by kernel_rfl) (by kernel_rfl) ?_; (repeat (go_big_quiet_step (first | fail))); refine wpQuiet_nil ?_; rintro _ ⟨⟨osq, dq⟩, rfl⟩
        go_upto_region 7 with (first | (go_at_call 21; refine (cloneT_any _ l c L _ hl (HS.out.on (by (first | ((repeat (first | with_reducible exact Junk.refl _ | with_reducible exact Junk.app _ _ _ _ _ | with_reducible apply Junk.alloc | with_reducible apply Junk.junk | with_reducible apply Junk.drew | with_reducible apply Junk.drewN)); done) | ((try simp only [World.junk_junk, Array.append_assoc]); (repeat (first | with_reducible exact Junk.refl _ | with_reducible exact Junk.app _ _ _ _ _ | with_reducible exact Junk.app2 _ _ _ _ _ _ | with_reducible exact Junk.app3 _ _ _ _ _ _ _ | with_reducible exact Junk.app4 _ _ _ _ _ _ _ _ | with_reducible exact Junk.app5 _ _ _ _ _ _ _ _ _ | with_reducible apply Junk.alloc | with_reducible apply Junk.junk | with_reducible apply Junk.drew | with_reducible apply Junk.drewN))))))).mono ?_; rintro e w' ⟨oq, cq, rfl, ⟨osC, dC, rfl⟩, hown⟩; have HOWN := Lib.hid hown; clear hown))
        have hoV : Own w.heap.size ((w.alloc (.cells #[.int .i64 tz, .int .i64 tv, .int .i64 tn, .int .i64 tb] 28)).junk (osB ++ (osq ++ osC)) dC) 28 4 oq cq l (tlsL L) := (HOWN.out.on (by (first | ((repeat (first | with_reducible exact Junk.refl _ | with_reducible exact Junk.app _ _ _ _ _ | with_reducible apply Junk.alloc | with_reducible apply Junk.junk | with_reducible apply Junk.drew | with_reducible apply Junk.drewN)); done) | ((try simp only [World.junk_junk, Array.append_assoc]); (repeat (first | with_reducible exact Junk.refl _ | with_reducible exact Junk.app _ _ _ _ _ | with_reducible exact Junk.app2 _ _ _ _ _ _ | with_reducible exact Junk.app3 _ _ _ _ _ _ _ | with_reducible exact Junk.app4 _ _ _ _ _ _ _ _ | with_reducible exact Junk.app5 _ _ _ _ _ _ _ _ _ | with_reducible apply Junk.alloc | with_reducible apply Junk.junk | with_reducible apply Junk.drew | with_reducible apply Junk.drewN)))))).lower (by simp; omega)
        have hjV : Junk w ((w.alloc (.cells #[.int .i64 tz, .int .i64 tv, .int .i64 tn, .int .i64 tb] 28)).junk (osB ++ (osq ++ osC)) dC) := by (first | ((repeat (first | with_reducible exact Junk.refl _ | with_reducible exact Junk.app _ _ _ _ _ | with_reducible apply Junk.alloc | with_reducible apply Junk.junk | with_reducible apply Junk.drew | with_reducible apply Junk.drewN)); done) | ((try simp only [World.junk_junk, Array.append_assoc]); (repeat (first | with_reducible exact Junk.refl _ | with_reducible exact Junk.app _ _ _ _ _ | with_reducible exact Junk.app2 _ _ _ _ _ _ | with_reducible exact Junk.app3 _ _ _ _ _ _ _ | with_reducible exact Junk.app4 _ _ _ _ _ _ _ _ | with_reducible exact Junk.app5 _ _ _ _ _ _ _ _ _ | with_reducible apply Junk.alloc | with_reducible apply Junk.junk | with_reducible apply Junk.drew | with_reducible apply Junk.drewN))))
        have t2 : ((w.alloc (.cells #[.int .i64 tz, .int .i64 tv, .int .i64 tn, .int .i64 tb] 28)).junk (osB ++ (osq ++ osC)) dC).cell? ⟨w.heap.size, 2, none⟩ = some (.int .i64 tn) := by go_simp
        have t3 : ((w.alloc (.cells #[.int .i64 tz, .int .i64 tv, .int .i64 tn, .int .i64 tb] 28)).junk (osB ++ (osq ++ osC)) dC).cell? ⟨w.heap.size, 3, none⟩ = some (.int .i64 tb) := by go_simp
        have ts : w.heap.size < ((w.alloc (.cells #[.int .i64 tz, .int .i64 tv, .int .i64 tn, .int .i64 tb] 28)).junk (osB ++ (osq ++ osC)) dC).heap.size := by simp; omega
        obtain ⟨g, hg⟩ : ∃ g, oq = some ⟨g, 0, none⟩ := by
          rcases hoV.form with ⟨_, h, _⟩ | ⟨g, cur, h, _⟩
          · omega
          · exact ⟨g, h⟩
        subst hg
        have HGT := Lib.hid (show w.heap.size + 1 ≤ g by have := (own_lt HOWN.out rfl).1; simp at this; omega)
        clear HOWN
        generalize (w.alloc (.cells #[.int .i64 tz, .int .i64 tv, .int .i64 tn, .int .i64 tb] 28)).junk (osB ++ (osq ++ osC)) dC = V at hoV hjV t2 t3 ts ⊢
        have hgz := (own_lt hoV rfl).2
        obtain ⟨b1, o1, he1, _, c0, c1, c2, c3⟩ := own_ts hoV k _ HX.out
        cases he1
        rw [Nat.zero_add] at c0 c1 c2 c3
        simp only at c0 c1 c2 c3
        have hfz : V.frozen? ⟨g, k * 4 + 2, none⟩ = false := World.ownsRow.frozenAt hoV (k * 4 + 2)
        have HO := Lib.hid hoV
        have HJ := Lib.hid hjV
        clear hoV hjV
        refine wp_region_mixn (V) 10 [(0, true), (1, true), (2, true), (3, true), (4, true), (5, true), (6, true), (7, true), (8, true), (9, true), (10, false)] (by kernel_rfl) (by kernel_rfl) (by (repeat (first | with_reducible exact Junk.refl _ | with_reducible exact Junk.app _ _ _ _ _ | with_reducible apply Junk.alloc | with_reducible apply Junk.junk | with_reducible apply Junk.drew | with_reducible apply Junk.drewN))) ?_; (iterate 10 (refine wpMixL_q rfl (fun K hK => ?_); (go_simp; try go_bits); (refine hK _ ?_; clear hK K))); refine wpMixL_last rfl (fun osm7_0 dm7_0 K hK => ?_); (go_simp; try go_bits); refine hK _ _ ?_; clear hK K; refine wpMixL_nil (fun osm dm => ?_)
        have hs1 : Junk (V.setCell ⟨g, k * 4 + 2, none⟩ (.int .i64 (xn + tn))) (((V.setCell ⟨g, k * 4 + 2, none⟩ (.int .i64 (xn + tn))).junk osm7_0 dm7_0).junk osm dm) := by (first | ((repeat (first | with_reducible exact Junk.refl _ | with_reducible exact Junk.app _ _ _ _ _ | with_reducible apply Junk.alloc | with_reducible apply Junk.junk | with_reducible apply Junk.drew | with_reducible apply Junk.drewN)); done) | ((try simp only [World.junk_junk, Array.append_assoc]); (repeat (first | with_reducible exact Junk.refl _ | with_reducible exact Junk.app _ _ _ _ _ | with_reducible exact Junk.app2 _ _ _ _ _ _ | with_reducible exact Junk.app3 _ _ _ _ _ _ _ | with_reducible exact Junk.app4 _ _ _ _ _ _ _ _ | with_reducible exact Junk.app5 _ _ _ _ _ _ _ _ _ | with_reducible apply Junk.alloc | with_reducible apply Junk.junk | with_reducible apply Junk.drew | with_reducible apply Junk.drewN))))
        have ho2 := (own_storedT HO.out (k * 4 + 2) (.int .i64 (xn + tn))).on hs1
        rw [tls_set_n HX.out] at ho2
        have hj2 : Junk w (((V.setCell ⟨g, k * 4 + 2, none⟩ (.int .i64 (xn + tn))).junk osm7_0 dm7_0).junk osm dm) := (HJ.out.setCell (by have := HGT.out; simp only; omega) _).trans hs1
        have u3 := ((hs1.below (Nat.le_refl _)).cell (p := ⟨w.heap.size, 3, none⟩) (by simpa [World.setCell] using ts)).trans ((World.cell?_setCell_other _ _ _ _ (by intro he; have h2 := congrArg Addr.block he; have := HGT.out; simp only at h2; omega)).trans t3)
        have us : w.heap.size < (((V.setCell ⟨g, k * 4 + 2, none⟩ (.int .i64 (xn + tn))).junk osm7_0 dm7_0).junk osm dm).heap.size := by simp [World.setCell]; omega
        clear hs1 HO HJ t2 t3 ts hgz c0 c1 c2 c3 hfz
        generalize ((V.setCell ⟨g, k * 4 + 2, none⟩ (.int .i64 (xn + tn))).junk osm7_0 dm7_0).junk osm dm = V2 at ho2 hj2 u3 us ⊢
        have HX2 := Lib.hid (show (L.set k ⟨xz, xv, xn + tn, xb⟩)[k]? = some ⟨xz, xv, xn + tn, xb⟩ by rw [List.getElem?_set_self (by rw [HL.out]; exact hk)])
        have hgz := (own_lt ho2 rfl).2
        obtain ⟨b1, o1, he1, _, c0, c1, c2, c3⟩ := own_ts ho2 k _ HX2.out
        cases he1
        rw [Nat.zero_add] at c0 c1 c2 c3
        simp only at c0 c1 c2 c3
        have hfz : V2.frozen? ⟨g, k * 4 + 3, none⟩ = false := World.ownsRow.frozenAt ho2 (k * 4 + 3)
        have HO := Lib.hid ho2
        have HJ := Lib.hid hj2
        clear ho2 hj2
        go_upto_region 8 with (fail)
        refine wp_region_mixn (V2) 10 [(0, true), (1, true), (2, true), (3, true), (4, true), (5, true), (6, true), (7, true), (8, true), (9, true), (10, false)] (by kernel_rfl) (by kernel_rfl) (by (repeat (first | with_reducible exact Junk.refl _ | with_reducible exact Junk.app _ _ _ _ _ | with_reducible apply Junk.alloc | with_reducible apply Junk.junk | with_reducible apply Junk.drew | with_reducible apply Junk.drewN))) ?_; (iterate 10 (refine wpMixL_q rfl (fun K hK => ?_); (go_simp; try go_bits); (refine hK _ ?_; clear hK K))); refine wpMixL_last rfl (fun osm8_0 dm8_0 K hK => ?_); (go_simp; try go_bits); refine hK _ _ ?_; clear hK K; refine wpMixL_nil (fun osm dm => ?_)
        have hs1 : Junk (V2.setCell ⟨g, k * 4 + 3, none⟩ (.int .i64 (xb + tb))) (((V2.setCell ⟨g, k * 4 + 3, none⟩ (.int .i64 (xb + tb))).junk osm8_0 dm8_0).junk osm dm) := by (first | ((repeat (first | with_reducible exact Junk.refl _ | with_reducible exact Junk.app _ _ _ _ _ | with_reducible apply Junk.alloc | with_reducible apply Junk.junk | with_reducible apply Junk.drew | with_reducible apply Junk.drewN)); done) | ((try simp only [World.junk_junk, Array.append_assoc]); (repeat (first | with_reducible exact Junk.refl _ | with_reducible exact Junk.app _ _ _ _ _ | with_reducible exact Junk.app2 _ _ _ _ _ _ | with_reducible exact Junk.app3 _ _ _ _ _ _ _ | with_reducible exact Junk.app4 _ _ _ _ _ _ _ _ | with_reducible exact Junk.app5 _ _ _ _ _ _ _ _ _ | with_reducible apply Junk.alloc | with_reducible apply Junk.junk | with_reducible apply Junk.drew | with_reducible apply Junk.drewN))))
        have ho2 := (own_storedT HO.out (k * 4 + 3) (.int .i64 (xb + tb))).on hs1
        rw [tls_set_b HX2.out, List.set_set] at ho2
        have hj2 : Junk w (((V2.setCell ⟨g, k * 4 + 3, none⟩ (.int .i64 (xb + tb))).junk osm8_0 dm8_0).junk osm dm) := (HJ.out.setCell (by have := HGT.out; simp only; omega) _).trans hs1
        clear hs1 HO HJ u3 us hgz c0 c1 c2 c3 hfz
        generalize ((V2.setCell ⟨g, k * 4 + 3, none⟩ (.int .i64 (xb + tb))).junk osm8_0 dm8_0).junk osm dm = V3 at ho2 hj2 ⊢
        have HO := Lib.hid ho2
        have HJ := Lib.hid hj2
        clear ho2 hj2
        repeat (first | go_values | go_skip | go_guarded | go_step)
        go_returns
        exact plus_ok HP.out (by rw [List.length_set, HL.out]) (HJ.out.trans (by (first | ((repeat (first | with_reducible exact Junk.refl _ | with_reducible exact Junk.app _ _ _ _ _ | with_reducible apply Junk.alloc | with_reducible apply Junk.junk | with_reducible apply Junk.drew | with_reducible apply Junk.drewN)); done) | ((try simp only [World.junk_junk, Array.append_assoc]); (repeat (first | with_reducible exact Junk.refl _ | with_reducible exact Junk.app _ _ _ _ _ | with_reducible exact Junk.app2 _ _ _ _ _ _ | with_reducible exact Junk.app3 _ _ _ _ _ _ _ | with_reducible exact Junk.app4 _ _ _ _ _ _ _ _ | with_reducible exact Junk.app5 _ _ _ _ _ _ _ _ _ | with_reducible apply Junk.alloc | with_reducible apply Junk.junk | with_reducible apply Junk.drew | with_reducible apply Junk.drewN)))))) (HO.out.on (by (first | ((repeat (first | with_reducible exact Junk.refl _ | with_reducible exact Junk.app _ _ _ _ _ | with_reducible apply Junk.alloc | with_reducible apply Junk.junk | with_reducible apply Junk.drew | with_reducible apply Junk.drewN)); done) | ((try simp only [World.junk_junk, Array.append_assoc]); (repeat (first | with_reducible exact Junk.refl _ | with_reducible exact Junk.app _ _ _ _ _ | with_reducible exact Junk.app2 _ _ _ _ _ _ | with_reducible exact Junk.app3 _ _ _ _ _ _ _ | with_reducible exact Junk.app4 _ _ _ _ _ _ _ _ | with_reducible exact Junk.app5 _ _ _ _ _ _ _ _ _ | with_reducible apply Junk.alloc | with_reducible apply Junk.junk | with_reducible apply Junk.drew | with_reducible apply Junk.drewN))))))
end Go.Proofs.YteoommoolmddaaaDoor
