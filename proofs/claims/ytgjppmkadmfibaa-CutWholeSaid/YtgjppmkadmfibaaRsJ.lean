/- slices.IndexFunc and ContainsFunc over runs; reasm.clashes. -/
import Derived.Test.YtgjppmkadmfibaaRsK
import Derived.Test.YtgjppmkadmfibaaRsF
set_option linter.unusedVariables false
set_option maxRecDepth 100000
set_option linter.unusedSimpArgs false
namespace Go.Proofs.Ytgjppmkadmfibaa
open Go.RowKit
theorem wp_genX {P : Program} {c : Code} {Q : Exit → Act → World → Prop} {a : Act} {w : World} (X : World → Prop) (hX : X w) (h : ∀ V, X V → c.wp P Q a V) : c.wp P Q a w := h w hX
/-- A closure that answers 'pr' of the runs of a list. -/
def PrRs (f : Nat) (v1 : Array Value) (w : World) (F : List Ot) (pr : Od → Bool) : Prop := ∀ w1, Junk w w1 → ∀ x ∈ F, Calls Try.prog f (#[x.val] ++ v1) w1 fun e w' => e = .returned (.bool (pr x.d)) ∧ Junk w1 w'
set_option maxHeartbeats 8000000 in
theorem ridxR_any (f : Nat) (v1 : Array Value) (oa : Option Addr) (l c : Nat) (L : List Ot) (pr : Od → Bool) (w : World) (hl : l ≤ 1000000) (hL : L.length = l) (hS : OsAt w oa L) (hf : PrRs f v1 w L pr) (hfn : ∀ args w, (callFunc f args).run Try.prog w = .ok (.enter f args) w) :
    Calls Try.prog 61 #[.slice oa l c, .func (.func f) #[] v1] w fun e w' => e = .returned (.int .i64 (idxR ((L.map Ot.d).findIdx? pr))) ∧ Junk w w' := by
  have HS := Lib.hid hS
  have HF := Lib.hid hf
  clear hS hf
  obtain ⟨T, hT⟩ : ∃ T, T = idxR ((L.map Ot.d).findIdx? pr) := ⟨_, rfl⟩
  rw [← hT]
  have HT := Lib.hid hT
  have HL := Lib.hid hL
  clear hT hL
  go_enter Try.func61, Try.ntmps61
  go_wp2
  go_loopw [8] (fun i wr => ∃ k : Nat, i = .int .i64 (k : Int) ∧ Junk w wr ∧ k ≤ l ∧ Hid (∀ j, j < k → ∀ y, (L.map Ot.d)[j]? = some y → pr y = false)) (fun i _ => l + 1 - (intOf i).toNat)
  case atStart => exact ⟨0, rfl, Junk.refl _, by omega, Lib.hid (fun j hj => by omega)⟩
  case round =>
    obtain ⟨k, rfl, hj, hk, hN⟩ := hrel
    have HJ := Lib.hid hj
    have HNN := Lib.hid hN.out
    clear hj hN
    by_cases hkl : k < l
    · have hk2 : (k : Int) < (l : Int) := by omega
      have pk := wrapk_i64 ((k : Int) + 1) (by omega) (by omega)
      obtain ⟨b, hb⟩ : ∃ b, L[k]? = some b := ⟨_, List.getElem?_eq_getElem (by rw [HL.out]; exact hkl)⟩
      obtain ⟨g, off, hob, hgl, c0, c1, -⟩ := (HS.out.on HJ.out) k b hb
      have HBQ := Lib.hid (show (L.map Ot.d)[k]? = some b.d by rw [List.getElem?_map, hb]; rfl)
      have HFB := Lib.hid (fun w1 (hj : Junk w w1) => HF.out w1 hj b (List.mem_of_getElem? hb))
      obtain ⟨bk, bo, bl, bc, bx⟩ := b
      subst hob
      clear hb
      cases hp : pr (Ot.d ⟨bk, bo, bl, bc, bx⟩) with
      | true =>
        rw [hp] at HFB
        have HI := Lib.hid (show T = (k : Int) by rw [HT.out, findIdxR_at HNN.out HBQ.out hp]; rfl)
        go_wp2_with (first | ((with_reducible refine (HFB.out _ HJ.out).mono ?_); rintro e w' ⟨rfl, ⟨osj, dj, rfl⟩⟩))
        go_ret
        exact ⟨by rw [HI.out]; rfl, HJ.out.trans (by (exact jkc))⟩
      | false =>
        rw [hp] at HFB
        go_wp2_with (first | ((with_reducible refine (HFB.out _ HJ.out).mono ?_); rintro e w' ⟨rfl, ⟨osj, dj, rfl⟩⟩))
        exact ⟨⟨k + 1, by go_num, HJ.out.trans (by (exact jkc)), by omega, Lib.hid (fun j hj y hy => by
          by_cases hjk : j = k
          · subst hjk; rw [HBQ.out] at hy; cases hy; exact hp
          · exact HNN.out j (by omega) y hy)⟩, by simp [intOf]; omega⟩
    · have hk2 : ¬ (k : Int) < (l : Int) := by omega
      have HI := Lib.hid (show T = -1 by rw [HT.out, findIdxR_no (fun j hj => HNN.out j (by rw [List.length_map, HL.out] at hj; omega))]; rfl)
      go_wp2
      go_ret
      exact ⟨by rw [HI.out]; rfl, HJ.out.trans (by (exact jkc))⟩
theorem idxRD_any (L : List Od) (pr : Od → Bool) : decide (0 ≤ idxR (L.findIdx? pr)) = L.any pr := by
  cases h : L.findIdx? pr with
  | none =>
    rw [List.findIdx?_eq_none_iff] at h
    rw [show L.any pr = false by rw [List.any_eq_false]; intro x hx; rw [h x hx]; decide]
    decide
  | some i =>
    have := List.findIdx?_eq_some_iff_getElem.1 h
    obtain ⟨hi, hp, _⟩ := this
    rw [show L.any pr = true by rw [List.any_eq_true]; exact ⟨_, List.getElem_mem hi, hp⟩]
    simp [idxR]
theorem rcontR_any (f : Nat) (v1 : Array Value) (oa : Option Addr) (l c : Nat) (L : List Ot) (pr : Od → Bool) (w : World) (hl : l ≤ 1000000) (hL : L.length = l) (hS : OsAt w oa L) (hf : PrRs f v1 w L pr) (hfn : ∀ args w, (callFunc f args).run Try.prog w = .ok (.enter f args) w) :
    Calls Try.prog 49 #[.slice oa l c, .func (.func f) #[] v1] w fun e w' => e = .returned (.bool ((L.map Ot.d).any pr)) ∧ Junk w w' := by
  have HX := Lib.hid (ridxR_any f v1 oa l c L pr w hl hL hS hf hfn)
  have HE := Lib.hid (idxRD_any (L.map Ot.d) pr)
  generalize idxR ((L.map Ot.d).findIdx? pr) = T at HX HE
  rw [← HE.out]
  clear hS hf hL
  go_enter Try.func49, Try.ntmps49
  go_wp2_with (first | (go_at_call 61; (with_reducible refine (HX.out).mono ?_); rintro e w' ⟨rfl, ⟨osj, dj, rfl⟩⟩))
  go_ret
  exact ⟨rfl, by (exact jkc)⟩
/-- Does a run clash with a piece? -/
def clashR (fr te : Int) (mf : Bool) (f : Od) : Bool := (decide (fr < f.k + f.l) && decide (f.k < te)) || (!mf && decide (te < f.k + f.l))
def clashB (b : Bq) (x : Ip) : Bool := (decide (0 ≤ b.total) && (!x.mf || decide (b.total < x.off + x.bl))) || b.runs.any (clashR x.off (x.off + x.bl) x.mf)
set_option maxHeartbeats 16000000 in
theorem clo50_any (gf gt gx : Nat) (fr te : Int) (mf : Bool) (F : List Ot) (w : World) (hf : gf < w.heap.size) (ht : gt < w.heap.size) (hx : gx < w.heap.size) (h0 : w.cell? ⟨gf, 0, none⟩ = some (.int .i64 fr)) (h1 : w.cell? ⟨gt, 0, none⟩ = some (.int .i64 te)) (h2 : w.cell? ⟨gx, 3, none⟩ = some (.bool mf))
    (hF : ∀ f ∈ F, 0 ≤ f.k ∧ f.k ≤ 1000000 ∧ f.l ≤ 1000000) :
    PrRs 50 #[.pointer (some ⟨gf, 0, none⟩), .pointer (some ⟨gt, 0, none⟩), .pointer (some ⟨gx, 0, none⟩)] w F (clashR fr te mf) := by
  intro w1 hj f hfm
  have t0 := cells_on h0 hf hj
  have t1 := cells_on h1 ht hj
  have t2 := cells_on h2 hx hj
  have tf : gf < w1.heap.size := Nat.lt_of_lt_of_le hf hj.size
  have tt : gt < w1.heap.size := Nat.lt_of_lt_of_le ht hj.size
  have tx : gx < w1.heap.size := Nat.lt_of_lt_of_le hx hj.size
  obtain ⟨hk0, hk1, hl1⟩ := hF f hfm
  have HEN := Lib.hid (fun w2 => rend_any f.k f.oa f.l f.c w2 (by omega) (by omega))
  obtain ⟨fk, fo, fl, fc, fx⟩ := f
  obtain ⟨R, hR⟩ : ∃ R, clashR fr te mf (Ot.d ⟨fk, fo, fl, fc, fx⟩) = R := ⟨_, rfl⟩
  show Calls Try.prog 50 #[.agg #[.int .i64 fk, .slice fo fl fc], .pointer (some ⟨gf, 0, none⟩), .pointer (some ⟨gt, 0, none⟩), .pointer (some ⟨gx, 0, none⟩)] w1 fun e w' => e = .returned (.bool (clashR fr te mf (Ot.d ⟨fk, fo, fl, fc, fx⟩))) ∧ Junk w1 w'
  rw [hR]
  have HR := Lib.hid (show ((decide (fr < fk + (fl : Int)) && decide (fk < te)) || (!mf && decide (te < fk + (fl : Int)))) = R from hR)
  clear h0 h1 h2 hj hF hR hfm hf ht hx
  simp only at hk0 hk1 hl1
  by_cases d1 : fr < fk + (fl : Int) <;> by_cases d2 : fk < te <;> cases mf <;> by_cases d3 : te < fk + (fl : Int)
  all_goals
    go_enter Try.func50, Try.ntmps50
    go_upto_region 1 with (fail)
    refine wp_region_junk (by kernel_rfl) (by kernel_rfl) ?_
    repeat (go_big_quiet_step (first | (go_at_call 51; with_reducible exact Calls.jc (HEN.out _))))
    refine wpQuiet_nil ?_; rintro _ ⟨⟨osq1, dq1⟩, rfl⟩
    go_wp2
    go_ret
    exact ⟨ret_bool (by rw [← HR.out]; simp [d1, d2, d3]), by (exact jkc)⟩
set_option maxHeartbeats 16000000 in
theorem clashes_any (b : Bf) (n : Nat) (p : Ip) (oo ob : Option Addr) (oc bc : Nat) (w : World) (hr : OsAt w b.ro b.F) (hn : b.F.length = n) (hn6 : n ≤ 1000000) (hF : ∀ f ∈ b.F, 0 ≤ f.k ∧ f.k ≤ 1000000 ∧ f.l ≤ 1000000) (ho : 0 ≤ p.off ∧ p.off ≤ 65535) (hbl : p.bl ≤ 1000000) :
    Calls Try.prog 29 #[.agg #[.int .u32 b.src, .int .u32 b.dst, .int .i64 b.id, .int .i64 b.proto, .int .i64 b.born, .int .i64 b.head.tos, .int .i64 b.head.id, .bool b.head.df, .bool b.head.mf, .int .i64 b.head.off, .int .i64 b.head.ttl, .int .i64 b.head.proto, .int .u32 b.head.src, .int .u32 b.head.dst, .slice b.ho b.head.ol b.hoc, .slice b.hb b.head.bl b.hbc, .bool b.first, .int .i64 b.total, .slice b.ro n b.rc], .agg #[.int .i64 p.tos, .int .i64 p.id, .bool p.df, .bool p.mf, .int .i64 p.off, .int .i64 p.ttl, .int .i64 p.proto, .int .u32 p.src, .int .u32 p.dst, .slice oo p.ol oc, .slice ob p.bl bc]] w fun e w' => e = .returned (.bool (clashB b.q p)) ∧ Junk w w' := by
  obtain ⟨R, hR⟩ : ∃ R, clashB b.q p = R := ⟨_, rfl⟩
  rw [hR]
  have HR := Lib.hid hR
  have HO := Lib.hid hr
  have HF := Lib.hid hF
  have HN := Lib.hid hn
  have pw := wrapk_i64 (p.off + (p.bl : Int)) (by omega) (by omega)
  clear hr hF hn hR
  go_enter Try.func29, Try.ntmps29
  go_upto_region 1 with (fail)
  refine wp_region_mixTj ((w.alloc (.cells #[.int .u32 b.src, .int .u32 b.dst, .int .i64 b.id, .int .i64 b.proto, .int .i64 b.born, .int .i64 b.head.tos, .int .i64 b.head.id, .bool b.head.df, .bool b.head.mf, .int .i64 b.head.off, .int .i64 b.head.ttl, .int .i64 b.head.proto, .int .u32 b.head.src, .int .u32 b.head.dst, .slice b.ho b.head.ol b.hoc, .slice b.hb b.head.bl b.hbc, .bool b.first, .int .i64 b.total, .slice b.ro n b.rc] 45)).alloc (.cells #[.int .i64 p.tos, .int .i64 p.id, .bool p.df, .bool p.mf, .int .i64 p.off, .int .i64 p.ttl, .int .i64 p.proto, .int .u32 p.src, .int .u32 p.dst, .slice oo p.ol oc, .slice ob p.bl bc] 25)) (.q 0 (.q 1 (.q 2 (.q 3 (.q 4 (.q 5 (.q 6 (.q 7 (.two 8 (.e 9 (.e 10 (.e 11 .nil))) 9 (.e 8 (.e 10 (.e 11 .nil)))))))))))) (by kernel_rfl) (by kernel_rfl) (by (exact jkc)) ?_; refine wpMixT_q rfl (fun K hK => ?_); (go_simp; try go_bits); (refine hK _ ?_; clear hK K); refine wpMixT_q rfl (fun K hK => ?_); (go_simp; try go_bits); (refine hK _ ?_; clear hK K); refine wpMixT_q rfl (fun K hK => ?_); (go_simp; try go_bits); (refine hK _ ?_; clear hK K); refine wpMixT_q rfl (fun K hK => ?_); (go_simp; try go_bits); (refine hK _ ?_; clear hK K); refine wpMixT_q rfl (fun K hK => ?_); (go_simp; try go_bits); (refine hK _ ?_; clear hK K); refine wpMixT_q rfl (fun K hK => ?_); (go_simp; try go_bits); (refine hK _ ?_; clear hK K); refine wpMixT_q rfl (fun K hK => ?_); (go_simp; try go_bits); (refine hK _ ?_; clear hK K); refine wpMixT_q rfl (fun K hK => ?_); (go_simp; try go_bits); (refine hK _ ?_; clear hK K); refine wpMixT_two ?_ ?_; refine wpMixT_e rfl (fun osm1_0 dm1_0 K hK => ?_); (go_simp; try go_bits); refine hK _ _ (Junk.pair (by (first | exact jkc | repeat (first | with_reducible exact Junk.refl _ | with_reducible exact Junk.app _ _ _ _ _ | with_reducible apply Junk.alloc | with_reducible apply Junk.junk | with_reducible apply Junk.drew | with_reducible apply Junk.drewN | (with_reducible refine Junk.setCell ?_ (by simp) _))))) ?_; clear hK K; refine wpMixT_e rfl (fun osm1_1 dm1_1 K hK => ?_); (go_simp; try go_bits); refine hK _ _ (Junk.pair (by (first | exact jkc | repeat (first | with_reducible exact Junk.refl _ | with_reducible exact Junk.app _ _ _ _ _ | with_reducible apply Junk.alloc | with_reducible apply Junk.junk | with_reducible apply Junk.drew | with_reducible apply Junk.drewN | (with_reducible refine Junk.setCell ?_ (by simp) _))))) ?_; clear hK K; refine wpMixT_e rfl (fun osm1_2 dm1_2 K hK => ?_); (go_simp; try go_bits); refine hK _ _ (Junk.pair (by (first | exact jkc | repeat (first | with_reducible exact Junk.refl _ | with_reducible exact Junk.app _ _ _ _ _ | with_reducible apply Junk.alloc | with_reducible apply Junk.junk | with_reducible apply Junk.drew | with_reducible apply Junk.drewN | (with_reducible refine Junk.setCell ?_ (by simp) _))))) ?_; clear hK K; refine wpMixT_e rfl (fun osm1_3 dm1_3 K hK => ?_); (go_simp; try go_bits); refine hK _ _ (Junk.pair (by (first | exact jkc | repeat (first | with_reducible exact Junk.refl _ | with_reducible exact Junk.app _ _ _ _ _ | with_reducible apply Junk.alloc | with_reducible apply Junk.junk | with_reducible apply Junk.drew | with_reducible apply Junk.drewN | (with_reducible refine Junk.setCell ?_ (by simp) _))))) ?_; clear hK K; refine wpMixT_nil (fun osm dm => ?_); rotate_left; refine wpMixT_e rfl (fun osm1_4 dm1_4 K hK => ?_); (go_simp; try go_bits); refine hK _ _ (Junk.pair (by (first | exact jkc | repeat (first | with_reducible exact Junk.refl _ | with_reducible exact Junk.app _ _ _ _ _ | with_reducible apply Junk.alloc | with_reducible apply Junk.junk | with_reducible apply Junk.drew | with_reducible apply Junk.drewN | (with_reducible refine Junk.setCell ?_ (by simp) _))))) ?_; clear hK K; refine wpMixT_e rfl (fun osm1_5 dm1_5 K hK => ?_); (go_simp; try go_bits); refine hK _ _ (Junk.pair (by (first | exact jkc | repeat (first | with_reducible exact Junk.refl _ | with_reducible exact Junk.app _ _ _ _ _ | with_reducible apply Junk.alloc | with_reducible apply Junk.junk | with_reducible apply Junk.drew | with_reducible apply Junk.drewN | (with_reducible refine Junk.setCell ?_ (by simp) _))))) ?_; clear hK K; refine wpMixT_e rfl (fun osm1_6 dm1_6 K hK => ?_); (go_simp; try go_bits); refine hK _ _ (Junk.pair (by (first | exact jkc | repeat (first | with_reducible exact Junk.refl _ | with_reducible exact Junk.app _ _ _ _ _ | with_reducible apply Junk.alloc | with_reducible apply Junk.junk | with_reducible apply Junk.drew | with_reducible apply Junk.drewN | (with_reducible refine Junk.setCell ?_ (by simp) _))))) ?_; clear hK K; refine wpMixT_e rfl (fun osm1_7 dm1_7 K hK => ?_); (go_simp; try go_bits); refine hK _ _ (Junk.pair (by (first | exact jkc | repeat (first | with_reducible exact Junk.refl _ | with_reducible exact Junk.app _ _ _ _ _ | with_reducible apply Junk.alloc | with_reducible apply Junk.junk | with_reducible apply Junk.drew | with_reducible apply Junk.drewN | (with_reducible refine Junk.setCell ?_ (by simp) _))))) ?_; clear hK K; refine wpMixT_nil (fun osm dm => ?_)
  go_upto_region 2 with (fail)
  refine wp_genX (fun V => Junk w V ∧ V.cell? ⟨w.heap.size + 1 + 1 + osm1_4.size + 1 + osm1_5.size, 0, none⟩ = some (.int .i64 p.off) ∧ V.cell? ⟨w.heap.size + 1 + 1 + osm1_4.size, 0, none⟩ = some (.int .i64 (p.off + p.bl)) ∧ V.cell? ⟨w.heap.size, 17, none⟩ = some (.int .i64 b.total) ∧ V.cell? ⟨w.heap.size, 18, none⟩ = some (.slice b.ro n b.rc) ∧ V.cell? ⟨w.heap.size + 1, 3, none⟩ = some (.bool p.mf) ∧ w.heap.size + 1 + 1 + osm1_4.size + 1 + osm1_5.size < V.heap.size ∧ w.heap.size + 1 + 1 + osm1_4.size < V.heap.size ∧ w.heap.size + 1 < V.heap.size) ⟨by (exact jkc), by go_simp, by go_simp, by go_simp, by go_simp, by go_simp, by simp; try omega, by simp; try omega, by simp; try omega⟩ ?_
  generalize w.heap.size + 1 + 1 + osm1_4.size + 1 + osm1_5.size = gf
  generalize w.heap.size + 1 + 1 + osm1_4.size = gt
  rotate_left
  go_upto_region 2 with (fail)
  refine wp_genX (fun V => Junk w V ∧ V.cell? ⟨w.heap.size + 1 + 1 + osm1_0.size, 0, none⟩ = some (.int .i64 p.off) ∧ V.cell? ⟨w.heap.size + 1 + 1 + osm1_0.size + 1 + osm1_1.size, 0, none⟩ = some (.int .i64 (p.off + p.bl)) ∧ V.cell? ⟨w.heap.size, 17, none⟩ = some (.int .i64 b.total) ∧ V.cell? ⟨w.heap.size, 18, none⟩ = some (.slice b.ro n b.rc) ∧ V.cell? ⟨w.heap.size + 1, 3, none⟩ = some (.bool p.mf) ∧ w.heap.size + 1 + 1 + osm1_0.size < V.heap.size ∧ w.heap.size + 1 + 1 + osm1_0.size + 1 + osm1_1.size < V.heap.size ∧ w.heap.size + 1 < V.heap.size) ⟨by (exact jkc), by go_simp, by go_simp, by go_simp, by go_simp, by go_simp, by simp; try omega, by simp; try omega, by simp; try omega⟩ ?_
  generalize w.heap.size + 1 + 1 + osm1_0.size + 1 + osm1_1.size = gt
  generalize w.heap.size + 1 + 1 + osm1_0.size = gf
  all_goals
    rintro V ⟨hj, v0, v1, v2, v3, v4, s1, s2, s3⟩
    have HJ := Lib.hid hj
    have s4 : w.heap.size < V.heap.size := by omega
    obtain ⟨m, hm⟩ : ∃ m, p.mf = m := ⟨_, rfl⟩
    obtain ⟨R2, hR2⟩ : ∃ R2, b.q.runs.any (clashR p.off (p.off + p.bl) m) = R2 := ⟨_, rfl⟩
    have HE := Lib.hid (show R = ((decide (0 ≤ b.total) && (!m || decide (b.total < p.off + (p.bl : Int)))) || R2) from by rw [← HR.out, ← hR2, ← hm]; rfl)
    have HCL := Lib.hid (fun w1 (hj : Junk V w1) => show Calls Try.prog 49 #[.slice b.ro n b.rc, .func (.func 50) #[] #[.pointer (some ⟨gf, 0, none⟩), .pointer (some ⟨gt, 0, none⟩), .pointer (some ⟨w.heap.size + 1, 0, none⟩)]] w1 fun e w' => e = .returned (.bool R2) ∧ Junk w1 w' from by
      rw [← hR2]
      exact rcontR_any 50 _ b.ro n b.rc b.F (clashR p.off (p.off + p.bl) m) w1 hn6 HN.out (HO.out.on (HJ.out.trans hj)) (clo50_any gf gt (w.heap.size + 1) p.off (p.off + p.bl) m b.F w1 (Nat.lt_of_lt_of_le s1 hj.size) (Nat.lt_of_lt_of_le s2 hj.size) (Nat.lt_of_lt_of_le s3 hj.size) (cells_on v0 s1 hj) (cells_on v1 s2 hj) (by rw [← hm]; exact cells_on v4 s3 hj) HF.out) (fun _ _ => enter_fn Try.func50 (by kernel_rfl) rfl _ _))
    rw [hm] at v4
    clear hj hR2 hm
    by_cases e1 : 0 ≤ b.total
    · cases m
      · have HV := Lib.hid (show R = true from by rw [HE.out]; simp [e1])
        go_wp2
        go_ret
        exact ⟨by rw [HV.out]; rfl, HJ.out.trans (by (exact jkc))⟩
      · by_cases e2 : b.total < p.off + (p.bl : Int)
        · have HV := Lib.hid (show R = true from by rw [HE.out]; simp [e1, e2])
          go_wp2
          go_ret
          exact ⟨by rw [HV.out]; rfl, HJ.out.trans (by (exact jkc))⟩
        · have HV := Lib.hid (show R = R2 from by rw [HE.out]; simp [e1, e2])
          go_wp2_with (first | (go_at_call 49; (with_reducible refine (HCL.out _ (by (exact jkc))).mono ?_); rintro e w' ⟨rfl, ⟨osj, dj, rfl⟩⟩))
          go_ret
          exact ⟨by rw [HV.out]; rfl, HJ.out.trans (by (exact jkc))⟩
    · have HV := Lib.hid (show R = R2 from by rw [HE.out]; simp [e1])
      go_wp2_with (first | (go_at_call 49; (with_reducible refine (HCL.out _ (by (exact jkc))).mono ?_); rintro e w' ⟨rfl, ⟨osj, dj, rfl⟩⟩))
      go_ret
      exact ⟨by rw [HV.out]; rfl, HJ.out.trans (by (exact jkc))⟩
end Go.Proofs.Ytgjppmkadmfibaa
