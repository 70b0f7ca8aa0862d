/- nat.Ask: a new loan. -/
import Derived.Test.YtambpmbgfjefcaaNatF
import Derived.Deep.DeepCutAuto
set_option linter.unusedVariables false
set_option maxRecDepth 100000
set_option linter.unusedSimpArgs false
namespace Go.Proofs.Ytambpmbgfjefcaa
open Go.RowKit
theorem own_setBelow {B : Nat} {w : World} {e : TypeId} {size : Nat} {oa : Option Addr} {cap n : Nat} {xs : List Value} (h : Own B w e size oa cap n xs) {a : Addr} (ha : a.block < B) (v : Value) : Own B (w.setCell a v) e size oa cap n xs := ownsRow_setCell_below h ha v
theorem frozen_new (w : World) (c : Array Value) (t : TypeId) (os : Array Obj) (d i : Nat) : ((w.alloc (.cells c t)).junk os d).frozen? ⟨w.heap.size, i, none⟩ = false := by
  rw [World.frozen?_junk _ _ _ _ _ (by simp)]
  exact World.frozen?_alloc_new w c t i
set_option maxHeartbeats 4000000 in
theorem ask_new (lo hi : Int) (oa : Option Addr) (l c : Nat) (L : List Ln) (x : Ln) (D : Nat) (w : World) (hl : l ≤ 1000000) (hlc : l ≤ c) (hL : L.length = l) (hS : LsAt w oa L) (hn : oa = none → l = 0 ∧ c = 0) (h1 : natRight lo hi L = true) (h2 : namedB x = true) (hf : L.findIdx? (innerB x) = none) (hD : D < 4294967296) :
    Calls Try.prog 20 #[.slice oa l c, .int .i64 lo, .int .i64 hi, x.val, .int .u32 (D : Int)] w (AskM w (askP lo hi L x D)) := by
  obtain ⟨n, hnn⟩ : ∃ n, n = (takenL L x.proto).length := ⟨_, rfl⟩
  have hn9 : n ≤ 1000000 := by rw [hnn]; exact Nat.le_trans (takenL_le _ _) (by omega)
  obtain ⟨R1, hR1⟩ : ∃ R1, R1 = (poolChoose lo hi (fun i => (takenL L x.proto)[i]?.getD 0) n x.inport D).1 := ⟨_, rfl⟩
  obtain ⟨R2, hR2⟩ : ∃ R2, R2 = (poolChoose lo hi (fun i => (takenL L x.proto)[i]?.getD 0) n x.inport D).2 := ⟨_, rfl⟩
  have HR := Lib.hid (show askP lo hi L x D = if R2 then (L ++ [{ x with port := R1 }], R1, 0) else (L, 0, 8) by unfold askP; rw [if_neg (by simp [h1, h2]), hf]; simp only; rw [← hnn, ← hR1, ← hR2])
  obtain ⟨RR, hRR⟩ : ∃ RR, RR = askP lo hi L x D := ⟨_, rfl⟩
  rw [HR.out] at hRR
  have HRR := Lib.hid hRR
  rw [show askP lo hi L x D = RR by rw [hRR, HR.out]]
  clear hRR
  have chs : ∀ w1 ob cap, IntsAt w1 ob n .i64 (fun i => (takenL L x.proto)[i]?.getD 0) → Calls Try.prog 12 #[.int .i64 lo, .int .i64 hi, .slice ob n cap, .int .i64 x.inport, .int .u32 (D : Int)] w1 fun e w' => e = .returned (.tuple #[.int .i64 R1, .bool R2]) ∧ Junk w1 w' := fun w1 ob cap h => by
    rw [hR1, hR2]
    exact choose_any lo hi ob n cap _ x.inport D w1 (by omega) hD h
  have tk := fun w1 h => taken_any x.proto oa l c L w1 hl hL h
  rw [← hnn] at tk
  have HS := Lib.hid hS
  have HL := Lib.hid hL
  have HN := Lib.hid hn
  have rt := (fun w1 h1 => natRight_any lo hi oa l c L w1 hl hlc hL h1)
  have nm := (fun w1 => named_any x w1)
  rw [h1] at rt
  rw [h2] at nm
  have RT := Lib.hid rt
  have NM := Lib.hid nm
  have CH := Lib.hid chs
  have TK := Lib.hid tk
  have FI := Lib.hid (show idxI (L.findIdx? (innerB x)) = -1 by rw [hf]; rfl)
  obtain ⟨xp, xi, xn, xo, xt⟩ := x
  clear hS hL hn rt nm h1 h2 hf chs tk hR1 hR2 hnn
  go_enter Try.func20, Try.ntmps20
  go_wp2_with (first
    | (go_at_call 39; refine (cloneL_any oa l c L _ hl HL.out (HS.out.on (by ((try simp only [World.junk_junk, Array.append_assoc]); (repeat (first | with_reducible exact Junk.refl _ | with_reducible exact Junk.app _ _ _ _ _ | with_reducible exact Junk.app2 _ _ _ _ _ _ | with_reducible exact Junk.app3 _ _ _ _ _ _ _ | with_reducible exact Junk.app4 _ _ _ _ _ _ _ _ | with_reducible exact Junk.app5 _ _ _ _ _ _ _ _ _ | with_reducible apply Junk.alloc | with_reducible apply Junk.junk | with_reducible apply Junk.drew | with_reducible apply Junk.drewN))))) HN.out).mono ?_; rintro e w' ⟨ob, cap, rfl, ⟨osj, dj, rfl⟩, hown⟩; have Hown := Lib.hid hown; clear hown)
    | (go_at_call 19; refine (RT.out _ (HS.out.on (by ((try simp only [World.junk_junk, Array.append_assoc]); (repeat (first | with_reducible exact Junk.refl _ | with_reducible exact Junk.app _ _ _ _ _ | with_reducible exact Junk.app2 _ _ _ _ _ _ | with_reducible exact Junk.app3 _ _ _ _ _ _ _ | with_reducible exact Junk.app4 _ _ _ _ _ _ _ _ | with_reducible exact Junk.app5 _ _ _ _ _ _ _ _ _ | with_reducible apply Junk.alloc | with_reducible apply Junk.junk | with_reducible apply Junk.drew | with_reducible apply Junk.drewN)))))).mono ?_; rintro e w' ⟨rfl, ⟨osr, dr, rfl⟩⟩)
    | (go_at_call 34; refine (NM.out _).mono ?_; rintro e w' ⟨rfl, ⟨osn, dn, rfl⟩⟩)
    | (go_at_call 36; refine (find_inner ⟨xp, xi, xn, xo, xt⟩ ob l cap L _ hl HL.out ((own_ls Hown.out).on (by ((try simp only [World.junk_junk, Array.append_assoc]); (repeat (first | with_reducible exact Junk.refl _ | with_reducible exact Junk.app _ _ _ _ _ | with_reducible exact Junk.app2 _ _ _ _ _ _ | with_reducible exact Junk.app3 _ _ _ _ _ _ _ | with_reducible exact Junk.app4 _ _ _ _ _ _ _ _ | with_reducible exact Junk.app5 _ _ _ _ _ _ _ _ _ | with_reducible apply Junk.alloc | with_reducible apply Junk.junk | with_reducible apply Junk.drew | with_reducible apply Junk.drewN)))))).mono ?_; rintro e w' ⟨rfl, ⟨osf, df, rfl⟩⟩; rw [FI.out]))
  have hj : Junk w ((w.alloc (.cells #[.int .i64 xp, .int .u32 xi, .int .i64 xn, .int .i64 xo, .int .i64 xt] 39)).junk (osj ++ (osr ++ (osn ++ osf))) df) := by ((try simp only [World.junk_junk, Array.append_assoc]); (repeat (first | with_reducible exact Junk.refl _ | with_reducible exact Junk.app _ _ _ _ _ | with_reducible exact Junk.app2 _ _ _ _ _ _ | with_reducible exact Junk.app3 _ _ _ _ _ _ _ | with_reducible exact Junk.app4 _ _ _ _ _ _ _ _ | with_reducible exact Junk.app5 _ _ _ _ _ _ _ _ _ | with_reducible apply Junk.alloc | with_reducible apply Junk.junk | with_reducible apply Junk.drew | with_reducible apply Junk.drewN)))
  have ho : Own (w.heap.size + 1) ((w.alloc (.cells #[.int .i64 xp, .int .u32 xi, .int .i64 xn, .int .i64 xo, .int .i64 xt] 39)).junk (osj ++ (osr ++ (osn ++ osf))) df) 39 5 ob cap l (lnsL L) := (Hown.out.on (by ((try simp only [World.junk_junk, Array.append_assoc]); (repeat (first | with_reducible exact Junk.refl _ | with_reducible exact Junk.app _ _ _ _ _ | with_reducible exact Junk.app2 _ _ _ _ _ _ | with_reducible exact Junk.app3 _ _ _ _ _ _ _ | with_reducible exact Junk.app4 _ _ _ _ _ _ _ _ | with_reducible exact Junk.app5 _ _ _ _ _ _ _ _ _ | with_reducible apply Junk.alloc | with_reducible apply Junk.junk | with_reducible apply Junk.drew | with_reducible apply Junk.drewN))))).lower (by simp)
  have x0 : ((w.alloc (.cells #[.int .i64 xp, .int .u32 xi, .int .i64 xn, .int .i64 xo, .int .i64 xt] 39)).junk (osj ++ (osr ++ (osn ++ osf))) df).cell? ⟨w.heap.size, 0, none⟩ = some (.int .i64 xp) := by simp [go_sem]
  have x1 : ((w.alloc (.cells #[.int .i64 xp, .int .u32 xi, .int .i64 xn, .int .i64 xo, .int .i64 xt] 39)).junk (osj ++ (osr ++ (osn ++ osf))) df).cell? ⟨w.heap.size, 1, none⟩ = some (.int .u32 xi) := by simp [go_sem]
  have x2 : ((w.alloc (.cells #[.int .i64 xp, .int .u32 xi, .int .i64 xn, .int .i64 xo, .int .i64 xt] 39)).junk (osj ++ (osr ++ (osn ++ osf))) df).cell? ⟨w.heap.size, 2, none⟩ = some (.int .i64 xn) := by simp [go_sem]
  have x3 : ((w.alloc (.cells #[.int .i64 xp, .int .u32 xi, .int .i64 xn, .int .i64 xo, .int .i64 xt] 39)).junk (osj ++ (osr ++ (osn ++ osf))) df).cell? ⟨w.heap.size, 3, none⟩ = some (.int .i64 xo) := by simp [go_sem]
  have x4 : ((w.alloc (.cells #[.int .i64 xp, .int .u32 xi, .int .i64 xn, .int .i64 xo, .int .i64 xt] 39)).junk (osj ++ (osr ++ (osn ++ osf))) df).cell? ⟨w.heap.size, 4, none⟩ = some (.int .i64 xt) := by simp [go_sem]
  have hfz := frozen_new w #[.int .i64 xp, .int .u32 xi, .int .i64 xn, .int .i64 xo, .int .i64 xt] 39 (osj ++ (osr ++ (osn ++ osf))) df 3
  have hsz : w.heap.size < ((w.alloc (.cells #[.int .i64 xp, .int .u32 xi, .int .i64 xn, .int .i64 xo, .int .i64 xt] 39)).junk (osj ++ (osr ++ (osn ++ osf))) df).heap.size := by simp; omega
  generalize ((w.alloc (.cells #[.int .i64 xp, .int .u32 xi, .int .i64 xn, .int .i64 xo, .int .i64 xt] 39)).junk (osj ++ (osr ++ (osn ++ osf))) df) = V at hj ho x0 x1 x2 x3 x4 hsz hfz
  have HJ := Lib.hid hj
  have HO := Lib.hid ho
  clear hj ho Hown
  refine wp_region_mixj (V) [(0, true), (1, true), (2, true), (3, true), (4, true), (6, true), (7, true), (8, true), (5, false), (9, false), (10, true), (11, true), (12, true), (13, true), (14, true)] (by kernel_rfl) (by kernel_rfl) (by (repeat (first | with_reducible exact Junk.refl _ | with_reducible exact Junk.app _ _ _ _ _ | with_reducible apply Junk.alloc | with_reducible apply Junk.junk | with_reducible apply Junk.drew | with_reducible apply Junk.drewN))) ?_; (iterate 8 (refine wpMix_q rfl (fun K hK => ?_); (go_simp; try go_bits); (refine hK _ ?_; clear hK K))); refine wpMix_e rfl (fun osm8_0 dm8_0 K hK => ?_); (go_simp; try go_bits); (go_at_call 40; refine (TK.out _ (HS.out.on (HJ.out.trans (by ((try simp only [World.junk_junk, Array.append_assoc]); (repeat (first | with_reducible exact Junk.refl _ | with_reducible exact Junk.app _ _ _ _ _ | with_reducible exact Junk.app2 _ _ _ _ _ _ | with_reducible exact Junk.app3 _ _ _ _ _ _ _ | with_reducible exact Junk.app4 _ _ _ _ _ _ _ _ | with_reducible exact Junk.app5 _ _ _ _ _ _ _ _ _ | with_reducible apply Junk.alloc | with_reducible apply Junk.junk | with_reducible apply Junk.drew | with_reducible apply Junk.drewN))))))).mono ?_; rintro e w' ⟨ob2, cap2, rfl, ⟨osj2, dj2, rfl⟩, hown2⟩; rw [World.junk_junk] at hown2; have Hown2 := Lib.hid hown2; clear hown2); refine hK _ _ (Junk.pair (by (repeat (first | with_reducible exact Junk.refl _ | with_reducible exact Junk.app _ _ _ _ _ | with_reducible apply Junk.alloc | with_reducible apply Junk.junk | with_reducible apply Junk.drew | with_reducible apply Junk.drewN | (with_reducible refine Junk.setCell ?_ (by simp) _))))) ?_; clear hK K; refine wpMix_e rfl (fun osm8_1 dm8_1 K hK => ?_); (go_simp; try go_bits); (go_at_call 12; refine (CH.out _ _ _ (own_intAt (Hown2.out.on (by ((try simp only [World.junk_junk, Array.append_assoc]); (repeat (first | with_reducible exact Junk.refl _ | with_reducible exact Junk.app _ _ _ _ _ | with_reducible exact Junk.app2 _ _ _ _ _ _ | with_reducible exact Junk.app3 _ _ _ _ _ _ _ | with_reducible exact Junk.app4 _ _ _ _ _ _ _ _ | with_reducible exact Junk.app5 _ _ _ _ _ _ _ _ _ | with_reducible apply Junk.alloc | with_reducible apply Junk.junk | with_reducible apply Junk.drew | with_reducible apply Junk.drewN))))))).mono ?_; rintro e w' ⟨rfl, ⟨osj3, dj3, rfl⟩⟩); refine hK _ _ (Junk.pair (by (repeat (first | with_reducible exact Junk.refl _ | with_reducible exact Junk.app _ _ _ _ _ | with_reducible apply Junk.alloc | with_reducible apply Junk.junk | with_reducible apply Junk.drew | with_reducible apply Junk.drewN | (with_reducible refine Junk.setCell ?_ (by simp) _))))) ?_; clear hK K; (iterate 5 (refine wpMix_q rfl (fun K hK => ?_); (go_simp; try go_bits); (refine hK _ ?_; clear hK K))); refine wpMix_nil (fun osm dm => ?_)
  cases R2 with
  | false =>
    have HE := Lib.hid (show RR = (L, 0, 8) from HRR.out)
    go_wp2
    go_returns
    exact ⟨ob, cap, by rw [HE.out, show (L, (0 : Int), (8 : Int)).1.length = l from HL.out]; rfl, HJ.out.trans (by ((try simp only [World.junk_junk, Array.append_assoc]); (repeat (first | with_reducible exact Junk.refl _ | with_reducible exact Junk.app _ _ _ _ _ | with_reducible exact Junk.app2 _ _ _ _ _ _ | with_reducible exact Junk.app3 _ _ _ _ _ _ _ | with_reducible exact Junk.app4 _ _ _ _ _ _ _ _ | with_reducible exact Junk.app5 _ _ _ _ _ _ _ _ _ | with_reducible apply Junk.alloc | with_reducible apply Junk.junk | with_reducible apply Junk.drew | with_reducible apply Junk.drewN)))), by rw [HE.out, show (L, (0 : Int), (8 : Int)).1.length = l from HL.out]; exact (HO.out.on (by ((try simp only [World.junk_junk, Array.append_assoc]); (repeat (first | with_reducible exact Junk.refl _ | with_reducible exact Junk.app _ _ _ _ _ | with_reducible exact Junk.app2 _ _ _ _ _ _ | with_reducible exact Junk.app3 _ _ _ _ _ _ _ | with_reducible exact Junk.app4 _ _ _ _ _ _ _ _ | with_reducible exact Junk.app5 _ _ _ _ _ _ _ _ _ | with_reducible apply Junk.alloc | with_reducible apply Junk.junk | with_reducible apply Junk.drew | with_reducible apply Junk.drewN))))).lower (by omega), by rw [HE.out, show (L, (0 : Int), (8 : Int)).1.length = l from HL.out]; exact HO.out.capLe.1⟩
  | true =>
    have HE := Lib.hid (show RR = (L ++ [⟨xp, xi, xn, R1, xt⟩], R1, 0) from HRR.out)
    have hlen : (L ++ [(⟨xp, xi, xn, R1, xt⟩ : Ln)]).length = l + 1 := by rw [List.length_append, HL.out]; rfl
    go_upto_region 12 with (fail)
    have hj2 : Junk w (V.setCell ⟨w.heap.size, 3, none⟩ (.int .i64 R1)) := HJ.out.setCell (Nat.le_refl _) _
    have ho2 : Own (w.heap.size + 1) (V.setCell ⟨w.heap.size, 3, none⟩ (.int .i64 R1)) 39 5 ob cap l (lnsL L) := own_setBelow HO.out (by simp) _
    have y0 : (V.setCell ⟨w.heap.size, 3, none⟩ (.int .i64 R1)).cell? ⟨w.heap.size, 0, none⟩ = some (.int .i64 xp) := by rw [World.cell?_setCell_other _ _ _ _ (by simp)]; exact x0
    have y1 : (V.setCell ⟨w.heap.size, 3, none⟩ (.int .i64 R1)).cell? ⟨w.heap.size, 1, none⟩ = some (.int .u32 xi) := by rw [World.cell?_setCell_other _ _ _ _ (by simp)]; exact x1
    have y2 : (V.setCell ⟨w.heap.size, 3, none⟩ (.int .i64 R1)).cell? ⟨w.heap.size, 2, none⟩ = some (.int .i64 xn) := by rw [World.cell?_setCell_other _ _ _ _ (by simp)]; exact x2
    have y3 : (V.setCell ⟨w.heap.size, 3, none⟩ (.int .i64 R1)).cell? ⟨w.heap.size, 3, none⟩ = some (.int .i64 R1) := World.cell?_setCell_same _ _ _ x3
    have y4 : (V.setCell ⟨w.heap.size, 3, none⟩ (.int .i64 R1)).cell? ⟨w.heap.size, 4, none⟩ = some (.int .i64 xt) := by rw [World.cell?_setCell_other _ _ _ _ (by simp)]; exact x4
    have hs2 : w.heap.size < (V.setCell ⟨w.heap.size, 3, none⟩ (.int .i64 R1)).heap.size := by simpa using hsz
    generalize V.setCell ⟨w.heap.size, 3, none⟩ (.int .i64 R1) = V2 at hj2 ho2 y0 y1 y2 y3 y4 hs2
    have HJ2 := Lib.hid hj2
    have HO2 := Lib.hid ho2
    clear hj2 ho2 HJ HO x0 x1 x2 x3 x4 hsz hfz
    go_wp2_with (at_builtin; (refine ap_own (W0 := w) rfl _ _ 37 rfl 39 (.agg #[.int .i64 0, .int .u32 0, .int .i64 0, .int .i64 0, .int .i64 0]) 5 40 (by kernel_rfl) rfl (by decide) Try.underlying37 (HJ2.out.trans (by ((try simp only [World.junk_junk, Array.append_assoc]); (repeat (first | with_reducible exact Junk.refl _ | with_reducible exact Junk.app _ _ _ _ _ | with_reducible exact Junk.app2 _ _ _ _ _ _ | with_reducible exact Junk.app3 _ _ _ _ _ _ _ | with_reducible exact Junk.app4 _ _ _ _ _ _ _ _ | with_reducible exact Junk.app5 _ _ _ _ _ _ _ _ _ | with_reducible apply Junk.alloc | with_reducible apply Junk.junk | with_reducible apply Junk.drew | with_reducible apply Junk.drewN))))) ob cap l (lnsL L) rfl ((HO2.out.on (by ((try simp only [World.junk_junk, Array.append_assoc]); (repeat (first | with_reducible exact Junk.refl _ | with_reducible exact Junk.app _ _ _ _ _ | with_reducible exact Junk.app2 _ _ _ _ _ _ | with_reducible exact Junk.app3 _ _ _ _ _ _ _ | with_reducible exact Junk.app4 _ _ _ _ _ _ _ _ | with_reducible exact Junk.app5 _ _ _ _ _ _ _ _ _ | with_reducible apply Junk.alloc | with_reducible apply Junk.junk | with_reducible apply Junk.drew | with_reducible apply Junk.drewN))))).lower (by omega)) _ 1 1 rfl (Ln.cells ⟨xp, xi, xn, R1, xt⟩) rfl (built_cells (by simp)) (fun h => by cases h) (Ln.one _) (by simp only [maxLen]; omega) (by omega) ?_; intro oa' cap' os' d' hown' _; rw [lnsL_one] at hown'; have Hown3 := Lib.hid hown'; clear hown'))
    go_returns
    exact ⟨oa', cap', by rw [HE.out, show (L ++ [(⟨xp, xi, xn, R1, xt⟩ : Ln)], R1, (0 : Int)).1.length = l + 1 from hlen]; rfl, by ((try simp only [World.junk_junk, Array.append_assoc]); (repeat (first | with_reducible exact Junk.refl _ | with_reducible exact Junk.app _ _ _ _ _ | with_reducible exact Junk.app2 _ _ _ _ _ _ | with_reducible exact Junk.app3 _ _ _ _ _ _ _ | with_reducible exact Junk.app4 _ _ _ _ _ _ _ _ | with_reducible exact Junk.app5 _ _ _ _ _ _ _ _ _ | with_reducible apply Junk.alloc | with_reducible apply Junk.junk | with_reducible apply Junk.drew | with_reducible apply Junk.drewN))), by rw [HE.out, show (L ++ [(⟨xp, xi, xn, R1, xt⟩ : Ln)], R1, (0 : Int)).1.length = l + 1 from hlen]; exact Hown3.out, by rw [HE.out, show (L ++ [(⟨xp, xi, xn, R1, xt⟩ : Ln)], R1, (0 : Int)).1.length = l + 1 from hlen]; exact Hown3.out.capLe.1⟩
theorem ask_any (lo hi : Int) (oa : Option Addr) (l c : Nat) (L : List Ln) (x : Ln) (D : Nat) (w : World) (hl : l ≤ 1000000) (hlc : l ≤ c) (hL : L.length = l) (hS : LsAt w oa L) (hn : oa = none → l = 0 ∧ c = 0) (hD : D < 4294967296) :
    Calls Try.prog 20 #[.slice oa l c, .int .i64 lo, .int .i64 hi, x.val, .int .u32 (D : Int)] w (AskM w (askP lo hi L x D)) := by
  cases hb : natRight lo hi L && namedB x with
  | false => exact ask_bad lo hi oa l c L x D w hl hlc hL hS hn hb
  | true =>
    simp only [Bool.and_eq_true] at hb
    cases hf : L.findIdx? (innerB x) with
    | none => exact ask_new lo hi oa l c L x D w hl hlc hL hS hn hb.1 hb.2 hf hD
    | some k => exact ask_old lo hi oa l c L x D k w hl hlc hL hS hn hb.1 hb.2 hf
end Go.Proofs.Ytambpmbgfjefcaa
