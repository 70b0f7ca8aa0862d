/- slices.DeleteFunc over loans; nat.Tick. -/
import Derived.Test.YtambpmbgfjefcaaNatJ
import Derived.Deep.DeepCutAuto
set_option linter.unusedVariables false
set_option maxRecDepth 100000
set_option linter.unusedSimpArgs false
namespace Go.Proofs.Ytambpmbgfjefcaa
open Go.RowKit
def DelM (W0 : World) (R : List Ln) (e : Ending) (w' : World) : Prop :=
  ∃ ob cap, e = .returned (.slice ob R.length cap) ∧ Junk W0 w' ∧ Own W0.heap.size w' 39 5 ob cap R.length (lnsL R)
theorem run_clear_rows {P : Program} (w : World) (t e ty : TypeId) (z : Value) (ht : P.underlying t = some (.slice e)) (hv : ∀ w, (zeroValue e).run P w = .ok z w) (size : Nat) (hz : z.cells.size = size) (hs : 0 < size) (h1 : ∀ v ∈ z.cells.toList, v.oneCell' = true) (b o n c : Nat) (hn : 0 < n)
    (hc : ∀ j, j < n * size → (w.cell? ⟨b, o + j, none⟩).isSome = true) (hf : ∀ j, j < n * size → w.frozen? ⟨b, o + j, none⟩ = false) :
    ∃ vs, vs.length = n * size ∧ (Builtin.clear_ #[t] ty #[.slice (some ⟨b, o, none⟩) n c]).run P w = .ok (.tuple #[]) (w.setCells b o vs) := by
  have hl : (Builtin.zeroCells z.cells n).toList.length = n * size := by simp [Builtin.zeroCells, hz]
  have hone : ∀ v ∈ (Builtin.zeroCells z.cells n).toList, v.oneCell' = true := by
    intro v hv'
    simp only [Builtin.zeroCells, Array.toList_map, List.mem_map] at hv'
    obtain ⟨i, _, rfl⟩ := hv'
    have hi : i % z.cells.size < z.cells.size := Nat.mod_lt _ (by omega)
    rw [getElem!_pos z.cells _ hi]
    exact h1 _ (by simp)
  refine ⟨(Builtin.zeroCells z.cells n).toList, hl, ?_⟩
  have hst := run_storeCells_cells (P := P) b o (Builtin.zeroCells z.cells n).toList 0 w (by rw [hl]; simpa using hc) (by rw [hl]; simpa using hf) hone
  simp only [Nat.add_zero] at hst
  obtain ⟨m, rfl⟩ : ∃ m, n = m + 1 := ⟨n - 1, by omega⟩
  simp [Builtin.clear_, run_underlying ht, hv, hst]
theorem junk_setCells {W0 : World} {g : Nat} : ∀ (vs : List Value) (o : Nat) {w : World}, Junk W0 w → W0.heap.size ≤ g → Junk W0 (w.setCells g o vs)
  | [], o, w, h, hg => h
  | v :: r, o, w, h, hg => junk_setCells r (o + 1) (h.setCell (a := ⟨g, o, none⟩) hg v) hg
set_option maxHeartbeats 4000000 in
theorem del_none (oa : Option Addr) (l cap : Nat) (L : List Ln) (pr : Ln → Bool) (v1 : Value) (W0 w : World) (hl : l ≤ 1000000) (hL : L.length = l) (hj : Junk W0 w) (ho : Own W0.heap.size w 39 5 oa cap l (lnsL L))
    (hf : ∀ w1, Junk W0 w1 → ∀ x, Calls Try.prog 44 #[x.val, v1] w1 fun e w' => e = .returned (.bool (pr x)) ∧ Junk w1 w') (hi : L.findIdx? pr = none) :
    Calls Try.prog 43 #[.slice oa l cap, .func (.func 44) #[] #[v1]] w (DelM W0 (L.filter fun x => !pr x)) := by
  have hR : L.filter (fun x => !pr x) = L := by
    rw [List.filter_eq_self]
    intro x hx
    have := List.findIdx?_eq_none_iff.1 hi x hx
    simp [this]
  rw [hR]
  have HO := Lib.hid ho
  have HJ := Lib.hid hj
  have HF := Lib.hid hf
  have HL := Lib.hid hL
  have HI := Lib.hid (show idxI (L.findIdx? pr) = -1 by rw [hi]; rfl)
  clear hj ho hf hR hi hL
  go_enter Try.func43, Try.ntmps43
  go_wp2_with (first
    | (go_at_call 45; refine (indexT_any oa l cap L pr v1 _ hl HL.out (own_ls HO.out) (fun w1 h1 x => HF.out w1 (HJ.out.trans h1) x)).mono ?_; rintro e w' ⟨rfl, ⟨osj, dj, rfl⟩⟩; rw [HI.out]))
  go_ret
  exact ⟨oa, cap, by rw [HL.out]; rfl, HJ.out.trans (by ((try simp only [World.junk_junk, Array.append_assoc]); (repeat (first | with_reducible exact Junk.refl _ | with_reducible exact Junk.app _ _ _ _ _ | with_reducible exact Junk.app2 _ _ _ _ _ _ | with_reducible exact Junk.app3 _ _ _ _ _ _ _ | with_reducible exact Junk.app4 _ _ _ _ _ _ _ _ | with_reducible exact Junk.app5 _ _ _ _ _ _ _ _ _ | with_reducible apply Junk.alloc | with_reducible apply Junk.junk | with_reducible apply Junk.drew | with_reducible apply Junk.drewN)))), by rw [HL.out]; exact HO.out.on (by ((try simp only [World.junk_junk, Array.append_assoc]); (repeat (first | with_reducible exact Junk.refl _ | with_reducible exact Junk.app _ _ _ _ _ | with_reducible exact Junk.app2 _ _ _ _ _ _ | with_reducible exact Junk.app3 _ _ _ _ _ _ _ | with_reducible exact Junk.app4 _ _ _ _ _ _ _ _ | with_reducible exact Junk.app5 _ _ _ _ _ _ _ _ _ | with_reducible apply Junk.alloc | with_reducible apply Junk.junk | with_reducible apply Junk.drew | with_reducible apply Junk.drewN))))⟩
set_option maxHeartbeats 4000000 in
theorem del_some (oa : Option Addr) (l cap k : Nat) (L : List Ln) (pr : Ln → Bool) (v1 : Value) (W0 w : World) (hl : l ≤ 1000000) (hL : L.length = l) (hj : Junk W0 w) (ho : Own W0.heap.size w 39 5 oa cap l (lnsL L))
    (hf : ∀ w1, Junk W0 w1 → ∀ x, Calls Try.prog 44 #[x.val, v1] w1 fun e w' => e = .returned (.bool (pr x)) ∧ Junk w1 w') (hi : L.findIdx? pr = some k) :
    Calls Try.prog 43 #[.slice oa l cap, .func (.func 44) #[] #[v1]] w (DelM W0 (L.filter fun x => !pr x)) := by
  have hk : k < l := by rw [← hL]; exact findIdx_lt k hi
  have hlc : l ≤ cap := ho.capLe.1
  obtain ⟨g, rfl⟩ := own_at0 ho (by omega)
  have HO := Lib.hid ho
  have HJ := Lib.hid hj
  have HF := Lib.hid hf
  have HL := Lib.hid hL
  have HI := Lib.hid (show idxI (L.findIdx? pr) = (k : Int) by rw [hi]; rfl)
  have HST := Lib.hid (DelInv.start (x := Ln.zero) hi)
  have hne : ((k : Int) == -1) = false := by simp
  have hK : (k : Int) < (l : Int) := by omega
  clear hj ho hf hi hL
  go_enter Try.func43, Try.ntmps43
  go_wp2_with (first
    | (go_at_call 45; refine (indexT_any _ l cap L pr v1 _ hl HL.out (own_ls HO.out) (fun w1 h1 x => HF.out w1 (HJ.out.trans h1) x)).mono ?_; rintro e w' ⟨rfl, ⟨osj, dj, rfl⟩⟩; rw [HI.out]))
  go_loopw [5, 6] (fun i j wr => ∃ (a b : Nat) (M : List Ln), i = .int .i64 (a : Int) ∧ j = .int .i64 (b : Int) ∧ Junk W0 wr ∧ Own W0.heap.size wr 39 5 (some ⟨g, 0, none⟩) cap l (lnsL M) ∧ Hid (DelInv L M pr a b) ∧ a < b ∧ b ≤ l) (fun _ j _ => l + 1 - (intOf j).toNat)
  case atStart => exact ⟨k, k + 1, L, rfl, by go_num, HJ.out.trans (by ((try simp only [World.junk_junk, Array.append_assoc]); (repeat (first | with_reducible exact Junk.refl _ | with_reducible exact Junk.app _ _ _ _ _ | with_reducible exact Junk.app2 _ _ _ _ _ _ | with_reducible exact Junk.app3 _ _ _ _ _ _ _ | with_reducible exact Junk.app4 _ _ _ _ _ _ _ _ | with_reducible exact Junk.app5 _ _ _ _ _ _ _ _ _ | with_reducible apply Junk.alloc | with_reducible apply Junk.junk | with_reducible apply Junk.drew | with_reducible apply Junk.drewN)))), HO.out.on (by ((try simp only [World.junk_junk, Array.append_assoc]); (repeat (first | with_reducible exact Junk.refl _ | with_reducible exact Junk.app _ _ _ _ _ | with_reducible exact Junk.app2 _ _ _ _ _ _ | with_reducible exact Junk.app3 _ _ _ _ _ _ _ | with_reducible exact Junk.app4 _ _ _ _ _ _ _ _ | with_reducible exact Junk.app5 _ _ _ _ _ _ _ _ _ | with_reducible apply Junk.alloc | with_reducible apply Junk.junk | with_reducible apply Junk.drew | with_reducible apply Junk.drewN)))), HST, by omega, by omega⟩
  case round =>
    obtain ⟨a, b, M, rfl, rfl, ⟨os, d, rfl⟩, hown, hI, hab, hb⟩ := hrel
    by_cases hbl : b < l
    · have hb2 : (b : Int) < (l : Int) := by omega
      have ha2 : (a : Int) < (l : Int) := by omega
      obtain ⟨x, hx⟩ : ∃ x, L[b]? = some x := ⟨_, List.getElem?_eq_getElem (by rw [HL.out]; exact hbl)⟩
      obtain ⟨b', off', he', hg, c0, c1, c2, c3, c4⟩ := own_ls hown b x (by rw [hI.out.at_]; exact hx)
      cases he'
      rw [Nat.zero_add] at c0 c1 c2 c3 c4
      have Hown := Lib.hid hown
      have HX := Lib.hid hx
      clear hown hx
      cases hp : pr x with
      | true =>
        have HI2 := Lib.hid (hI.out.skip HX.out hp)
        generalize hV : W0.junk os d = V at hg c0 c1 c2 c3 c4 Hown
        have HV := Lib.hid (show Junk W0 V by rw [← hV]; ((try simp only [World.junk_junk, Array.append_assoc]); (repeat (first | with_reducible exact Junk.refl _ | with_reducible exact Junk.app _ _ _ _ _ | with_reducible exact Junk.app2 _ _ _ _ _ _ | with_reducible exact Junk.app3 _ _ _ _ _ _ _ | with_reducible exact Junk.app4 _ _ _ _ _ _ _ _ | with_reducible exact Junk.app5 _ _ _ _ _ _ _ _ _ | with_reducible apply Junk.alloc | with_reducible apply Junk.junk | with_reducible apply Junk.drew | with_reducible apply Junk.drewN))))
        clear hV
        go_wp2_with (first | (go_at_call 44; refine (HF.out _ (HV.out.trans (by ((try simp only [World.junk_junk, Array.append_assoc]); (repeat (first | with_reducible exact Junk.refl _ | with_reducible exact Junk.app _ _ _ _ _ | with_reducible exact Junk.app2 _ _ _ _ _ _ | with_reducible exact Junk.app3 _ _ _ _ _ _ _ | with_reducible exact Junk.app4 _ _ _ _ _ _ _ _ | with_reducible exact Junk.app5 _ _ _ _ _ _ _ _ _ | with_reducible apply Junk.alloc | with_reducible apply Junk.junk | with_reducible apply Junk.drew | with_reducible apply Junk.drewN))))) x).mono ?_; rintro e w' ⟨rfl, ⟨osj2, dj2, rfl⟩⟩; rw [hp]))
        exact ⟨⟨a, b + 1, M, rfl, by go_num, HV.out.trans (by ((try simp only [World.junk_junk, Array.append_assoc]); (repeat (first | with_reducible exact Junk.refl _ | with_reducible exact Junk.app _ _ _ _ _ | with_reducible exact Junk.app2 _ _ _ _ _ _ | with_reducible exact Junk.app3 _ _ _ _ _ _ _ | with_reducible exact Junk.app4 _ _ _ _ _ _ _ _ | with_reducible exact Junk.app5 _ _ _ _ _ _ _ _ _ | with_reducible apply Junk.alloc | with_reducible apply Junk.junk | with_reducible apply Junk.drew | with_reducible apply Junk.drewN)))), Hown.out.on (by ((try simp only [World.junk_junk, Array.append_assoc]); (repeat (first | with_reducible exact Junk.refl _ | with_reducible exact Junk.app _ _ _ _ _ | with_reducible exact Junk.app2 _ _ _ _ _ _ | with_reducible exact Junk.app3 _ _ _ _ _ _ _ | with_reducible exact Junk.app4 _ _ _ _ _ _ _ _ | with_reducible exact Junk.app5 _ _ _ _ _ _ _ _ _ | with_reducible apply Junk.alloc | with_reducible apply Junk.junk | with_reducible apply Junk.drew | with_reducible apply Junk.drewN)))), HI2, by omega, by omega⟩, by simp [intOf]; omega⟩
      | false =>
        have HI2 := Lib.hid (hI.out.keep hab HX.out hp)
        generalize hV : W0.junk os d = V at hg c0 c1 c2 c3 c4 Hown
        have HV := Lib.hid (show Junk W0 V by rw [← hV]; ((try simp only [World.junk_junk, Array.append_assoc]); (repeat (first | with_reducible exact Junk.refl _ | with_reducible exact Junk.app _ _ _ _ _ | with_reducible exact Junk.app2 _ _ _ _ _ _ | with_reducible exact Junk.app3 _ _ _ _ _ _ _ | with_reducible exact Junk.app4 _ _ _ _ _ _ _ _ | with_reducible exact Junk.app5 _ _ _ _ _ _ _ _ _ | with_reducible apply Junk.alloc | with_reducible apply Junk.junk | with_reducible apply Junk.drew | with_reducible apply Junk.drewN))))
        clear hV
        obtain ⟨xp, xi, xn, xo, xt⟩ := x
        go_upto_region 9 with (first | (go_at_call 44; refine (HF.out _ (HV.out.trans (by ((try simp only [World.junk_junk, Array.append_assoc]); (repeat (first | with_reducible exact Junk.refl _ | with_reducible exact Junk.app _ _ _ _ _ | with_reducible exact Junk.app2 _ _ _ _ _ _ | with_reducible exact Junk.app3 _ _ _ _ _ _ _ | with_reducible exact Junk.app4 _ _ _ _ _ _ _ _ | with_reducible exact Junk.app5 _ _ _ _ _ _ _ _ _ | with_reducible apply Junk.alloc | with_reducible apply Junk.junk | with_reducible apply Junk.drew | with_reducible apply Junk.drewN))))) ⟨xp, xi, xn, xo, xt⟩).mono ?_; rintro e w' ⟨rfl, ⟨osj2, dj2, rfl⟩⟩; rw [hp]))
        have x0 : ((V.alloc (.cells #[.int .i64 xp, .int .u32 xi, .int .i64 xn, .int .i64 xo, .int .i64 xt] 39)).junk osj2 dj2).cell? ⟨V.heap.size, 0, none⟩ = some (.int .i64 xp) := by simp [go_sem]
        have x1 : ((V.alloc (.cells #[.int .i64 xp, .int .u32 xi, .int .i64 xn, .int .i64 xo, .int .i64 xt] 39)).junk osj2 dj2).cell? ⟨V.heap.size, 1, none⟩ = some (.int .u32 xi) := by simp [go_sem]
        have x2 : ((V.alloc (.cells #[.int .i64 xp, .int .u32 xi, .int .i64 xn, .int .i64 xo, .int .i64 xt] 39)).junk osj2 dj2).cell? ⟨V.heap.size, 2, none⟩ = some (.int .i64 xn) := by simp [go_sem]
        have x3 : ((V.alloc (.cells #[.int .i64 xp, .int .u32 xi, .int .i64 xn, .int .i64 xo, .int .i64 xt] 39)).junk osj2 dj2).cell? ⟨V.heap.size, 3, none⟩ = some (.int .i64 xo) := by simp [go_sem]
        have x4 : ((V.alloc (.cells #[.int .i64 xp, .int .u32 xi, .int .i64 xn, .int .i64 xo, .int .i64 xt] 39)).junk osj2 dj2).cell? ⟨V.heap.size, 4, none⟩ = some (.int .i64 xt) := by simp [go_sem]
        have hj3 : Junk W0 ((V.alloc (.cells #[.int .i64 xp, .int .u32 xi, .int .i64 xn, .int .i64 xo, .int .i64 xt] 39)).junk osj2 dj2) := HV.out.trans (by ((try simp only [World.junk_junk, Array.append_assoc]); (repeat (first | with_reducible exact Junk.refl _ | with_reducible exact Junk.app _ _ _ _ _ | with_reducible exact Junk.app2 _ _ _ _ _ _ | with_reducible exact Junk.app3 _ _ _ _ _ _ _ | with_reducible exact Junk.app4 _ _ _ _ _ _ _ _ | with_reducible exact Junk.app5 _ _ _ _ _ _ _ _ _ | with_reducible apply Junk.alloc | with_reducible apply Junk.junk | with_reducible apply Junk.drew | with_reducible apply Junk.drewN))))
        have ho3 : Own W0.heap.size ((V.alloc (.cells #[.int .i64 xp, .int .u32 xi, .int .i64 xn, .int .i64 xo, .int .i64 xt] 39)).junk osj2 dj2) 39 5 (some ⟨g, 0, none⟩) cap l (lnsL M) := Hown.out.on (by ((try simp only [World.junk_junk, Array.append_assoc]); (repeat (first | with_reducible exact Junk.refl _ | with_reducible exact Junk.app _ _ _ _ _ | with_reducible exact Junk.app2 _ _ _ _ _ _ | with_reducible exact Junk.app3 _ _ _ _ _ _ _ | with_reducible exact Junk.app4 _ _ _ _ _ _ _ _ | with_reducible exact Junk.app5 _ _ _ _ _ _ _ _ _ | with_reducible apply Junk.alloc | with_reducible apply Junk.junk | with_reducible apply Junk.drew | with_reducible apply Junk.drewN))))
        have hg3 : g < ((V.alloc (.cells #[.int .i64 xp, .int .u32 xi, .int .i64 xn, .int .i64 xo, .int .i64 xt] 39)).junk osj2 dj2).heap.size := by simp; omega
        generalize ((V.alloc (.cells #[.int .i64 xp, .int .u32 xi, .int .i64 xn, .int .i64 xo, .int .i64 xt] 39)).junk osj2 dj2) = V3 at x0 x1 x2 x3 x4 hj3 ho3 hg3
        have haM : a < M.length := by rw [hI.out.len, HL.out]; omega
        have HO4 := Lib.hid (own_put ⟨xp, xi, xn, xo, xt⟩ ho3 haM)
        have HJ4 := Lib.hid (fun j v => hj3.setCell (a := ⟨g, j, none⟩) (own_ge ho3) v)
        have w0 := World.ownsRow.frozenAt ho3 (a * 5)
        have w1 := World.ownsRow.frozenAt ho3 (a * 5 + 1)
        have w2 := World.ownsRow.frozenAt ho3 (a * 5 + 2)
        have w3 := World.ownsRow.frozenAt ho3 (a * 5 + 3)
        have w4 := World.ownsRow.frozenAt ho3 (a * 5 + 4)
        obtain ⟨b3, off3, he3, _, z0, z1, z2, z3, z4⟩ := own_ls ho3 a M[a] (List.getElem?_eq_getElem haM)
        cases he3
        rw [Nat.zero_add] at z0 z1 z2 z3 z4
        have HGE := Lib.hid (own_ge ho3)
        have HJ3 := Lib.hid hj3
        clear hj3 ho3 c0 c1 c2 c3 c4 hg
        go_wp2
        exact ⟨⟨a + 1, b + 1, M.set a ⟨xp, xi, xn, xo, xt⟩, by go_num, by go_num, ((((HJ3.out.setCell HGE.out _).setCell HGE.out _).setCell HGE.out _).setCell HGE.out _).setCell HGE.out _, HO4.out, HI2, by omega, by omega⟩, by simp [intOf]; omega⟩
    · have hb2 : ¬ (b : Int) < (l : Int) := by omega
      obtain rfl : b = l := by omega
      have Hown := Lib.hid hown
      generalize hV : W0.junk os d = V at hown Hown
      have HV := Lib.hid (show Junk W0 V by rw [← hV]; ((try simp only [World.junk_junk, Array.append_assoc]); (repeat (first | with_reducible exact Junk.refl _ | with_reducible exact Junk.app _ _ _ _ _ | with_reducible exact Junk.app2 _ _ _ _ _ _ | with_reducible exact Junk.app3 _ _ _ _ _ _ _ | with_reducible exact Junk.app4 _ _ _ _ _ _ _ _ | with_reducible exact Junk.app5 _ _ _ _ _ _ _ _ _ | with_reducible apply Junk.alloc | with_reducible apply Junk.junk | with_reducible apply Junk.drew | with_reducible apply Junk.drewN))))
      clear hV
      have hML : M.length = b := by rw [hI.out.len, HL.out]
      have HR := Lib.hid (show M.take a = L.filter (fun x => !pr x) by rw [hI.out.front, ← HL.out, List.take_length])
      have ha2 : (a : Int) ≤ (b : Int) := by omega
      have hac : ¬ cap = a := by omega
      have hac2 : (a : Int) ≤ (cap : Int) := by omega
      have hcl : ∀ ty, ∃ vs, vs.length = (b - a) * 5 ∧ (Builtin.clear_ #[37] ty #[.slice (some ⟨g, a * 5, none⟩) (b - a) (cap - a)]).run Try.prog V = .ok (.tuple #[]) (V.setCells g (a * 5) vs) := fun ty =>
        run_clear_rows V 37 39 ty (.agg #[.int .i64 0, .int .u32 0, .int .i64 0, .int .i64 0, .int .i64 0]) Try.underlying37 (fun w => by kernel_rfl) 5 rfl (by decide) (by decide) g (a * 5) (b - a) (cap - a) (by omega)
          (fun j hj => by
            rw [World.ownsRow.cellAt hown (a * 5 + j) (by omega), List.getElem?_eq_getElem (by rw [lnsL_len, hML]; omega)]
            rfl)
          (fun j hj => World.ownsRow.frozenAt hown _)
      obtain ⟨vs, hvs, hcl⟩ := hcl 0
      obtain ⟨ys, hy1, hy2⟩ := own_setCells vs (a * 5) V _ hown
      have HO5 := Lib.hid (show Own W0.heap.size (V.setCells g (a * 5) vs) 39 5 (some ⟨g, 0, none⟩) cap a (lnsL (M.take a)) by
        have := own_shrink hy1 a (by omega)
        rw [hy2, lnsL_take] at this
        exact this)
      have HJ5 := Lib.hid (junk_setCells vs (a * 5) HV.out (own_ge hown))
      clear hown hy1 hy2 hvs ys
      generalize V.setCells g (a * 5) vs = V5 at hcl HO5 HJ5
      have hRl : (L.filter fun x => !pr x).length = a := by rw [← HR.out, List.length_take, hML]; omega
      have ha3 : a ≤ cap := by omega
      have ha4 : (a : Int) ≤ (cap : Int) := by omega
      have HRL := Lib.hid hRl
      clear hRl
      go_wp2
      go_ret
      exact ⟨some ⟨g, 0, none⟩, cap, by rw [HRL.out]; rfl, HJ5.out.trans (by ((try simp only [World.junk_junk, Array.append_assoc]); (repeat (first | with_reducible exact Junk.refl _ | with_reducible exact Junk.app _ _ _ _ _ | with_reducible exact Junk.app2 _ _ _ _ _ _ | with_reducible exact Junk.app3 _ _ _ _ _ _ _ | with_reducible exact Junk.app4 _ _ _ _ _ _ _ _ | with_reducible exact Junk.app5 _ _ _ _ _ _ _ _ _ | with_reducible apply Junk.alloc | with_reducible apply Junk.junk | with_reducible apply Junk.drew | with_reducible apply Junk.drewN)))), by rw [HRL.out, ← HR.out]; exact HO5.out.on (by ((try simp only [World.junk_junk, Array.append_assoc]); (repeat (first | with_reducible exact Junk.refl _ | with_reducible exact Junk.app _ _ _ _ _ | with_reducible exact Junk.app2 _ _ _ _ _ _ | with_reducible exact Junk.app3 _ _ _ _ _ _ _ | with_reducible exact Junk.app4 _ _ _ _ _ _ _ _ | with_reducible exact Junk.app5 _ _ _ _ _ _ _ _ _ | with_reducible apply Junk.alloc | with_reducible apply Junk.junk | with_reducible apply Junk.drew | with_reducible apply Junk.drewN))))⟩
theorem delete_any (oa : Option Addr) (l cap : Nat) (L : List Ln) (pr : Ln → Bool) (v1 : Value) (W0 w : World) (hl : l ≤ 1000000) (hL : L.length = l) (hj : Junk W0 w) (ho : Own W0.heap.size w 39 5 oa cap l (lnsL L))
    (hf : ∀ w1, Junk W0 w1 → ∀ x, Calls Try.prog 44 #[x.val, v1] w1 fun e w' => e = .returned (.bool (pr x)) ∧ Junk w1 w') :
    Calls Try.prog 43 #[.slice oa l cap, .func (.func 44) #[] #[v1]] w (DelM W0 (L.filter fun x => !pr x)) := by
  cases hi : L.findIdx? pr with
  | none => exact del_none oa l cap L pr v1 W0 w hl hL hj ho hf hi
  | some k => exact del_some oa l cap k L pr v1 W0 w hl hL hj ho hf hi
def tickL (L : List Ln) (now : Int) : List Ln := L.filter fun x => !decide (x.till ≤ now)
def TickM (w : World) (L : List Ln) (now : Int) (e : Ending) (w' : World) : Prop :=
  ∃ ob cap, e = .returned (.tuple #[.slice ob (tickL L now).length cap, .int .i64 ((L.length - (tickL L now).length : Nat) : Int)]) ∧ Junk w w' ∧ Own w.heap.size w' 39 5 ob cap (tickL L now).length (lnsL (tickL L now))
theorem tick_any (now : Int) (oa : Option Addr) (l c : Nat) (L : List Ln) (w : World) (hl : l ≤ 1000000) (hL : L.length = l) (hS : LsAt w oa L) (hn : oa = none → l = 0 ∧ c = 0) :
    Calls Try.prog 28 #[.slice oa l c, .int .i64 now] w (TickM w L now) := by
  have HS := Lib.hid hS
  have HL := Lib.hid hL
  have HN := Lib.hid hn
  have hmf : ∀ (fn : Fn) (first cap : Array Value) (w : World), (Instr.makeFunc fn first cap).run Try.prog w = .ok (.func fn first cap) w := fun _ _ _ _ => rfl
  obtain ⟨m, hm⟩ : ∃ m, m = (tickL L now).length := ⟨_, rfl⟩
  have hml : m ≤ l := by rw [hm, ← hL]; exact List.length_filter_le _ _
  have hsub : (l : Int) - (m : Int) = ((l - m : Nat) : Int) := by omega
  have HM := Lib.hid hm
  clear hS hL hn hm
  go_enter Try.func28, Try.ntmps28
  go_wp2_with (first
    | (go_at_call 39; refine (cloneL_any oa l c L _ hl HL.out (HS.out.on (by ((try simp only [World.junk_junk, Array.append_assoc]); (repeat (first | with_reducible exact Junk.refl _ | with_reducible exact Junk.app _ _ _ _ _ | with_reducible exact Junk.app2 _ _ _ _ _ _ | with_reducible exact Junk.app3 _ _ _ _ _ _ _ | with_reducible exact Junk.app4 _ _ _ _ _ _ _ _ | with_reducible exact Junk.app5 _ _ _ _ _ _ _ _ _ | with_reducible apply Junk.alloc | with_reducible apply Junk.junk | with_reducible apply Junk.drew | with_reducible apply Junk.drewN))))) HN.out).mono ?_; rintro e w' ⟨ob, cap, rfl, ⟨osj, dj, rfl⟩, hown⟩; have Hown := Lib.hid hown; clear hown)
    | (go_at_call 43; refine (delete_any ob l cap L (fun x => decide (x.till ≤ now)) _ (w.alloc (.cells #[.int .i64 now] 3)) _ hl HL.out (by ((try simp only [World.junk_junk, Array.append_assoc]); (repeat (first | with_reducible exact Junk.refl _ | with_reducible exact Junk.app _ _ _ _ _ | with_reducible exact Junk.app2 _ _ _ _ _ _ | with_reducible exact Junk.app3 _ _ _ _ _ _ _ | with_reducible exact Junk.app4 _ _ _ _ _ _ _ _ | with_reducible exact Junk.app5 _ _ _ _ _ _ _ _ _ | with_reducible apply Junk.alloc | with_reducible apply Junk.junk | with_reducible apply Junk.drew | with_reducible apply Junk.drewN)))) Hown.out (fun w1 h1 x => tick1_any x w.heap.size now w1 (Nat.lt_of_lt_of_le (by simp) h1.size) (((h1.below (Nat.le_refl _)).cell (p := ⟨w.heap.size, 0, none⟩) (by simp)).trans (by simp)))).mono ?_; rintro e w' ⟨ob2, cap2, rfl, ⟨osj2, dj2, rfl⟩, hown2⟩; rw [show (L.filter fun x => !decide (x.till ≤ now)).length = m from HM.out.symm]; have Hown2 := Lib.hid hown2; clear hown2))
  go_returns
  exact ⟨ob2, cap2, by rw [← HM.out, HL.out]; rfl, by ((try simp only [World.junk_junk, Array.append_assoc]); (repeat (first | with_reducible exact Junk.refl _ | with_reducible exact Junk.app _ _ _ _ _ | with_reducible exact Junk.app2 _ _ _ _ _ _ | with_reducible exact Junk.app3 _ _ _ _ _ _ _ | with_reducible exact Junk.app4 _ _ _ _ _ _ _ _ | with_reducible exact Junk.app5 _ _ _ _ _ _ _ _ _ | with_reducible apply Junk.alloc | with_reducible apply Junk.junk | with_reducible apply Junk.drew | with_reducible apply Junk.drewN))), by rw [← HM.out]; have := Hown2.out; rw [show (L.filter fun x => !decide (x.till ≤ now)).length = m from HM.out.symm] at this; exact this.lower (by simp)⟩
end Go.Proofs.Ytambpmbgfjefcaa
