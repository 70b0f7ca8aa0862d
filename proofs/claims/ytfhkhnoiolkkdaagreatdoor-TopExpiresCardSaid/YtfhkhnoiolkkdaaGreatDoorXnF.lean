/- nat.Ask. -/
import Derived.Test.YtfhkhnoiolkkdaaGreatDoorXnA
set_option linter.unusedVariables false
set_option maxRecDepth 100000
set_option linter.unusedSimpArgs false
namespace Go.Proofs.YtfhkhnoiolkkdaaGreatDoor
open Go.RowKit
structure FindCap (w : World) (g1 g2 : Nat) (F : Nat) (x : Ln) : Prop where
  l1 : g1 < w.heap.size
  l2 : g2 < w.heap.size
  c1 : w.cell? ⟨g1, 0, none⟩ = some (.func (.func F) #[] #[])
  x0 : w.cell? ⟨g2, 0, none⟩ = some (.int .i64 x.proto)
  x1 : w.cell? ⟨g2, 1, none⟩ = some (.int .u32 x.inn)
  x2 : w.cell? ⟨g2, 2, none⟩ = some (.int .i64 x.inport)
  x3 : w.cell? ⟨g2, 3, none⟩ = some (.int .i64 x.port)
  x4 : w.cell? ⟨g2, 4, none⟩ = some (.int .i64 x.till)
theorem FindCap.on {w w' : World} {g1 g2 F : Nat} {x : Ln} (h : FindCap w g1 g2 F x) (hj : Junk w w') : FindCap w' g1 g2 F x := by
  have hb := hj.below (Nat.le_refl _)
  have k1 : ∀ i v, w.cell? ⟨g1, i, none⟩ = some v → w'.cell? ⟨g1, i, none⟩ = some v := fun i v hv => (hb.cell (p := ⟨g1, _, none⟩) h.l1).trans hv
  have k2 : ∀ i v, w.cell? ⟨g2, i, none⟩ = some v → w'.cell? ⟨g2, i, none⟩ = some v := fun i v hv => (hb.cell (p := ⟨g2, _, none⟩) h.l2).trans hv
  exact ⟨Nat.lt_of_lt_of_le h.l1 hb.size, Nat.lt_of_lt_of_le h.l2 hb.size, k1 _ _ h.c1, k2 _ _ h.x0, k2 _ _ h.x1, k2 _ _ h.x2, k2 _ _ h.x3, k2 _ _ h.x4⟩
theorem find1_outer (x y : Ln) (g1 g2 : Nat) (w : World) (h : FindCap w g1 g2 287 x) :
    Calls Tryz.prog 288 #[y.val, .pointer (some ⟨g1, 0, none⟩), .pointer (some ⟨g2, 0, none⟩)] w fun e w' => e = .returned (.bool (outerB x y)) ∧ Junk w w' := by
  obtain ⟨l1, l2, c1, x0, x1, x2, x3, x4⟩ := h
  go_enter Tryz.func288, Tryz.ntmps288
  go_wp2_with (first | (go_at_call 287; refine (outer_any x y _).mono ?_; rintro e w' ⟨rfl, ⟨osj, dj, rfl⟩⟩))
  go_ret
  exact ⟨rfl, by (exact jkc)⟩
theorem find1_inner (x y : Ln) (g1 g2 : Nat) (w : World) (h : FindCap w g1 g2 232 x) :
    Calls Tryz.prog 288 #[y.val, .pointer (some ⟨g1, 0, none⟩), .pointer (some ⟨g2, 0, none⟩)] w fun e w' => e = .returned (.bool (innerB x y)) ∧ Junk w w' := by
  obtain ⟨l1, l2, c1, x0, x1, x2, x3, x4⟩ := h
  go_enter Tryz.func288, Tryz.ntmps288
  go_wp2_with (first | (go_at_call 232; refine (inner_any x y _).mono ?_; rintro e w' ⟨rfl, ⟨osj, dj, rfl⟩⟩))
  go_ret
  exact ⟨rfl, by (exact jkc)⟩
def nidxI : Option Nat → Int
  | some i => (i : Int)
  | none => -1
theorem nfindIdx_at {α : Type} {L : List α} {pr : α → Bool} {k : Nat} {x : α} (h : ∀ j, j < k → ∀ y, L[j]? = some y → pr y = false) (hx : L[k]? = some x) (hp : pr x = true) : L.findIdx? pr = some k := by
  have hk : k < L.length := (List.getElem?_eq_some_iff.1 hx).1
  rw [List.findIdx?_eq_some_iff_getElem]
  refine ⟨hk, ?_, fun j hj => ?_⟩
  · rw [List.getElem?_eq_getElem hk] at hx
    cases hx
    exact hp
  · have := h j hj _ (List.getElem?_eq_getElem (by omega))
    simp [this]
theorem nfindIdx_no {α : Type} {L : List α} {pr : α → Bool} (h : ∀ j, j < L.length → ∀ y, L[j]? = some y → pr y = false) : L.findIdx? pr = none := by
  rw [List.findIdx?_eq_none_iff]
  intro x hx
  obtain ⟨j, hj, rfl⟩ := List.getElem_of_mem hx
  exact h j hj _ (List.getElem?_eq_getElem hj)
theorem indexF_any (oa : Option Addr) (l c : Nat) (L : List Ln) (pr : Ln → Bool) (v1 v2 : Value) (w : World) (hl : l ≤ 1000000) (hL : L.length = l) (hS : LsAt w oa L)
    (hf : ∀ w1, Junk w w1 → ∀ x, Calls Tryz.prog 288 #[x.val, v1, v2] w1 fun e w' => e = .returned (.bool (pr x)) ∧ Junk w1 w') :
    Calls Tryz.prog 155 #[.slice oa l c, .func (.func 288) #[] #[v1, v2]] w fun e w' => e = .returned (.int .i64 (nidxI (L.findIdx? pr))) ∧ Junk w w' := by
  have HS := Lib.hid hS
  have HF := Lib.hid hf
  clear hS hf
  obtain ⟨T, hT⟩ : ∃ T, T = nidxI (L.findIdx? pr) := ⟨_, rfl⟩
  rw [← hT]
  have HT := Lib.hid hT
  have HL := Lib.hid hL
  clear hT hL
  go_enter Tryz.func155, Tryz.ntmps155
  go_wp2
  go_loopw [8] (fun i wr => ∃ k : Nat, i = .int .i64 (k : Int) ∧ Junk w wr ∧ k ≤ l ∧ Hid (∀ j, j < k → ∀ y, L[j]? = some y → pr y = false)) (fun i _ => l + 1 - (intOf i).toNat)
  case atStart => exact ⟨0, rfl, by (exact jkc), by omega, Lib.hid (fun j hj => by omega)⟩
  case round =>
    obtain ⟨k, rfl, ⟨os, d, rfl⟩, hk, hN⟩ := hrel
    by_cases hkl : k < l
    · have hk2 : (k : Int) < (l : Int) := by omega
      obtain ⟨x, hx⟩ : ∃ x, L[k]? = some x := ⟨_, List.getElem?_eq_getElem (by rw [HL.out]; exact hkl)⟩
      obtain ⟨b, off, rfl, hb, c0, c1, c2, c3, c4⟩ := HS.out k x hx
      have HX := Lib.hid hx
      clear hx
      cases hp : pr x with
      | true =>
        have HE := Lib.hid (show T = (k : Int) by rw [HT.out, nfindIdx_at hN.out HX.out hp]; rfl)
        go_wp2_with (first | (go_at_call 288; refine (HF.out _ (by (exact jkc)) x).mono ?_; rintro e w' ⟨rfl, ⟨osj, dj, rfl⟩⟩; rw [hp]))
        go_ret
        exact ⟨by rw [HE.out]; rfl, by (exact jkc)⟩
      | false =>
        have HN2 := Lib.hid (show ∀ j, j < k + 1 → ∀ y, L[j]? = some y → pr y = false from fun j hj y hy => by
          by_cases h : j = k
          · subst h; rw [HX.out] at hy; cases hy; exact hp
          · exact hN.out j (by omega) y hy)
        go_wp2_with (first | (go_at_call 288; refine (HF.out _ (by (exact jkc)) x).mono ?_; rintro e w' ⟨rfl, ⟨osj, dj, rfl⟩⟩; rw [hp]))
        exact ⟨⟨k + 1, by go_num, by (exact jkc), by omega, HN2⟩, by simp [intOf]; omega⟩
    · have hk2 : ¬ (k : Int) < (l : Int) := by omega
      obtain rfl : k = l := by omega
      have HE := Lib.hid (show T = -1 by rw [HT.out, nfindIdx_no (by rw [HL.out]; exact hN.out)]; rfl)
      go_wp2
      go_ret
      exact ⟨by rw [HE.out]; rfl, by (exact jkc)⟩
end Go.Proofs.YtfhkhnoiolkkdaaGreatDoor
set_option linter.unusedVariables false
set_option maxRecDepth 100000
set_option linter.unusedSimpArgs false
namespace Go.Proofs.YtfhkhnoiolkkdaaGreatDoor
open Go.RowKit
theorem findcap_new (w : World) (F : Nat) (x : Ln) (t1 t2 : TypeId) (n1 n2 : Nat) (h1 : n1 = w.heap.size + 1) (h2 : n2 = w.heap.size) :
    FindCap ((w.alloc (.cells #[.int .i64 x.proto, .int .u32 x.inn, .int .i64 x.inport, .int .i64 x.port, .int .i64 x.till] t1)).alloc (.cells #[.func (.func F) #[] #[]] t2)) n1 n2 F x := by
  subst h1 h2
  refine ⟨by simp, by simp; omega, ?_, ?_, ?_, ?_, ?_, ?_⟩ <;> simp [go_sem]
theorem find_outer (x : Ln) (oa : Option Addr) (l c : Nat) (L : List Ln) (w : World) (hl : l ≤ 1000000) (hL : L.length = l) (hS : LsAt w oa L) :
    Calls Tryz.prog 231 #[.slice oa l c, x.val, .func (.func 287) #[] #[]] w fun e w' => e = .returned (.int .i64 (nidxI (L.findIdx? (outerB x)))) ∧ Junk w w' := by
  have HS := Lib.hid hS
  have hmf : ∀ (fn : Fn) (first cap : Array Value) (w : World), (Instr.makeFunc fn first cap).run Tryz.prog w = .ok (.func fn first cap) w := fun _ _ _ _ => rfl
  clear hS
  go_enter Tryz.func231, Tryz.ntmps231
  go_wp2_with (first | (go_at_call 155; refine (indexF_any oa l c L (outerB x) _ _ _ hl hL (HS.out.on (by (exact jkc))) (fun w1 hj y => find1_outer x y _ _ w1 (FindCap.on (findcap_new w _ x _ _ _ _ (by simp) (by simp)) hj))).mono ?_; rintro e w' ⟨rfl, ⟨osj, dj, rfl⟩⟩))
  go_ret
  exact ⟨rfl, by (exact jkc)⟩
theorem find_inner (x : Ln) (oa : Option Addr) (l c : Nat) (L : List Ln) (w : World) (hl : l ≤ 1000000) (hL : L.length = l) (hS : LsAt w oa L) :
    Calls Tryz.prog 231 #[.slice oa l c, x.val, .func (.func 232) #[] #[]] w fun e w' => e = .returned (.int .i64 (nidxI (L.findIdx? (innerB x)))) ∧ Junk w w' := by
  have HS := Lib.hid hS
  have hmf : ∀ (fn : Fn) (first cap : Array Value) (w : World), (Instr.makeFunc fn first cap).run Tryz.prog w = .ok (.func fn first cap) w := fun _ _ _ _ => rfl
  clear hS
  go_enter Tryz.func231, Tryz.ntmps231
  go_wp2_with (first | (go_at_call 155; refine (indexF_any oa l c L (innerB x) _ _ _ hl hL (HS.out.on (by (exact jkc))) (fun w1 hj y => find1_inner x y _ _ w1 (FindCap.on (findcap_new w _ x _ _ _ _ (by simp) (by simp)) hj))).mono ?_; rintro e w' ⟨rfl, ⟨osj, dj, rfl⟩⟩))
  go_ret
  exact ⟨rfl, by (exact jkc)⟩
end Go.Proofs.YtfhkhnoiolkkdaaGreatDoor
set_option linter.unusedVariables false
set_option maxRecDepth 100000
set_option linter.unusedSimpArgs false
namespace Go.Proofs.YtfhkhnoiolkkdaaGreatDoor
open Go.RowKit
theorem cloneL_any (oa : Option Addr) (l c : Nat) (L : List Ln) (w : World) (hl : l ≤ 1000000) (hL : L.length = l) (hS : LsAt w oa L) (hn : oa = none → l = 0 ∧ c = 0) :
    Calls Tryz.prog 38 #[.slice oa l c] w fun e w' => ∃ ob cap, e = .returned (.slice ob l cap) ∧ Junk w w' ∧ Own w.heap.size w' 52 5 ob cap l (lnsL L) := by
  have HS := Lib.hid hS
  have HL := Lib.hid hL
  clear hS hL
  cases oa with
  | none =>
    obtain ⟨rfl, rfl⟩ := hn rfl
    have hne := fun (w : World) => Lib.run_eql_slice_nil (P := Tryz.prog) w 45 52 none 0 0 0 0 Tryz.underlying45
    have HE := Lib.hid (show L = [] from List.eq_nil_of_length_eq_zero HL.out)
    go_enter Tryz.func38, Tryz.ntmps38
    go_wp2
    go_ret
    exact ⟨none, 0, rfl, by (exact jkc), by rw [HE.out]; exact Own.nil _ _ _ _⟩
  | some a =>
    have hne := fun (w : World) => Lib.run_eql_slice_nil (P := Tryz.prog) w 45 52 (some a) l c 0 0 Tryz.underlying45
    have HB := Lib.hid (show (lnsL L).length = l * 5 by rw [lnsL_len, HL.out])
    go_enter Tryz.func38, Tryz.ntmps38
    go_wp2_with (first
      | (at_builtin; (refine ap_own (W0 := w) rfl _ _ 45 rfl 52 (.agg #[.int .i64 0, .int .u32 0, .int .i64 0, .int .i64 0, .int .i64 0]) 5 40 (by kernel_rfl) rfl (by decide) Tryz.underlying45 (by (exact jkc)) _ 0 0 [] rfl (own_made _ _ 5 0 _ _ (by simp) (by simp) (by decide) (by simp)) (some a) l c rfl (lnsL L) HB.out (LsAt.src (HS.out.on (by (exact jkc)))) (fun h => by cases h) (lnsL_one' L) (by simp only [maxLen]; omega) (by omega) ?_; intro oa1 cap1 os1 d1 hown _; rw [List.nil_append, Nat.zero_add] at hown; have Hown := Lib.hid hown; clear hown)))
    go_ret
    exact ⟨oa1, cap1, rfl, by (exact jkc), Hown.out⟩
def takenL (L : List Ln) (proto : Int) : List Int := (L.filter fun x => x.proto == proto).map Ln.port
def intV (L : List Int) : List Value := L.map fun p => .int .i64 p
theorem intV_add (L : List Int) (p : Int) : intV L ++ [.int .i64 p] = intV (L ++ [p]) := by simp [intV]
theorem own_intAt {B : Nat} {w : World} {e : TypeId} {oa : Option Addr} {cap n : Nat} {L : List Int} (h : Own B w e 1 oa cap n (intV L)) : IntsAt w oa n .i64 (fun i => L[i]?.getD 0) := fun i hi => by
  have hl := h.len
  simp [intV] at hl
  obtain ⟨g, h1, _, h2, h3, _⟩ := h.cells i (.int .i64 (L[i]?.getD 0)) (by simp [intV, List.getElem?_eq_getElem (show i < L.length by omega)])
  exact ⟨g, 0, h1, h2, by simpa using h3⟩
theorem takenL_le (L : List Ln) (proto : Int) : (takenL L proto).length ≤ L.length := by unfold takenL; rw [List.length_map]; exact List.length_filter_le _ _
theorem take_succ' {α : Type} {L : List α} {k : Nat} {x : α} (h : L[k]? = some x) : L.take (k + 1) = L.take k ++ [x] := by
  rw [List.take_add_one, h]; rfl
theorem takenL_yes {L : List Ln} {k : Nat} {x : Ln} {proto : Int} (hx : L[k]? = some x) (hp : (x.proto == proto) = true) : takenL (L.take k) proto ++ [x.port] = takenL (L.take (k + 1)) proto := by
  rw [take_succ' hx]
  unfold takenL
  rw [List.filter_append, List.map_append]
  simp [List.filter, hp]
theorem takenL_no {L : List Ln} {k : Nat} {x : Ln} {proto : Int} (hx : L[k]? = some x) (hp : (x.proto == proto) = false) : takenL (L.take k) proto = takenL (L.take (k + 1)) proto := by
  rw [take_succ' hx]
  unfold takenL
  rw [List.filter_append, List.map_append]
  simp [List.filter, hp]
set_option maxHeartbeats 1000000 in
theorem taken_any (proto : Int) (oa : Option Addr) (l c : Nat) (L : List Ln) (w : World) (hl : l ≤ 1000000) (hL : L.length = l) (hS : LsAt w oa L) :
    Calls Tryz.prog 234 #[.slice oa l c, .int .i64 proto] w fun e w' => ∃ ob cap, e = .returned (.slice ob (takenL L proto).length cap) ∧ Junk w w' ∧ Own w.heap.size w' 3 1 ob cap (takenL L proto).length (intV (takenL L proto)) := by
  have HS := Lib.hid hS
  have HL := Lib.hid hL
  clear hS hL
  go_enter Tryz.func234, Tryz.ntmps234
  go_wp2
  go_loopw [5, 10] (fun v i wr => ∃ (k n : Nat) (M : List Int) (ob : Option Addr) (cap : Nat), v = .slice ob n cap ∧ i = .int .i64 (k : Int) ∧ Junk w wr ∧ Own w.heap.size wr 3 1 ob cap n (intV M) ∧ Hid (M = takenL (L.take k) proto) ∧ n ≤ k ∧ k ≤ l) (fun _ i _ => l + 1 - (intOf i).toNat)
  case atStart => exact ⟨0, 0, [], none, 0, rfl, rfl, by (exact jkc), Own.nil _ _ _ _, Lib.hid (by simp [takenL]), by omega, by omega⟩
  case round =>
    obtain ⟨k, n, M, ob, cap, rfl, rfl, ⟨os, d, rfl⟩, hown, hM, hnk, hk⟩ := hrel
    have Hown := Lib.hid hown
    clear hown
    by_cases hkl : k < l
    · have hk2 : (k : Int) < (l : Int) := by omega
      obtain ⟨x, hx⟩ : ∃ x, L[k]? = some x := ⟨_, List.getElem?_eq_getElem (by rw [HL.out]; exact hkl)⟩
      obtain ⟨b, off, rfl, hb, c0, c1, c2, c3, c4⟩ := HS.out k x hx
      have HX := Lib.hid hx
      clear hx
      cases hp : (x.proto == proto) with
      | false =>
        have HM2 := Lib.hid (show M = takenL (L.take (k + 1)) proto by rw [hM.out]; exact takenL_no HX.out hp)
        go_wp2
        exact ⟨⟨k + 1, n, M, ob, cap, rfl, by go_num, by (exact jkc), Hown.out.on (by (exact jkc)), HM2, by omega, by omega⟩, by simp [intOf]; omega⟩
      | true =>
        have HM2 := Lib.hid (show M ++ [x.port] = takenL (L.take (k + 1)) proto by rw [hM.out]; exact takenL_yes HX.out hp)
        go_wp2_with (at_builtin; (refine ap_own (W0 := w) rfl _ _ 181 rfl 3 (.int .i64 0) 1 8 (by kernel_rfl) rfl (by decide) Tryz.underlying181 (by (exact jkc)) ob cap n _ rfl (Hown.out.on (by (exact jkc))) _ 1 1 rfl [_] rfl (built_cells (by simp)) (fun h => by cases h) (by simp [Value.oneCell']) (by simp only [maxLen]; omega) (by omega) ?_; intro oa' cap' os' d' hown' _; rw [intV_add] at hown'; have Hown2 := Lib.hid hown'; clear hown'))
        exact ⟨⟨k + 1, n + 1, M ++ [x.port], oa', cap', rfl, by go_num, by (exact jkc), Hown2.out, HM2, by omega, by omega⟩, by simp [intOf]; omega⟩
    · have hk2 : ¬ (k : Int) < (l : Int) := by omega
      obtain rfl : k = l := by omega
      have HE := Lib.hid (show takenL L proto = M by rw [hM.out, ← HL.out, List.take_length])
      have HN := Lib.hid (show n = (takenL L proto).length by rw [HE.out]; have := Hown.out.len; simpa [intV] using this.symm)
      go_wp2
      go_ret
      exact ⟨ob, cap, by rw [← HN.out]; rfl, by (exact jkc), by rw [← HN.out, HE.out]; exact Hown.out⟩
end Go.Proofs.YtfhkhnoiolkkdaaGreatDoor
set_option linter.unusedVariables false
set_option maxRecDepth 100000
set_option linter.unusedSimpArgs false
namespace Go.Proofs.YtfhkhnoiolkkdaaGreatDoor
open Go.RowKit
def lnOk (lo hi : Int) (L : List Ln) (i : Nat) (x : Ln) : Bool :=
  namedB x && withinN x.port lo hi && ((L.take i).findIdx? (outerB x)).isNone && ((L.take i).findIdx? (innerB x)).isNone
def natRight (lo hi : Int) (L : List Ln) : Bool := rightB lo hi && decide (∀ i, i < L.length → ∀ x, L[i]? = some x → lnOk lo hi L i x = true)
theorem idxI_none {o : Option Nat} : ¬ 0 ≤ nidxI o ↔ o.isNone = true := by cases o <;> simp [nidxI]
theorem idxI_some {o : Option Nat} : 0 ≤ nidxI o ↔ o.isNone = false := by cases o <;> simp [nidxI]
theorem natRight_bad {lo hi : Int} {L : List Ln} {i : Nat} {x : Ln} (hx : L[i]? = some x) (h : lnOk lo hi L i x = false) : natRight lo hi L = false := by
  unfold natRight
  simp only [Bool.and_eq_false_iff, decide_eq_false_iff_not]
  right
  intro ha
  have := ha i (List.getElem?_eq_some_iff.1 hx).1 x hx
  rw [h] at this
  cases this
set_option maxHeartbeats 4000000 in
theorem natRight_any (lo hi : Int) (oa : Option Addr) (l c : Nat) (L : List Ln) (w : World) (hl : l ≤ 1000000) (hlc : l ≤ c) (hL : L.length = l) (hS : LsAt w oa L) :
    Calls Tryz.prog 229 #[.slice oa l c, .int .i64 lo, .int .i64 hi] w fun e w' => e = .returned (.bool (natRight lo hi L)) ∧ Junk w w' := by
  have HS := Lib.hid hS
  have HL := Lib.hid hL
  clear hS hL
  obtain ⟨T, hT⟩ : ∃ T, T = natRight lo hi L := ⟨_, rfl⟩
  have HT := Lib.hid hT
  rw [← hT]
  clear hT
  cases hr : rightB lo hi with
  | false =>
    have HE := Lib.hid (show T = false by rw [HT.out]; unfold natRight; rw [hr]; rfl)
    go_enter Tryz.func229, Tryz.ntmps229
    go_wp2_with (first | (go_at_call 285; refine (pright_any lo hi _).mono ?_; rintro e w' ⟨rfl, rfl⟩; rw [hr]))
    go_ret
    exact ⟨by rw [HE.out]; rfl, by (exact jkc)⟩
  | true =>
    have HR := Lib.hid hr
    clear hr
    go_enter Tryz.func229, Tryz.ntmps229
    go_wp2_with (first | (go_at_call 285; refine (pright_any lo hi _).mono ?_; rintro e w' ⟨rfl, rfl⟩; rw [HR.out]))
    go_loopw [15] (fun i wr => ∃ k : Nat, i = .int .i64 (k : Int) ∧ Junk w wr ∧ k ≤ l ∧ Hid (∀ j, j < k → ∀ y, L[j]? = some y → lnOk lo hi L j y = true)) (fun i _ => l + 1 - (intOf i).toNat)
    case atStart => exact ⟨0, rfl, by (exact jkc), by omega, Lib.hid (fun j hj => by omega)⟩
    case round =>
      obtain ⟨k, rfl, ⟨os, d, rfl⟩, hk, hN⟩ := hrel
      by_cases hkl : k < l
      · have hk2 : (k : Int) < (l : Int) := by omega
        have hk3 : (k : Int) ≤ (c : Int) := by omega
        have hk4 : k ≤ c := by omega
        obtain ⟨x, hx⟩ : ∃ x, L[k]? = some x := ⟨_, List.getElem?_eq_getElem (by rw [HL.out]; exact hkl)⟩
        have HP := Lib.hid (HS.out.take k)
        have HPL := Lib.hid (show (L.take k).length = k by rw [List.length_take, HL.out]; omega)
        obtain ⟨b, off, rfl, hb, c0, c1, c2, c3, c4⟩ := HS.out k x hx
        have HX := Lib.hid hx
        obtain ⟨i3, hi3⟩ : ∃ i3, i3 = nidxI ((L.take k).findIdx? (outerB x)) := ⟨_, rfl⟩
        obtain ⟨i4, hi4⟩ : ∃ i4, i4 = nidxI ((L.take k).findIdx? (innerB x)) := ⟨_, rfl⟩
        have H3 := Lib.hid hi3
        have H4 := Lib.hid hi4
        obtain ⟨C1, hC1⟩ : ∃ C1, C1 = namedB x := ⟨_, rfl⟩
        obtain ⟨C2, hC2⟩ : ∃ C2, C2 = withinN x.port lo hi := ⟨_, rfl⟩
        have HC1 := Lib.hid hC1
        have HC2 := Lib.hid hC2
        have fn1 : ∀ w1, Calls Tryz.prog 230 #[x.val] w1 fun e w' => e = .returned (.bool C1) ∧ Junk w1 w' := fun w1 => by rw [hC1]; exact named_any x w1
        have fn2 : ∀ w1, Calls Tryz.prog 286 #[.int .i64 x.port, .int .i64 lo, .int .i64 hi] w1 fun e w' => e = .returned (.bool C2) ∧ w1 = w' := fun w1 => by rw [hC2]; exact nwithin_any _ _ _ w1
        have fn3 : ∀ w1, LsAt w1 (some ⟨b, off, none⟩) (L.take k) → Calls Tryz.prog 231 #[.slice (some ⟨b, off, none⟩) k c, x.val, .func (.func 287) #[] #[]] w1 fun e w' => e = .returned (.int .i64 i3) ∧ Junk w1 w' := fun w1 h1 => by rw [hi3]; exact find_outer x _ k c _ w1 (by omega) HPL.out h1
        have fn4 : ∀ w1, LsAt w1 (some ⟨b, off, none⟩) (L.take k) → Calls Tryz.prog 231 #[.slice (some ⟨b, off, none⟩) k c, x.val, .func (.func 232) #[] #[]] w1 fun e w' => e = .returned (.int .i64 i4) ∧ Junk w1 w' := fun w1 h1 => by rw [hi4]; exact find_inner x _ k c _ w1 (by omega) HPL.out h1
        clear hx hi3 hi4 hC1 hC2
        obtain ⟨xp, xi, xn, xo, xt⟩ := x
        have F1 := Lib.hid fn1
        have F2 := Lib.hid fn2
        have F3 := Lib.hid fn3
        have F4 := Lib.hid fn4
        clear fn1 fn2 fn3 fn4
        go_wp2
        cases C1 with
        | false =>
          have HE := Lib.hid (show T = false by rw [HT.out]; exact natRight_bad HX.out (by unfold lnOk; rw [← HC1.out]; rfl))
          refine wp_region_junk (by kernel_rfl) (by kernel_rfl) ?_; (repeat (refine wpQuiet_step (fun K hK => ?_); (go_simp; try go_bits); first | (refine hK _ ?_; clear hK K) | (apply Exists.intro; refine ⟨fun _ => ?_, hK _ ?_⟩; (first | (go_at_call 230; exact Calls.junk_of (F1.out _)) | (go_at_call 286; exact Calls.junk_of (Calls.junk_of_same (F2.out _))) | (go_at_call 231; first | with_reducible exact Calls.junk_of (F3.out _ (HP.out.on (by (exact jkc)))) | with_reducible exact Calls.junk_of (F4.out _ (HP.out.on (by (exact jkc)))))); clear hK K))); refine wpQuiet_nil ?_; rintro _ ⟨⟨osq, dq⟩, rfl⟩
          go_wp2
          go_ret
          exact ⟨by rw [HE.out]; rfl, by (exact jkc)⟩
        | true =>
        cases C2 with
        | false =>
          have HE := Lib.hid (show T = false by rw [HT.out]; exact natRight_bad HX.out (by unfold lnOk; rw [← HC2.out]; simp))
          refine wp_region_junk (by kernel_rfl) (by kernel_rfl) ?_; (repeat (refine wpQuiet_step (fun K hK => ?_); (go_simp; try go_bits); first | (refine hK _ ?_; clear hK K) | (apply Exists.intro; refine ⟨fun _ => ?_, hK _ ?_⟩; (first | (go_at_call 230; exact Calls.junk_of (F1.out _)) | (go_at_call 286; exact Calls.junk_of (Calls.junk_of_same (F2.out _))) | (go_at_call 231; first | with_reducible exact Calls.junk_of (F3.out _ (HP.out.on (by (exact jkc)))) | with_reducible exact Calls.junk_of (F4.out _ (HP.out.on (by (exact jkc)))))); clear hK K))); refine wpQuiet_nil ?_; rintro _ ⟨⟨osq, dq⟩, rfl⟩
          go_wp2
          go_ret
          exact ⟨by rw [HE.out]; rfl, by (exact jkc)⟩
        | true =>
        by_cases h3 : 0 ≤ i3
        · have HE := Lib.hid (show T = false by rw [HT.out]; rw [H3.out, idxI_some] at h3; exact natRight_bad HX.out (by unfold lnOk; rw [h3]; simp))
          refine wp_region_junk (by kernel_rfl) (by kernel_rfl) ?_; (repeat (refine wpQuiet_step (fun K hK => ?_); (go_simp; try go_bits); first | (refine hK _ ?_; clear hK K) | (apply Exists.intro; refine ⟨fun _ => ?_, hK _ ?_⟩; (first | (go_at_call 230; exact Calls.junk_of (F1.out _)) | (go_at_call 286; exact Calls.junk_of (Calls.junk_of_same (F2.out _))) | (go_at_call 231; first | with_reducible exact Calls.junk_of (F3.out _ (HP.out.on (by (exact jkc)))) | with_reducible exact Calls.junk_of (F4.out _ (HP.out.on (by (exact jkc)))))); clear hK K))); refine wpQuiet_nil ?_; rintro _ ⟨⟨osq, dq⟩, rfl⟩
          go_wp2
          go_ret
          exact ⟨by rw [HE.out]; rfl, by (exact jkc)⟩
        by_cases h4 : 0 ≤ i4
        · have HE := Lib.hid (show T = false by rw [HT.out]; rw [H4.out, idxI_some] at h4; exact natRight_bad HX.out (by unfold lnOk; rw [h4]; simp))
          refine wp_region_junk (by kernel_rfl) (by kernel_rfl) ?_; (repeat (refine wpQuiet_step (fun K hK => ?_); (go_simp; try go_bits); first | (refine hK _ ?_; clear hK K) | (apply Exists.intro; refine ⟨fun _ => ?_, hK _ ?_⟩; (first | (go_at_call 230; exact Calls.junk_of (F1.out _)) | (go_at_call 286; exact Calls.junk_of (Calls.junk_of_same (F2.out _))) | (go_at_call 231; first | with_reducible exact Calls.junk_of (F3.out _ (HP.out.on (by (exact jkc)))) | with_reducible exact Calls.junk_of (F4.out _ (HP.out.on (by (exact jkc)))))); clear hK K))); refine wpQuiet_nil ?_; rintro _ ⟨⟨osq, dq⟩, rfl⟩
          go_wp2
          go_ret
          exact ⟨by rw [HE.out]; rfl, by (exact jkc)⟩
        · have HN2 := Lib.hid (show ∀ j, j < k + 1 → ∀ y, L[j]? = some y → lnOk lo hi L j y = true from fun j hj y hy => by
            by_cases h : j = k
            · subst h
              rw [HX.out] at hy
              cases hy
              rw [H3.out, idxI_none] at h3
              rw [H4.out, idxI_none] at h4
              unfold lnOk
              rw [h3, h4, ← HC1.out, ← HC2.out]
              rfl
            · exact hN.out j (by omega) y hy)
          refine wp_region_junk (by kernel_rfl) (by kernel_rfl) ?_; (repeat (refine wpQuiet_step (fun K hK => ?_); (go_simp; try go_bits); first | (refine hK _ ?_; clear hK K) | (apply Exists.intro; refine ⟨fun _ => ?_, hK _ ?_⟩; (first | (go_at_call 230; exact Calls.junk_of (F1.out _)) | (go_at_call 286; exact Calls.junk_of (Calls.junk_of_same (F2.out _))) | (go_at_call 231; first | with_reducible exact Calls.junk_of (F3.out _ (HP.out.on (by (exact jkc)))) | with_reducible exact Calls.junk_of (F4.out _ (HP.out.on (by (exact jkc)))))); clear hK K))); refine wpQuiet_nil ?_; rintro _ ⟨⟨osq, dq⟩, rfl⟩
          go_wp2
          exact ⟨⟨k + 1, by go_num, by (exact jkc), by omega, HN2⟩, by simp [intOf]; omega⟩
      · have hk2 : ¬ (k : Int) < (l : Int) := by omega
        obtain rfl : k = l := by omega
        have HE := Lib.hid (show T = true by rw [HT.out]; unfold natRight; rw [HR.out]; simp only [Bool.true_and, decide_eq_true_eq]; rw [HL.out]; exact hN.out)
        go_wp2
        go_ret
        exact ⟨by rw [HE.out]; rfl, by (exact jkc)⟩
end Go.Proofs.YtfhkhnoiolkkdaaGreatDoor
set_option linter.unusedVariables false
set_option maxRecDepth 100000
set_option linter.unusedSimpArgs false
namespace Go.Proofs.YtfhkhnoiolkkdaaGreatDoor
open Go.RowKit
def later (t : Int) (x : Ln) : Ln := { x with till := if x.till < t then t else x.till }
def askP (lo hi : Int) (L : List Ln) (x : Ln) (D : Nat) : List Ln × Int × Int :=
  if (natRight lo hi L && namedB x) = false then (L, 0, 1) else
  match L.findIdx? (innerB x) with
  | some k => match L[k]? with
    | some y => (L.set k (later x.till y), y.port, 0)
    | none => (L, 0, 0)
  | none =>
    let r := poolChoose lo hi (fun i => (takenL L x.proto)[i]?.getD 0) (takenL L x.proto).length x.inport D
    if r.2 then (L ++ [{ x with port := r.1 }], r.1, 0) else (L, 0, 8)
def AskM (w : World) (R : List Ln × Int × Int) (e : Ending) (w' : World) : Prop :=
  ∃ ob cap, e = .returned (.tuple #[.slice ob R.1.length cap, .int .i64 R.2.1, .int .i64 R.2.2]) ∧ Junk w w' ∧ Own w.heap.size w' 52 5 ob cap R.1.length (lnsL R.1) ∧ R.1.length ≤ cap
theorem own_at0 {B : Nat} {w : World} {e : TypeId} {size : Nat} {oa : Option Addr} {cap n : Nat} {xs : List Value} (h : Own B w e size oa cap n xs) (hn : 0 < n) : ∃ g, oa = some ⟨g, 0, none⟩ := by
  rcases h.form with ⟨_, rfl, _⟩ | ⟨g, cur, rfl, _⟩
  · omega
  · exact ⟨g, rfl⟩
theorem own_stored {B : Nat} {w : World} {e : TypeId} {size g cap n : Nat} {xs : List Value} (h : Own B w e size (some ⟨g, 0, none⟩) cap n xs) (j : Nat) (u : Value) : Own B (w.setCell ⟨g, j, none⟩ u) e size (some ⟨g, 0, none⟩) cap n (xs.set j u) := (World.ownsRow.stored h j u).1
theorem own_ge {B : Nat} {w : World} {e : TypeId} {size : Nat} {g cap n : Nat} {xs : List Value} (h : Own B w e size (some ⟨g, 0, none⟩) cap n xs) : B ≤ g := by
  rcases h.form with ⟨h0, _⟩ | ⟨g', cur, h0, hb, _⟩
  · cases h0
  · cases h0; exact hb
theorem lnsL_till {t : Int} : ∀ {L : List Ln} {k : Nat} {y : Ln}, L[k]? = some y → (lnsL L).set (k * 5 + 4) (.int .i64 (if y.till < t then t else y.till)) = lnsL (L.set k (later t y))
  | [], k, y, h => by simp at h
  | x :: L, 0, y, h => by
    simp only [List.getElem?_cons_zero, Option.some.injEq] at h
    subst h
    rw [lnsL_cons, List.set_append_left _ _ (by rw [Ln.cells_len]; omega)]
    rfl
  | x :: L, k + 1, y, h => by
    rw [List.getElem?_cons_succ] at h
    rw [lnsL_cons, List.set_append_right _ _ (by rw [Ln.cells_len]; omega), Ln.cells_len, show (k + 1) * 5 + 4 - 5 = k * 5 + 4 by omega, lnsL_till h]
    rfl
set_option maxHeartbeats 4000000 in
theorem ask_bad (lo hi : Int) (oa : Option Addr) (l c : Nat) (L : List Ln) (x : Ln) (D : Nat) (w : World) (hl : l ≤ 1000000) (hlc : l ≤ c) (hL : L.length = l) (hS : LsAt w oa L) (hn : oa = none → l = 0 ∧ c = 0) (hb : (natRight lo hi L && namedB x) = false) :
    Calls Tryz.prog 149 #[.slice oa l c, .int .i64 lo, .int .i64 hi, x.val, .int .u32 (D : Int)] w (AskM w (askP lo hi L x D)) := by
  have HR := Lib.hid (show askP lo hi L x D = (L, 0, 1) by unfold askP; rw [if_pos hb])
  rw [HR.out]
  have HS := Lib.hid hS
  have HL := Lib.hid hL
  have HN := Lib.hid hn
  have RT := Lib.hid (fun w1 h1 => natRight_any lo hi oa l c L w1 hl hlc hL h1)
  have NM := Lib.hid (fun w1 => named_any x w1)
  generalize natRight lo hi L = R1 at hb RT
  generalize namedB x = R2 at hb NM
  obtain ⟨xp, xi, xn, xo, xt⟩ := x
  clear hS hL hn
  cases R1 with
  | false =>
    go_enter Tryz.func149, Tryz.ntmps149
    go_wp2_with (first
      | (go_at_call 38; refine (cloneL_any oa l c L _ hl HL.out (HS.out.on (by (exact jkc))) HN.out).mono ?_; rintro e w' ⟨ob, cap, rfl, ⟨osj, dj, rfl⟩, hown⟩; have Hown := Lib.hid hown; clear hown)
      | (go_at_call 229; refine (RT.out _ (HS.out.on (by (exact jkc)))).mono ?_; rintro e w' ⟨rfl, ⟨osr, dr, rfl⟩⟩)
      | (go_at_call 230; refine (NM.out _).mono ?_; rintro e w' ⟨rfl, ⟨osn, dn, rfl⟩⟩))
    go_returns
    exact ⟨ob, cap, by rw [HL.out]; rfl, by (exact jkc), by show Own _ _ _ _ _ _ L.length (lnsL L); rw [HL.out]; exact (Hown.out.on (by (exact jkc))).lower (by simp), by show L.length ≤ cap; rw [HL.out]; exact Hown.out.capLe.1⟩
  | true =>
    cases hb
    go_enter Tryz.func149, Tryz.ntmps149
    go_wp2_with (first
      | (go_at_call 38; refine (cloneL_any oa l c L _ hl HL.out (HS.out.on (by (exact jkc))) HN.out).mono ?_; rintro e w' ⟨ob, cap, rfl, ⟨osj, dj, rfl⟩, hown⟩; have Hown := Lib.hid hown; clear hown)
      | (go_at_call 229; refine (RT.out _ (HS.out.on (by (exact jkc)))).mono ?_; rintro e w' ⟨rfl, ⟨osr, dr, rfl⟩⟩)
      | (go_at_call 230; refine (NM.out _).mono ?_; rintro e w' ⟨rfl, ⟨osn, dn, rfl⟩⟩))
    go_returns
    exact ⟨ob, cap, by rw [HL.out]; rfl, by (exact jkc), by show Own _ _ _ _ _ _ L.length (lnsL L); rw [HL.out]; exact (Hown.out.on (by (exact jkc))).lower (by simp), by show L.length ≤ cap; rw [HL.out]; exact Hown.out.capLe.1⟩
set_option maxHeartbeats 4000000 in
theorem ask_old (lo hi : Int) (oa : Option Addr) (l c : Nat) (L : List Ln) (x : Ln) (D k : Nat) (w : World) (hl : l ≤ 1000000) (hlc : l ≤ c) (hL : L.length = l) (hS : LsAt w oa L) (hn : oa = none → l = 0 ∧ c = 0) (h1 : natRight lo hi L = true) (h2 : namedB x = true) (hf : L.findIdx? (innerB x) = some k) :
    Calls Tryz.prog 149 #[.slice oa l c, .int .i64 lo, .int .i64 hi, x.val, .int .u32 (D : Int)] w (AskM w (askP lo hi L x D)) := by
  have hk : k < l := by rw [← hL]; exact (List.findIdx?_eq_some_iff_getElem.1 hf).1
  obtain ⟨y, hy⟩ : ∃ y, L[k]? = some y := ⟨_, List.getElem?_eq_getElem (by omega)⟩
  have HR := Lib.hid (show askP lo hi L x D = (L.set k (later x.till y), y.port, 0) by unfold askP; rw [if_neg (by simp [h1, h2]), hf]; simp only [hy])
  rw [HR.out]
  have HS := Lib.hid hS
  have HL := Lib.hid hL
  have HN := Lib.hid hn
  have rt := (fun w1 h1 => natRight_any lo hi oa l c L w1 hl hlc hL h1)
  have nm := (fun w1 => named_any x w1)
  rw [h1] at rt
  rw [h2] at nm
  have RT := Lib.hid rt
  have NM := Lib.hid nm
  have FI := Lib.hid (show nidxI (L.findIdx? (innerB x)) = (k : Int) by rw [hf]; rfl)
  have HY := Lib.hid hy
  have hk2 : (k : Int) < (l : Int) := by omega
  obtain ⟨xp, xi, xn, xo, xt⟩ := x
  clear hS hL hn rt nm h1 h2 hf hy
  go_enter Tryz.func149, Tryz.ntmps149
  go_wp2_with (first
    | (go_at_call 38; refine (cloneL_any oa l c L _ hl HL.out (HS.out.on (by (exact jkc))) HN.out).mono ?_; rintro e w' ⟨ob, cap, rfl, ⟨osj, dj, rfl⟩, hown⟩; have Hown := Lib.hid hown; clear hown)
    | (go_at_call 229; refine (RT.out _ (HS.out.on (by (exact jkc)))).mono ?_; rintro e w' ⟨rfl, ⟨osr, dr, rfl⟩⟩)
    | (go_at_call 230; refine (NM.out _).mono ?_; rintro e w' ⟨rfl, ⟨osn, dn, rfl⟩⟩)
    | (go_at_call 231; refine (find_inner ⟨xp, xi, xn, xo, xt⟩ ob l cap L _ hl HL.out ((own_ls Hown.out).on (by (exact jkc)))).mono ?_; rintro e w' ⟨rfl, ⟨osf, df, rfl⟩⟩; rw [FI.out]))
  obtain ⟨g, rfl⟩ := own_at0 Hown.out (by omega)
  have hj : Junk w ((w.alloc (.cells #[.int .i64 xp, .int .u32 xi, .int .i64 xn, .int .i64 xo, .int .i64 xt] 52)).junk (osj ++ (osr ++ (osn ++ osf))) df) := by (exact jkc)
  have ho : Own w.heap.size ((w.alloc (.cells #[.int .i64 xp, .int .u32 xi, .int .i64 xn, .int .i64 xo, .int .i64 xt] 52)).junk (osj ++ (osr ++ (osn ++ osf))) df) 52 5 (some ⟨g, 0, none⟩) cap l (lnsL L) := (Hown.out.on (by (exact jkc))).lower (by simp)
  have hx4 : ((w.alloc (.cells #[.int .i64 xp, .int .u32 xi, .int .i64 xn, .int .i64 xo, .int .i64 xt] 52)).junk (osj ++ (osr ++ (osn ++ osf))) df).cell? ⟨w.heap.size, 4, none⟩ = some (.int .i64 xt) := by simp [go_sem]
  have hsz : w.heap.size < ((w.alloc (.cells #[.int .i64 xp, .int .u32 xi, .int .i64 xn, .int .i64 xo, .int .i64 xt] 52)).junk (osj ++ (osr ++ (osn ++ osf))) df).heap.size := by simp; omega
  generalize (w.alloc (.cells #[.int .i64 xp, .int .u32 xi, .int .i64 xn, .int .i64 xo, .int .i64 xt] 52)).junk (osj ++ (osr ++ (osn ++ osf))) df = V at hj ho hx4 hsz
  obtain ⟨b, off, he, hg, c0, c1, c2, c3, c4⟩ := own_ls ho k y HY.out
  cases he
  rw [Nat.zero_add] at c0 c1 c2 c3 c4
  have hfz : V.frozen? ⟨g, k * 5 + 4, none⟩ = false := World.ownsRow.frozenAt ho (k * 5 + 4)
  have HJ := Lib.hid hj
  have HO := Lib.hid ho
  clear hj ho Hown
  refine wp_region_mixl (V) 12 [(0, true), (1, true), (2, true), (3, true), (4, true), (5, true), (6, true), (7, true), (8, true), (9, true), (10, true), (11, true), (12, false)] (by kernel_rfl) (by kernel_rfl) (by (exact jkc)) ?_; (iterate 12 (refine wpMixL_q rfl (fun K hK => ?_); (go_simp; try go_bits); (refine hK _ ?_; clear hK K))); refine wpMixL_last rfl (fun osm6_0 dm6_0 K hK => ?_); (go_simp; try go_bits); refine hK _ _ ?_; clear hK K; refine wpMixL_nil (fun osm dm => ?_)
  have hset := lnsL_till (t := xt) HY.out
  generalize (if y.till < xt then xt else y.till) = T at hset
  have hn := own_stored HO.out (k * 5 + 4) (.int .i64 T)
  rw [hset] at hn
  have hjn : Junk w (V.setCell ⟨g, k * 5 + 4, none⟩ (.int .i64 T)) := HJ.out.setCell (own_ge HO.out) _
  have hg2 : g < (V.setCell ⟨g, k * 5 + 4, none⟩ (.int .i64 T)).heap.size := by simpa using hg
  generalize V.setCell ⟨g, k * 5 + 4, none⟩ (.int .i64 T) = V2 at hn hjn hg2
  obtain ⟨b, off, he, hg3, e0, e1, e2, e3, e4⟩ := own_ls hn k (later xt y) (by simp [List.getElem?_set, show k < L.length by rw [HL.out]; exact hk])
  cases he
  rw [Nat.zero_add] at e0 e1 e2 e3 e4
  have e5 : V2.cell? ⟨g, k * 5 + 3, none⟩ = some (.int .i64 y.port) := e3
  have HJ2 := Lib.hid hjn
  have HO2 := Lib.hid hn
  clear hn hjn HO HJ c0 c1 c2 c3 c4 e0 e1 e2 e3 e4 hset hfz hx4 hsz hg hg3
  go_wp2
  refine wp_region_junk (by kernel_rfl) (by kernel_rfl) ?_; (repeat (refine wpQuiet_step (fun K hK => ?_); (go_simp; try go_bits); first | (refine hK _ ?_; clear hK K) | (apply Exists.intro; refine ⟨fun _ => ?_, hK _ ?_⟩; (first | fail); clear hK K))); refine wpQuiet_nil ?_; rintro _ ⟨⟨osq, dq⟩, rfl⟩
  go_wp2
  go_returns
  have hlen : (L.set k (later xt y)).length = l := by rw [List.length_set, HL.out]
  exact ⟨some ⟨g, 0, none⟩, cap, by rw [show (L.set k (later xt y), y.port, (0 : Int)).1.length = l from hlen]; rfl, HJ2.out.trans (by (exact jkc)), by rw [show (L.set k (later xt y), y.port, (0 : Int)).1.length = l from hlen]; exact HO2.out.on (by (exact jkc)), by rw [show (L.set k (later xt y), y.port, (0 : Int)).1.length = l from hlen]; exact HO2.out.capLe.1⟩
end Go.Proofs.YtfhkhnoiolkkdaaGreatDoor
