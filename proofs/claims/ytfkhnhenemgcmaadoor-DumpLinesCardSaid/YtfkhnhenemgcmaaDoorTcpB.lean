/- Options in memory; tcp.known, tcp.right; the reference's sum. -/
import Derived.Test.YtfkhnhenemgcmaaDoorTcpA
import Derived.Test.YtfkhnhenemgcmaaDoorIcmpA
import Derived.LoopN
set_option linter.unusedVariables false
set_option maxRecDepth 100000
set_option linter.unusedSimpArgs false
namespace Go.Proofs.YtfkhnhenemgcmaaDoor
open Go.RowKit
theorem rpseudo_sum (a b c d e f : Int) (ha : 0 ≤ a ∧ a ≤ 65535) (hb : 0 ≤ b ∧ b ≤ 65535) (hc : 0 ≤ c ∧ c ≤ 65535) (hd : 0 ≤ d ∧ d ≤ 65535) (he : 0 ≤ e ∧ e ≤ 65535) (hf : 0 ≤ f ∧ f ≤ 65535) :
    joinI (joinI (joinI (joinI (joinI (joinI 0 a) b) c) d) e) f = foldI (a + b + c + d + e + f) := by
  rw [show (0 : Int) = foldI 0 from rfl, joinI_fold (by omega) ha, joinI_fold (by omega) hb, joinI_fold (by omega) hc, joinI_fold (by omega) hd, joinI_fold (by omega) he, joinI_fold (by omega) hf]
  congr 1
  omega
set_option maxHeartbeats 4000000 in
theorem rpseudo_any (src dst proto size : Int) (w : World) (h1 : 0 ≤ src ∧ src ≤ 4294967295) (h2 : 0 ≤ dst ∧ dst ≤ 4294967295) (h3 : 0 ≤ proto ∧ proto ≤ 65535) (h4 : 0 ≤ size ∧ size ≤ 65535) :
    Calls Tryd.prog 73 #[.int .u32 src, .int .u32 dst, .int .i64 proto, .int .i64 size] w fun e w' => e = .returned (.int .u16 (foldI (pseudoN src dst proto size))) ∧ Junk w w' := by
  obtain ⟨A, hA⟩ : ∃ A, src / 65536 = A := ⟨_, rfl⟩
  obtain ⟨B, hB⟩ : ∃ B, src % 65536 = B := ⟨_, rfl⟩
  obtain ⟨C, hC⟩ : ∃ C, dst / 65536 = C := ⟨_, rfl⟩
  obtain ⟨D, hD⟩ : ∃ D, dst % 65536 = D := ⟨_, rfl⟩
  have bA : 0 ≤ A ∧ A ≤ 65535 := by omega
  have bB : 0 ≤ B ∧ B ≤ 65535 := by omega
  have bC : 0 ≤ C ∧ C ≤ 65535 := by omega
  have bD : 0 ≤ D ∧ D ≤ 65535 := by omega
  have b0 : (0 : Int) ≤ 0 ∧ (0 : Int) ≤ 65535 := by omega
  have g1 := joinI_bd b0 bA
  have g2 := joinI_bd g1 bB
  have g3 := joinI_bd g2 bC
  have g4 := joinI_bd g3 bD
  have g5 := joinI_bd g4 h3
  have HE := Lib.hid (show joinI (joinI (joinI (joinI (joinI (joinI 0 A) B) C) D) proto) size = foldI (pseudoN src dst proto size) by rw [rpseudo_sum _ _ _ _ _ _ bA bB bC bD h3 h4]; unfold pseudoN; rw [hA, hB, hC, hD])
  rw [← HE.out]
  have j1 := fun w => join_any 0 A w b0 bA
  have j2 := fun w => join_any _ B w g1 bB
  have j3 := fun w => join_any _ C w g2 bC
  have j4 := fun w => join_any _ D w g3 bD
  have j5 := fun w => join_any _ proto w g4 h3
  have j6 := fun w => join_any _ size w g5 h4
  generalize joinI 0 A = J1 at *
  generalize joinI J1 B = J2 at *
  generalize joinI J2 C = J3 at *
  generalize joinI J3 D = J4 at *
  generalize joinI J4 proto = J5 at *
  generalize joinI J5 size = J6 at *
  have K1 := Lib.hid j1
  have K2 := Lib.hid j2
  have K3 := Lib.hid j3
  have K4 := Lib.hid j4
  have K5 := Lib.hid j5
  have K6 := Lib.hid j6
  clear j1 j2 j3 j4 j5 j6 HE
  go_enter Tryd.func73, Tryd.ntmps73
  go_wp2
  refine wp_loop_rounds 8 ?_
  rw [rounds_succ]
  go_wp2_with (first | (go_at_call 72; refine (K1.out _).mono ?_; rintro e w' ⟨rfl, rfl⟩))
  rw [rounds_succ]
  go_wp2_with (first | (go_at_call 72; refine (K2.out _).mono ?_; rintro e w' ⟨rfl, rfl⟩))
  rw [rounds_succ]
  go_wp2_with (first | (go_at_call 72; refine (K3.out _).mono ?_; rintro e w' ⟨rfl, rfl⟩))
  rw [rounds_succ]
  go_wp2_with (first | (go_at_call 72; refine (K4.out _).mono ?_; rintro e w' ⟨rfl, rfl⟩))
  rw [rounds_succ]
  go_wp2_with (first | (go_at_call 72; refine (K5.out _).mono ?_; rintro e w' ⟨rfl, rfl⟩))
  rw [rounds_succ]
  go_wp2_with (first | (go_at_call 72; refine (K6.out _).mono ?_; rintro e w' ⟨rfl, rfl⟩))
  rw [rounds_succ]
  go_wp2
  go_ret
  exact ⟨rfl, by ((try simp only [World.junk_junk, Array.append_assoc]); (repeat (first | with_reducible exact Junk.refl _ | with_reducible exact Junk.app _ _ _ _ _ | with_reducible exact Junk.app2 _ _ _ _ _ _ | with_reducible exact Junk.app3 _ _ _ _ _ _ _ | with_reducible exact Junk.app4 _ _ _ _ _ _ _ _ | with_reducible exact Junk.app5 _ _ _ _ _ _ _ _ _ | with_reducible apply Junk.alloc | with_reducible apply Junk.junk | with_reducible apply Junk.drew | with_reducible apply Junk.drewN)))⟩
set_option maxHeartbeats 400000 in
theorem rtsum_any (src dst : Int) (oa : Option Addr) (l c : Nat) (xs : Nat → Int) (w : World) (h1 : 0 ≤ src ∧ src ≤ 4294967295) (h2 : 0 ≤ dst ∧ dst ≤ 4294967295) (hl : l ≤ 65535) (hI : IntsAt w oa l .u8 xs) (hx : ∀ i, i < l → 0 ≤ xs i ∧ xs i ≤ 255) :
    Calls Tryd.prog 52 #[.int .u32 src, .int .u32 dst, .slice oa l c] w fun e w' => e = .returned (.int .u16 (tsumN src dst xs l)) ∧ Junk w w' := by
  have hp := pseudoN_bd (proto := 6) (size := (l : Int)) h1 h2 (by omega) (by omega)
  have hr := (rawN_bd xs l hx).1
  have hb := sumN_bd xs l hx
  have hb2 := foldI_bd _ hp
  have HI := Lib.hid hI
  have HX := Lib.hid hx
  have HE := Lib.hid (show joinI (foldI (pseudoN src dst 6 l)) (sumN xs l) = tsumN src dst xs l by rw [joinI_fold hp hb, ← foldI_add hp hb.1]; unfold sumN; rw [foldI_small (foldI_bd _ hr).1 (by have := (foldI_bd _ hr).2; omega), foldI_add hp hr]; rfl)
  clear hI hx
  go_enter Tryd.func52, Tryd.ntmps52
  go_wp2_with (first | (go_at_call 73; refine (rpseudo_any src dst 6 l _ h1 h2 (by omega) (by omega)).mono ?_; rintro e w' ⟨rfl, ⟨osj, dj, rfl⟩⟩) | (go_at_call 49; refine (rsum_any _ _ _ _ _ (by omega) (HI.out.on (by ((try simp only [World.junk_junk, Array.append_assoc]); (repeat (first | with_reducible exact Junk.refl _ | with_reducible exact Junk.app _ _ _ _ _ | with_reducible exact Junk.app2 _ _ _ _ _ _ | with_reducible exact Junk.app3 _ _ _ _ _ _ _ | with_reducible exact Junk.app4 _ _ _ _ _ _ _ _ | with_reducible exact Junk.app5 _ _ _ _ _ _ _ _ _ | with_reducible apply Junk.alloc | with_reducible apply Junk.junk | with_reducible apply Junk.drew | with_reducible apply Junk.drewN))))) HX.out).mono ?_; rintro e w' ⟨rfl, ⟨osj2, dj2, rfl⟩⟩) | (go_at_call 72; refine (join_any _ _ _ hb2 hb).mono ?_; rintro e w' ⟨rfl, rfl⟩))
  go_ret
  exact ⟨ret_int HE.out, by ((try simp only [World.junk_junk, Array.append_assoc]); (repeat (first | with_reducible exact Junk.refl _ | with_reducible exact Junk.app _ _ _ _ _ | with_reducible exact Junk.app2 _ _ _ _ _ _ | with_reducible exact Junk.app3 _ _ _ _ _ _ _ | with_reducible exact Junk.app4 _ _ _ _ _ _ _ _ | with_reducible exact Junk.app5 _ _ _ _ _ _ _ _ _ | with_reducible apply Junk.alloc | with_reducible apply Junk.junk | with_reducible apply Junk.drew | with_reducible apply Junk.drewN)))⟩
/-- An option, and where its data lies. -/
structure Ot where
  k : Int
  oa : Option Addr
  l : Nat
  c : Nat
  xs : Nat → Int
abbrev Ot.val (f : Ot) : Value := .agg #[.int .i64 f.k, .slice f.oa f.l f.c]
def Ot.cells (f : Ot) : List Value := [.int .i64 f.k, .slice f.oa f.l f.c]
/-- Options in memory. -/
def OsAt (w : World) (ob : Option Addr) (F : List Ot) : Prop := ∀ i f, F[i]? = some f → ∃ b off, ob = some ⟨b, off, none⟩ ∧ b < w.heap.size ∧
  w.cell? ⟨b, off + i * 2, none⟩ = some (.int .i64 f.k) ∧ w.cell? ⟨b, off + i * 2 + 1, none⟩ = some (.slice f.oa f.l f.c) ∧ Bts w f.oa f.l f.c f.xs
theorem OsAt.on {w w' : World} {ob : Option Addr} {F : List Ot} (h : OsAt w ob F) (hj : Junk w w') : OsAt w' ob F := fun i f hf => by
  obtain ⟨b, off, he, hlt, h0, h1, h2⟩ := h i f hf
  have hb := hj.below (Nat.le_refl _)
  exact ⟨b, off, he, Nat.lt_of_lt_of_le hlt hb.size, (hb.cell (p := ⟨b, _, none⟩) hlt).trans h0, (hb.cell (p := ⟨b, _, none⟩) hlt).trans h1, h2.on hj⟩
theorem OsAt.take {w : World} {ob : Option Addr} {F : List Ot} (h : OsAt w ob F) (k : Nat) : OsAt w ob (F.take k) := fun i f hf => h i f (by
  rw [List.getElem?_take] at hf
  split at hf
  · exact hf
  · cases hf)
theorem OsAt.nil (w : World) (ob : Option Addr) : OsAt w ob [] := fun i f hf => by simp at hf
def knownB (k : Int) : Bool := decide (k = 2 ∨ k = 3 ∨ k = 4 ∨ k = 5 ∨ k = 8)
def okSize (k : Int) (l : Nat) : Bool := decide ((k = 2 ∧ l = 2) ∨ (k = 3 ∧ l = 1) ∨ (k = 4 ∧ l = 0) ∨ (k = 5 ∧ (l = 8 ∨ l = 16 ∨ l = 24 ∨ l = 32)) ∨ (k = 8 ∧ l = 8))
def KnownM (w : World) (k : Int) (e : Ending) (w' : World) : Prop :=
  ∃ oa n vs, e = .returned (.tuple #[.slice oa n n, .bool (knownB k)]) ∧ Junk w w' ∧ n ≤ 10 ∧ IntsAt w' oa n .i64 vs ∧ (knownB k = true → ∀ l : Nat, hasI vs n (l : Int) = okSize k l)
theorem lits_at {w : World} {vs : List Value} {ns : List Int} {e : TypeId} (h : vs = ns.map (Value.int .i64)) : IntsAt (w.alloc (.cells vs.toArray e)) (some ⟨w.heap.size, 0, none⟩) ns.length .i64 (fun i => ns[i]?.getD 0) := fun i hi => by
  subst h
  refine ⟨w.heap.size, 0, rfl, by simp, ?_⟩
  rw [World.cell?_alloc_new]
  simp [List.getElem?_eq_getElem hi]
theorem has1 (v : Int) (l : Nat) : hasI (fun i => ([v] : List Int)[i]?.getD 0) 1 (l : Int) = decide ((l : Int) = v) := by
  unfold hasI
  rw [Bool.eq_iff_iff]
  simp only [decide_eq_true_eq]
  constructor
  · rintro ⟨i, hi, hx⟩
    obtain rfl : i = 0 := by omega
    simpa using hx.symm
  · intro h
    exact ⟨0, by omega, by simp [h]⟩
theorem has4 (a b c d : Int) (l : Nat) : hasI (fun i => ([a, b, c, d] : List Int)[i]?.getD 0) 4 (l : Int) = decide ((l : Int) = a ∨ (l : Int) = b ∨ (l : Int) = c ∨ (l : Int) = d) := by
  unfold hasI
  rw [Bool.eq_iff_iff]
  simp only [decide_eq_true_eq]
  constructor
  · rintro ⟨i, hi, hx⟩
    rcases (show i = 0 ∨ i = 1 ∨ i = 2 ∨ i = 3 by omega) with rfl | rfl | rfl | rfl <;> simp at hx <;> simp [hx]
  · rintro (h | h | h | h)
    · exact ⟨0, by omega, by simp [h]⟩
    · exact ⟨1, by omega, by simp [h]⟩
    · exact ⟨2, by omega, by simp [h]⟩
    · exact ⟨3, by omega, by simp [h]⟩
theorem known_any (k : Int) (w : World) : Calls Tryd.prog 90 #[.int .i64 k] w (KnownM w k) := by
  by_cases h2 : k = 2
  · subst h2
    go_enter Tryd.func90, Tryd.ntmps90
    go_wp2
    go_returns
    exact ⟨_, 1, _, rfl, by ((try simp only [World.junk_junk, Array.append_assoc]); (repeat (first | with_reducible exact Junk.refl _ | with_reducible exact Junk.app _ _ _ _ _ | with_reducible exact Junk.app2 _ _ _ _ _ _ | with_reducible exact Junk.app3 _ _ _ _ _ _ _ | with_reducible exact Junk.app4 _ _ _ _ _ _ _ _ | with_reducible exact Junk.app5 _ _ _ _ _ _ _ _ _ | with_reducible apply Junk.alloc | with_reducible apply Junk.junk | with_reducible apply Junk.drew | with_reducible apply Junk.drewN))), by omega, lits_at (vs := [.int .i64 2]) (ns := [2]) rfl, fun _ l => (has1 2 l).trans (by rw [Bool.eq_iff_iff]; simp [okSize]; omega)⟩
  by_cases h3 : k = 3
  · subst h3
    go_enter Tryd.func90, Tryd.ntmps90
    go_wp2
    go_returns
    exact ⟨_, 1, _, rfl, by ((try simp only [World.junk_junk, Array.append_assoc]); (repeat (first | with_reducible exact Junk.refl _ | with_reducible exact Junk.app _ _ _ _ _ | with_reducible exact Junk.app2 _ _ _ _ _ _ | with_reducible exact Junk.app3 _ _ _ _ _ _ _ | with_reducible exact Junk.app4 _ _ _ _ _ _ _ _ | with_reducible exact Junk.app5 _ _ _ _ _ _ _ _ _ | with_reducible apply Junk.alloc | with_reducible apply Junk.junk | with_reducible apply Junk.drew | with_reducible apply Junk.drewN))), by omega, lits_at (vs := [.int .i64 1]) (ns := [1]) rfl, fun _ l => (has1 1 l).trans (by rw [Bool.eq_iff_iff]; simp [okSize]; try omega)⟩
  by_cases h4 : k = 4
  · subst h4
    go_enter Tryd.func90, Tryd.ntmps90
    go_wp2
    go_returns
    exact ⟨_, 1, _, rfl, by ((try simp only [World.junk_junk, Array.append_assoc]); (repeat (first | with_reducible exact Junk.refl _ | with_reducible exact Junk.app _ _ _ _ _ | with_reducible exact Junk.app2 _ _ _ _ _ _ | with_reducible exact Junk.app3 _ _ _ _ _ _ _ | with_reducible exact Junk.app4 _ _ _ _ _ _ _ _ | with_reducible exact Junk.app5 _ _ _ _ _ _ _ _ _ | with_reducible apply Junk.alloc | with_reducible apply Junk.junk | with_reducible apply Junk.drew | with_reducible apply Junk.drewN))), by omega, lits_at (vs := [.int .i64 0]) (ns := [0]) rfl, fun _ l => (has1 0 l).trans (by rw [Bool.eq_iff_iff]; simp [okSize]; try omega)⟩
  by_cases h5 : k = 5
  · subst h5
    go_enter Tryd.func90, Tryd.ntmps90
    go_wp2
    go_returns
    exact ⟨_, 4, _, rfl, by ((try simp only [World.junk_junk, Array.append_assoc]); (repeat (first | with_reducible exact Junk.refl _ | with_reducible exact Junk.app _ _ _ _ _ | with_reducible exact Junk.app2 _ _ _ _ _ _ | with_reducible exact Junk.app3 _ _ _ _ _ _ _ | with_reducible exact Junk.app4 _ _ _ _ _ _ _ _ | with_reducible exact Junk.app5 _ _ _ _ _ _ _ _ _ | with_reducible apply Junk.alloc | with_reducible apply Junk.junk | with_reducible apply Junk.drew | with_reducible apply Junk.drewN))), by omega, lits_at (vs := [.int .i64 8, .int .i64 16, .int .i64 24, .int .i64 32]) (ns := [8, 16, 24, 32]) rfl, fun _ l => (has4 8 16 24 32 l).trans (by rw [Bool.eq_iff_iff]; simp [okSize]; try omega)⟩
  by_cases h8 : k = 8
  · subst h8
    go_enter Tryd.func90, Tryd.ntmps90
    go_wp2
    go_returns
    exact ⟨_, 1, _, rfl, by ((try simp only [World.junk_junk, Array.append_assoc]); (repeat (first | with_reducible exact Junk.refl _ | with_reducible exact Junk.app _ _ _ _ _ | with_reducible exact Junk.app2 _ _ _ _ _ _ | with_reducible exact Junk.app3 _ _ _ _ _ _ _ | with_reducible exact Junk.app4 _ _ _ _ _ _ _ _ | with_reducible exact Junk.app5 _ _ _ _ _ _ _ _ _ | with_reducible apply Junk.alloc | with_reducible apply Junk.junk | with_reducible apply Junk.drew | with_reducible apply Junk.drewN))), by omega, lits_at (vs := [.int .i64 8]) (ns := [8]) rfl, fun _ l => (has1 8 l).trans (by rw [Bool.eq_iff_iff]; simp [okSize]; try omega)⟩
  have hk : knownB k = false := by simp [knownB, h2, h3, h4, h5, h8]
  have e2 : (k == 2) = false := by simpa using h2
  have e3 : (k == 3) = false := by simpa using h3
  have e4 : (k == 4) = false := by simpa using h4
  have e5 : (k == 5) = false := by simpa using h5
  have e8 : (k == 8) = false := by simpa using h8
  have HK := Lib.hid hk
  clear h2 h3 h4 h5 h8 hk
  unfold KnownM
  rw [HK.out]
  go_enter Tryd.func90, Tryd.ntmps90
  go_wp2
  go_returns
  exact ⟨none, 0, fun _ => 0, rfl, by ((try simp only [World.junk_junk, Array.append_assoc]); (repeat (first | with_reducible exact Junk.refl _ | with_reducible exact Junk.app _ _ _ _ _ | with_reducible exact Junk.app2 _ _ _ _ _ _ | with_reducible exact Junk.app3 _ _ _ _ _ _ _ | with_reducible exact Junk.app4 _ _ _ _ _ _ _ _ | with_reducible exact Junk.app5 _ _ _ _ _ _ _ _ _ | with_reducible apply Junk.alloc | with_reducible apply Junk.junk | with_reducible apply Junk.drew | with_reducible apply Junk.drewN))), by omega, fun i hi => by omega, fun h => by cases h⟩
theorem right1_any (f : Ot) (g : Nat) (kk : Int) (w : World) (hg : g < w.heap.size) (hc : w.cell? ⟨g, 0, none⟩ = some (.int .i64 kk)) :
    Calls Tryd.prog 93 #[f.val, .pointer (some ⟨g, 0, none⟩)] w fun e w' => e = .returned (.bool (f.k == kk)) ∧ Junk w w' := by
  obtain ⟨k, oa, l, c, xs⟩ := f
  go_enter Tryd.func93, Tryd.ntmps93
  go_wp2
  go_ret
  exact ⟨rfl, by (repeat (first | with_reducible exact Junk.refl _ | with_reducible exact Junk.app _ _ _ _ _ | with_reducible apply Junk.alloc | with_reducible apply Junk.junk | with_reducible apply Junk.drew | with_reducible apply Junk.drewN))⟩
def idxI : Option Nat → Int
  | some i => (i : Int)
  | none => -1
theorem findIdx_at {α : Type} {L : List α} {pr : α → Bool} {k : Nat} {x : α} (h : ∀ j, j < k → ∀ y, L[j]? = some y → pr y = false) (hx : L[k]? = some x) (hp : pr x = true) : L.findIdx? pr = some k := by
  have hk : k < L.length := (List.getElem?_eq_some_iff.1 hx).1
  rw [List.findIdx?_eq_some_iff_getElem]
  refine ⟨hk, ?_, fun j hj => ?_⟩
  · rw [List.getElem?_eq_getElem hk] at hx
    cases hx
    exact hp
  · have := h j hj _ (List.getElem?_eq_getElem (by omega))
    simp [this]
theorem findIdx_no {α : Type} {L : List α} {pr : α → Bool} (h : ∀ j, j < L.length → ∀ y, L[j]? = some y → pr y = false) : L.findIdx? pr = none := by
  rw [List.findIdx?_eq_none_iff]
  intro x hx
  obtain ⟨j, hj, rfl⟩ := List.getElem_of_mem hx
  exact h j hj _ (List.getElem?_eq_getElem hj)
theorem indexR_any (oa : Option Addr) (l c : Nat) (L : List Ot) (pr : Ot → Bool) (v1 : Value) (w : World) (hl : l ≤ 1000000) (hL : L.length = l) (hS : OsAt w oa L)
    (hf : ∀ w1, Junk w w1 → ∀ x, Calls Tryd.prog 93 #[x.val, v1] w1 fun e w' => e = .returned (.bool (pr x)) ∧ Junk w1 w') :
    Calls Tryd.prog 97 #[.slice oa l c, .func (.func 93) #[] #[v1]] w fun e w' => e = .returned (.int .i64 (idxI (L.findIdx? pr))) ∧ Junk w w' := by
  have HS := Lib.hid hS
  have HF := Lib.hid hf
  clear hS hf
  obtain ⟨T, hT⟩ : ∃ T, T = idxI (L.findIdx? pr) := ⟨_, rfl⟩
  rw [← hT]
  have HT := Lib.hid hT
  have HL := Lib.hid hL
  clear hT hL
  go_enter Tryd.func97, Tryd.ntmps97
  go_wp2
  go_loopw [8] (fun i wr => ∃ k : Nat, i = .int .i64 (k : Int) ∧ Junk w wr ∧ k ≤ l ∧ Hid (∀ j, j < k → ∀ y, L[j]? = some y → pr y = false)) (fun i _ => l + 1 - (intOf i).toNat)
  case atStart => exact ⟨0, rfl, by ((try simp only [World.junk_junk, Array.append_assoc]); (repeat (first | with_reducible exact Junk.refl _ | with_reducible exact Junk.app _ _ _ _ _ | with_reducible exact Junk.app2 _ _ _ _ _ _ | with_reducible exact Junk.app3 _ _ _ _ _ _ _ | with_reducible exact Junk.app4 _ _ _ _ _ _ _ _ | with_reducible exact Junk.app5 _ _ _ _ _ _ _ _ _ | with_reducible apply Junk.alloc | with_reducible apply Junk.junk | with_reducible apply Junk.drew | with_reducible apply Junk.drewN))), by omega, Lib.hid (fun j hj => by omega)⟩
  case round =>
    obtain ⟨k, rfl, ⟨os, d, rfl⟩, hk, hN⟩ := hrel
    by_cases hkl : k < l
    · have hk2 : (k : Int) < (l : Int) := by omega
      obtain ⟨x, hx⟩ : ∃ x, L[k]? = some x := ⟨_, List.getElem?_eq_getElem (by rw [HL.out]; exact hkl)⟩
      obtain ⟨b, off, rfl, hb, c0, c1, hbt⟩ := HS.out k x hx
      have HX := Lib.hid hx
      clear hx hbt
      cases hp : pr x with
      | true =>
        have HE := Lib.hid (show T = (k : Int) by rw [HT.out, findIdx_at hN.out HX.out hp]; rfl)
        go_wp2_with (first | (go_at_call 93; refine (HF.out _ (by ((try simp only [World.junk_junk, Array.append_assoc]); (repeat (first | with_reducible exact Junk.refl _ | with_reducible exact Junk.app _ _ _ _ _ | with_reducible exact Junk.app2 _ _ _ _ _ _ | with_reducible exact Junk.app3 _ _ _ _ _ _ _ | with_reducible exact Junk.app4 _ _ _ _ _ _ _ _ | with_reducible exact Junk.app5 _ _ _ _ _ _ _ _ _ | with_reducible apply Junk.alloc | with_reducible apply Junk.junk | with_reducible apply Junk.drew | with_reducible apply Junk.drewN)))) x).mono ?_; rintro e w' ⟨rfl, ⟨osj, dj, rfl⟩⟩; rw [hp]))
        go_ret
        exact ⟨by rw [HE.out]; rfl, by ((try simp only [World.junk_junk, Array.append_assoc]); (repeat (first | with_reducible exact Junk.refl _ | with_reducible exact Junk.app _ _ _ _ _ | with_reducible exact Junk.app2 _ _ _ _ _ _ | with_reducible exact Junk.app3 _ _ _ _ _ _ _ | with_reducible exact Junk.app4 _ _ _ _ _ _ _ _ | with_reducible exact Junk.app5 _ _ _ _ _ _ _ _ _ | with_reducible apply Junk.alloc | with_reducible apply Junk.junk | with_reducible apply Junk.drew | with_reducible apply Junk.drewN)))⟩
      | false =>
        have HN2 := Lib.hid (show ∀ j, j < k + 1 → ∀ y, L[j]? = some y → pr y = false from fun j hj y hy => by
          by_cases h : j = k
          · subst h; rw [HX.out] at hy; cases hy; exact hp
          · exact hN.out j (by omega) y hy)
        go_wp2_with (first | (go_at_call 93; refine (HF.out _ (by ((try simp only [World.junk_junk, Array.append_assoc]); (repeat (first | with_reducible exact Junk.refl _ | with_reducible exact Junk.app _ _ _ _ _ | with_reducible exact Junk.app2 _ _ _ _ _ _ | with_reducible exact Junk.app3 _ _ _ _ _ _ _ | with_reducible exact Junk.app4 _ _ _ _ _ _ _ _ | with_reducible exact Junk.app5 _ _ _ _ _ _ _ _ _ | with_reducible apply Junk.alloc | with_reducible apply Junk.junk | with_reducible apply Junk.drew | with_reducible apply Junk.drewN)))) x).mono ?_; rintro e w' ⟨rfl, ⟨osj, dj, rfl⟩⟩; rw [hp]))
        exact ⟨⟨k + 1, by go_num, by ((try simp only [World.junk_junk, Array.append_assoc]); (repeat (first | with_reducible exact Junk.refl _ | with_reducible exact Junk.app _ _ _ _ _ | with_reducible exact Junk.app2 _ _ _ _ _ _ | with_reducible exact Junk.app3 _ _ _ _ _ _ _ | with_reducible exact Junk.app4 _ _ _ _ _ _ _ _ | with_reducible exact Junk.app5 _ _ _ _ _ _ _ _ _ | with_reducible apply Junk.alloc | with_reducible apply Junk.junk | with_reducible apply Junk.drew | with_reducible apply Junk.drewN))), by omega, HN2⟩, by simp [intOf]; omega⟩
    · have hk2 : ¬ (k : Int) < (l : Int) := by omega
      obtain rfl : k = l := by omega
      have HE := Lib.hid (show T = -1 by rw [HT.out, findIdx_no (by rw [HL.out]; exact hN.out)]; rfl)
      go_wp2
      go_ret
      exact ⟨by rw [HE.out]; rfl, by ((try simp only [World.junk_junk, Array.append_assoc]); (repeat (first | with_reducible exact Junk.refl _ | with_reducible exact Junk.app _ _ _ _ _ | with_reducible exact Junk.app2 _ _ _ _ _ _ | with_reducible exact Junk.app3 _ _ _ _ _ _ _ | with_reducible exact Junk.app4 _ _ _ _ _ _ _ _ | with_reducible exact Junk.app5 _ _ _ _ _ _ _ _ _ | with_reducible apply Junk.alloc | with_reducible apply Junk.junk | with_reducible apply Junk.drew | with_reducible apply Junk.drewN)))⟩
theorem containsR_any (oa : Option Addr) (l c : Nat) (L : List Ot) (pr : Ot → Bool) (v1 : Value) (w : World) (hl : l ≤ 1000000) (hL : L.length = l) (hS : OsAt w oa L)
    (hf : ∀ w1, Junk w w1 → ∀ x, Calls Tryd.prog 93 #[x.val, v1] w1 fun e w' => e = .returned (.bool (pr x)) ∧ Junk w1 w') :
    Calls Tryd.prog 92 #[.slice oa l c, .func (.func 93) #[] #[v1]] w fun e w' => e = .returned (.bool (L.any pr)) ∧ Junk w w' := by
  have h0 := fun w1 (h : w = w1) => indexR_any oa l c L pr v1 w hl hL hS hf
  have HI := Lib.hid (indexR_any oa l c L pr v1 w hl hL hS hf)
  have hany : L.any pr = decide (0 ≤ idxI (L.findIdx? pr)) := by
    cases hi : L.findIdx? pr with
    | none =>
      rw [List.findIdx?_eq_none_iff] at hi
      rw [show decide ((0 : Int) ≤ idxI none) = false by decide]
      rw [List.any_eq_false]
      intro x hx
      simp [hi x hx]
    | some i =>
      obtain ⟨h1, h2, _⟩ := List.findIdx?_eq_some_iff_getElem.1 hi
      rw [show decide ((0 : Int) ≤ idxI (some i)) = true by simp [idxI]]
      rw [List.any_eq_true]
      exact ⟨_, List.getElem_mem h1, h2⟩
  rw [hany]
  generalize idxI (L.findIdx? pr) = T at HI
  clear h0 hany hS hf
  by_cases hT : 0 ≤ T
  · go_enter Tryd.func92, Tryd.ntmps92
    go_wp2_with (first | (go_at_call 97; refine HI.out.mono ?_; rintro e w' ⟨rfl, ⟨osj, dj, rfl⟩⟩))
    go_ret
    exact ⟨ret_bool (by simp [hT]), by ((try simp only [World.junk_junk, Array.append_assoc]); (repeat (first | with_reducible exact Junk.refl _ | with_reducible exact Junk.app _ _ _ _ _ | with_reducible exact Junk.app2 _ _ _ _ _ _ | with_reducible exact Junk.app3 _ _ _ _ _ _ _ | with_reducible exact Junk.app4 _ _ _ _ _ _ _ _ | with_reducible exact Junk.app5 _ _ _ _ _ _ _ _ _ | with_reducible apply Junk.alloc | with_reducible apply Junk.junk | with_reducible apply Junk.drew | with_reducible apply Junk.drewN)))⟩
  · go_enter Tryd.func92, Tryd.ntmps92
    go_wp2_with (first | (go_at_call 97; refine HI.out.mono ?_; rintro e w' ⟨rfl, ⟨osj, dj, rfl⟩⟩))
    go_ret
    exact ⟨ret_bool (by simp [hT]), by ((try simp only [World.junk_junk, Array.append_assoc]); (repeat (first | with_reducible exact Junk.refl _ | with_reducible exact Junk.app _ _ _ _ _ | with_reducible exact Junk.app2 _ _ _ _ _ _ | with_reducible exact Junk.app3 _ _ _ _ _ _ _ | with_reducible exact Junk.app4 _ _ _ _ _ _ _ _ | with_reducible exact Junk.app5 _ _ _ _ _ _ _ _ _ | with_reducible apply Junk.alloc | with_reducible apply Junk.junk | with_reducible apply Junk.drew | with_reducible apply Junk.drewN)))⟩
/-- May an option stand behind those? -/
def rightO (F : List Ot) (k : Int) (l : Nat) : Bool := decide (2 ≤ k ∧ k ≤ 255) && (!knownB k || (okSize k l && !(F.any fun f => f.k == k)))
theorem right_any (ob : Option Addr) (n c : Nat) (F : List Ot) (f : Ot) (w : World) (hn : n ≤ 1000000) (hF : F.length = n) (hS : OsAt w ob F) (hl : f.l ≤ 100000000) :
    Calls Tryd.prog 81 #[.slice ob n c, f.val] w fun e w' => e = .returned (.bool (rightO F f.k f.l)) ∧ Junk w w' := by
  have HS := Lib.hid hS
  have HF := Lib.hid hF
  have hmf : ∀ (fn : Fn) (first cap : Array Value) (w : World), (Instr.makeFunc fn first cap).run Tryd.prog w = .ok (.func fn first cap) w := fun _ _ _ _ => rfl
  obtain ⟨k, oa, l, cc, xs⟩ := f
  dsimp only at hl
  clear hS hF
  obtain ⟨T, hT⟩ : ∃ T, T = rightO F k l := ⟨_, rfl⟩
  have HT := Lib.hid hT
  show Calls _ _ _ _ fun e w' => e = .returned (.bool (rightO F k l)) ∧ Junk w w'
  rw [← hT]
  clear hT
  by_cases h1 : 2 ≤ k
  case neg =>
    have HE := Lib.hid (show T = false by rw [HT.out]; unfold rightO; rw [decide_eq_false (by omega)]; rfl)
    have h1' : k < 2 := by omega
    go_enter Tryd.func81, Tryd.ntmps81
    go_wp2
    go_ret
    exact ⟨by rw [HE.out] <;> rfl, by ((try simp only [World.junk_junk, Array.append_assoc]); (repeat (first | with_reducible exact Junk.refl _ | with_reducible exact Junk.app _ _ _ _ _ | with_reducible exact Junk.app2 _ _ _ _ _ _ | with_reducible exact Junk.app3 _ _ _ _ _ _ _ | with_reducible exact Junk.app4 _ _ _ _ _ _ _ _ | with_reducible exact Junk.app5 _ _ _ _ _ _ _ _ _ | with_reducible apply Junk.alloc | with_reducible apply Junk.junk | with_reducible apply Junk.drew | with_reducible apply Junk.drewN)))⟩
  by_cases h2 : k ≤ 255
  case neg =>
    have HE := Lib.hid (show T = false by rw [HT.out]; unfold rightO; rw [decide_eq_false (by omega)]; rfl)
    have h1' : ¬ k < 2 := by omega
    have h2' : 255 < k := by omega
    go_enter Tryd.func81, Tryd.ntmps81
    go_wp2
    go_ret
    exact ⟨by rw [HE.out] <;> rfl, by ((try simp only [World.junk_junk, Array.append_assoc]); (repeat (first | with_reducible exact Junk.refl _ | with_reducible exact Junk.app _ _ _ _ _ | with_reducible exact Junk.app2 _ _ _ _ _ _ | with_reducible exact Junk.app3 _ _ _ _ _ _ _ | with_reducible exact Junk.app4 _ _ _ _ _ _ _ _ | with_reducible exact Junk.app5 _ _ _ _ _ _ _ _ _ | with_reducible apply Junk.alloc | with_reducible apply Junk.junk | with_reducible apply Junk.drew | with_reducible apply Junk.drewN)))⟩
  have h1' : ¬ k < 2 := by omega
  have h2' : ¬ 255 < k := by omega
  have kn := fun w1 => known_any k w1
  cases hk : knownB k with
  | false =>
    have HE := Lib.hid (show T = true by rw [HT.out]; unfold rightO; rw [decide_eq_true ⟨h1, h2⟩, hk]; rfl)
    have HK := Lib.hid hk
    have KN := Lib.hid kn
    clear kn hk h1 h2
    go_enter Tryd.func81, Tryd.ntmps81
    go_wp2_with (first | (go_at_call 90; refine (KN.out _).mono ?_; rintro e w' ⟨ok, nk, vk, rfl, ⟨osk, dk, rfl⟩, hnk, hvk, _⟩; rw [HK.out]; clear hvk))
    go_ret
    exact ⟨by rw [HE.out] <;> rfl, by ((try simp only [World.junk_junk, Array.append_assoc]); (repeat (first | with_reducible exact Junk.refl _ | with_reducible exact Junk.app _ _ _ _ _ | with_reducible exact Junk.app2 _ _ _ _ _ _ | with_reducible exact Junk.app3 _ _ _ _ _ _ _ | with_reducible exact Junk.app4 _ _ _ _ _ _ _ _ | with_reducible exact Junk.app5 _ _ _ _ _ _ _ _ _ | with_reducible apply Junk.alloc | with_reducible apply Junk.junk | with_reducible apply Junk.drew | with_reducible apply Junk.drewN)))⟩
  | true =>
    have HK := Lib.hid hk
    have KN := Lib.hid kn
    cases hz : okSize k l with
    | false =>
      have HE := Lib.hid (show T = false by rw [HT.out]; unfold rightO; rw [decide_eq_true ⟨h1, h2⟩, hk, hz]; rfl)
      have HZ := Lib.hid hz
      clear kn hk h1 h2 hz
      go_enter Tryd.func81, Tryd.ntmps81
      go_wp2_with (first | (go_at_call 90; refine (KN.out _).mono ?_; rintro e w' ⟨ok, nk, vk, rfl, ⟨osk, dk, rfl⟩, hnk, hvk, hsz⟩; rw [HK.out]; have HV := Lib.hid hvk; have HSZ := Lib.hid (hsz HK.out); clear hvk hsz) | (go_at_call 91; refine (contains_any ok nk nk vk (l : Int) _ (by omega) (HV.out.on (by ((try simp only [World.junk_junk, Array.append_assoc]); (repeat (first | with_reducible exact Junk.refl _ | with_reducible exact Junk.app _ _ _ _ _ | with_reducible exact Junk.app2 _ _ _ _ _ _ | with_reducible exact Junk.app3 _ _ _ _ _ _ _ | with_reducible exact Junk.app4 _ _ _ _ _ _ _ _ | with_reducible exact Junk.app5 _ _ _ _ _ _ _ _ _ | with_reducible apply Junk.alloc | with_reducible apply Junk.junk | with_reducible apply Junk.drew | with_reducible apply Junk.drewN)))))).mono ?_; rintro e w' ⟨rfl, rfl⟩; rw [HSZ.out, HZ.out]))
      go_ret
      exact ⟨by rw [HE.out] <;> rfl, by ((try simp only [World.junk_junk, Array.append_assoc]); (repeat (first | with_reducible exact Junk.refl _ | with_reducible exact Junk.app _ _ _ _ _ | with_reducible exact Junk.app2 _ _ _ _ _ _ | with_reducible exact Junk.app3 _ _ _ _ _ _ _ | with_reducible exact Junk.app4 _ _ _ _ _ _ _ _ | with_reducible exact Junk.app5 _ _ _ _ _ _ _ _ _ | with_reducible apply Junk.alloc | with_reducible apply Junk.junk | with_reducible apply Junk.drew | with_reducible apply Junk.drewN)))⟩
    | true =>
      have HE := Lib.hid (show T = !(F.any fun f => f.k == k) by rw [HT.out]; unfold rightO; rw [decide_eq_true ⟨h1, h2⟩, hk, hz]; rfl)
      have HZ := Lib.hid hz
      clear kn hk h1 h2 hz
      go_enter Tryd.func81, Tryd.ntmps81
      go_wp2_with (first | (go_at_call 90; refine (KN.out _).mono ?_; rintro e w' ⟨ok, nk, vk, rfl, ⟨osk, dk, rfl⟩, hnk, hvk, hsz⟩; rw [HK.out]; have HV := Lib.hid hvk; have HSZ := Lib.hid (hsz HK.out); clear hvk hsz) | (go_at_call 91; refine (contains_any ok nk nk vk (l : Int) _ (by omega) (HV.out.on (by ((try simp only [World.junk_junk, Array.append_assoc]); (repeat (first | with_reducible exact Junk.refl _ | with_reducible exact Junk.app _ _ _ _ _ | with_reducible exact Junk.app2 _ _ _ _ _ _ | with_reducible exact Junk.app3 _ _ _ _ _ _ _ | with_reducible exact Junk.app4 _ _ _ _ _ _ _ _ | with_reducible exact Junk.app5 _ _ _ _ _ _ _ _ _ | with_reducible apply Junk.alloc | with_reducible apply Junk.junk | with_reducible apply Junk.drew | with_reducible apply Junk.drewN)))))).mono ?_; rintro e w' ⟨rfl, rfl⟩; rw [HSZ.out, HZ.out]) | (go_at_call 92; refine (containsR_any ob n c F (fun f => f.k == k) _ _ hn HF.out (HS.out.on (by ((try simp only [World.junk_junk, Array.append_assoc]); (repeat (first | with_reducible exact Junk.refl _ | with_reducible exact Junk.app _ _ _ _ _ | with_reducible exact Junk.app2 _ _ _ _ _ _ | with_reducible exact Junk.app3 _ _ _ _ _ _ _ | with_reducible exact Junk.app4 _ _ _ _ _ _ _ _ | with_reducible exact Junk.app5 _ _ _ _ _ _ _ _ _ | with_reducible apply Junk.alloc | with_reducible apply Junk.junk | with_reducible apply Junk.drew | with_reducible apply Junk.drewN))))) (fun w1 hj x => right1_any x w.heap.size k w1 (Nat.lt_of_lt_of_le (by simp; try omega) hj.size) (((hj.below (Nat.le_refl _)).cell (p := ⟨w.heap.size, 0, none⟩) (by simp; try omega)).trans (by simp [go_sem])))).mono ?_; rintro e w' ⟨rfl, ⟨osc, dc, rfl⟩⟩))
      go_ret
      exact ⟨by rw [HE.out] <;> rfl, by ((try simp only [World.junk_junk, Array.append_assoc]); (repeat (first | with_reducible exact Junk.refl _ | with_reducible exact Junk.app _ _ _ _ _ | with_reducible exact Junk.app2 _ _ _ _ _ _ | with_reducible exact Junk.app3 _ _ _ _ _ _ _ | with_reducible exact Junk.app4 _ _ _ _ _ _ _ _ | with_reducible exact Junk.app5 _ _ _ _ _ _ _ _ _ | with_reducible apply Junk.alloc | with_reducible apply Junk.junk | with_reducible apply Junk.drew | with_reducible apply Junk.drewN)))⟩
end Go.Proofs.YtfkhnhenemgcmaaDoor
