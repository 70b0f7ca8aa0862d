/- The law ErrorTells: an error that is told of a packet with a tuple names that tuple; turned it is about the packet with the new name. -/
import Derived.Test.YtnefphinmjeacaaTcpD
import Derived.Test.YtnefphinmjeacaaLift2
import Derived.Test.YtnefphinmjeacaaRowAp
import Derived.Test.YtnefphinmjeacaaIcmpPut
import Derived.LoopN
import Derived.Test.YtnefphinmjeacaaTupP
import Derived.Test.YtnefphinmjeacaaMix3
import Derived.Test.YtnefphinmjeacaaMix
import Derived.Laws.BitsAllLaws
import Derived.Test.YtnefphinmjeacaaUdpA
import Derived.Test.YtnefphinmjeacaaIcmpParse
import Derived.Test.YtnefphinmjeacaaBits
import Derived.Test.YtnefphinmjeacaaInD12
import Derived.Test.YtnefphinmjeacaaInD16
import Derived.Test.YtnefphinmjeacaaUdpB
import Derived.Test.YtnefphinmjeacaaIpSame
import Derived.Test.YtnefphinmjeacaaIcmpTell
import Derived.Test.YtnefphinmjeacaaInP
import Derived.Test.YtnefphinmjeacaaSumPlain
set_option linter.unusedVariables false
set_option maxRecDepth 100000
set_option linter.unusedSimpArgs false
namespace Go.Proofs.Ytnefphinmjeacaa
open Go.RowKit
def numI (xs : Nat → Int) : Nat → Int
  | 0 => 0
  | k + 1 => numI xs k * 256 + xs k
theorem numI_bd (xs : Nat → Int) : ∀ k, k ≤ 4 → (∀ i, i < k → 0 ≤ xs i ∧ xs i ≤ 255) → 0 ≤ numI xs k ∧ numI xs k ≤ 4294967295 ∧ (k ≤ 3 → numI xs k ≤ 16777215)
  | 0, _, _ => by simp [numI]
  | k + 1, hk, h => by
    obtain ⟨h1, h2, h3⟩ := numI_bd xs k (by omega) (fun i hi => h i (by omega))
    have h4 := h k (by omega)
    have h5 := h3 (by omega)
    simp only [numI]
    refine ⟨by omega, by omega, fun hk3 => ?_⟩
    rcases (show k = 0 ∨ k = 1 ∨ k = 2 by omega) with rfl | rfl | rfl
    · simp [numI] at *; omega
    · have := h 0 (by omega); simp [numI] at *; omega
    · have := h 0 (by omega); have := h 1 (by omega); simp [numI] at *; omega
def optsN (F : List Ot) : Nat := (F.map fun f => 2 + f.l).sum
def rtAll (F : List Ot) : Bool := decide (∀ i, i < F.length → ∀ f, F[i]? = some f → rightO (F.take i) f.k f.l = true ∧ optsN (F.take (i + 1)) ≤ 40)
theorem rtAll_bad {F : List Ot} {i : Nat} {f : Ot} (hf : F[i]? = some f) (h : rightO (F.take i) f.k f.l = false ∨ 40 < optsN (F.take (i + 1))) : rtAll F = false := by
  unfold rtAll
  rw [decide_eq_false_iff_not]
  intro ha
  obtain ⟨h1, h2⟩ := ha i (List.getElem?_eq_some_iff.1 hf).1 f hf
  rcases h with h | h
  · rw [h1] at h; cases h
  · omega
theorem take_succ4 {α : Type} {L : List α} {k : Nat} {x : α} (h : L[k]? = some x) : L.take (k + 1) = L.take k ++ [x] := by
  rw [List.take_add_one, h]; rfl
theorem optsN_succ {F : List Ot} {i : Nat} {f : Ot} (hf : F[i]? = some f) : optsN (F.take (i + 1)) = optsN (F.take i) + (2 + f.l) := by
  unfold optsN
  rw [take_succ4 hf, List.map_append, List.sum_append]
  simp
theorem any_take {F : List Ot} {i : Nat} {k : Int} (h : ∀ q, q < i → ∀ g, F[q]? = some g → (g.k == k) = false) : ((F.take i).any fun f => f.k == k) = false := by
  rw [List.any_eq_false]
  intro x hx
  obtain ⟨j, hj⟩ := List.getElem?_of_mem hx
  rw [List.getElem?_take] at hj
  split at hj
  · have := h j (by assumption) x hj; simp at this ⊢; exact this
  · cases hj
theorem any_take2 {F : List Ot} {i q : Nat} {k : Int} {g : Ot} (hq : q < i) (hg : F[q]? = some g) (h : (g.k == k) = true) : ((F.take i).any fun f => f.k == k) = true := by
  rw [List.any_eq_true]
  exact ⟨g, List.mem_of_getElem? (i := q) (by rw [List.getElem?_take, if_pos hq]; exact hg), h⟩
theorem rightO_known {F : List Ot} {k : Int} {l : Nat} (hk : 2 ≤ k ∧ k ≤ 255) (hn : knownB k = true) (h1 : okSize k l = true) (h2 : (F.any fun f => f.k == k) = false) : rightO F k l = true := by
  unfold rightO; rw [decide_eq_true hk, hn, h1, h2]; rfl
theorem rightO_size {F : List Ot} {k : Int} {l : Nat} (hn : knownB k = true) (h1 : okSize k l = false) : rightO F k l = false := by
  unfold rightO; rw [hn, h1]; simp
theorem rightO_twice {F : List Ot} {k : Int} {l : Nat} (hn : knownB k = true) (h2 : (F.any fun f => f.k == k) = true) : rightO F k l = false := by
  unfold rightO; rw [hn, h2]; simp
theorem rightO_other {F : List Ot} {k : Int} {l : Nat} (hk : 2 ≤ k ∧ k ≤ 255) (hn : knownB k = false) : rightO F k l = true := by
  unfold rightO; rw [decide_eq_true hk, hn]; rfl
theorem rightO_kind {F : List Ot} {k : Int} {l : Nat} (hk : ¬ (2 ≤ k ∧ k ≤ 255)) : rightO F k l = false := by
  unfold rightO; rw [decide_eq_false hk]; rfl
end Go.Proofs.Ytnefphinmjeacaa
set_option linter.unusedVariables false
set_option maxRecDepth 100000
set_option linter.unusedSimpArgs false
namespace Go.Proofs.Ytnefphinmjeacaa
open Go.RowKit
theorem os_take {w : World} {ob : Option Addr} {F : List Ot} (h : OsAt w ob F) (i : Nat) : OsAt w ob (F.take i) := fun j f hf => h j f (by
  rw [List.getElem?_take] at hf
  split at hf
  · exact hf
  · cases hf)
theorem optsN_take_le (F : List Ot) (i : Nat) : optsN (F.take i) ≤ optsN F := by
  unfold optsN
  have h : F = F.take i ++ F.drop i := (List.take_append_drop i F).symm
  rw [h, List.map_append, List.sum_append, List.take_append_drop]
  omega
theorem rtAll_le {F : List Ot} (h : rtAll F = true) : optsN F ≤ 40 := by
  unfold rtAll at h
  rw [decide_eq_true_eq] at h
  cases hF : F.length with
  | zero => have : F = [] := List.eq_nil_of_length_eq_zero hF; subst this; simp [optsN]
  | succ k =>
    have := (h k (by omega) F[k] (List.getElem?_eq_getElem (by omega))).2
    rwa [List.take_of_length_le (by omega)] at this
theorem rtAll_at {F : List Ot} (h : rtAll F = true) {i : Nat} {f : Ot} (hf : F[i]? = some f) : rightO (F.take i) f.k f.l = true := by
  unfold rtAll at h
  rw [decide_eq_true_eq] at h
  exact (h i (List.getElem?_eq_some_iff.1 hf).1 f hf).1
theorem rightO_kind2 {F : List Ot} {k : Int} {l : Nat} (h : rightO F k l = true) : 2 ≤ k ∧ k ≤ 255 := by
  unfold rightO at h
  simp only [Bool.and_eq_true, decide_eq_true_eq] at h
  exact h.1
def optB : List Od → Nat → Int
  | [], _ => 0
  | f :: F, j => if j = 0 then f.k else if j = 1 then 2 + (f.l : Int) else if j < 2 + f.l then f.xs (j - 2) else optB F (j - (2 + f.l))
def optsND (F : List Od) : Nat := (F.map fun f => 2 + f.l).sum
theorem optsND_d (F : List Ot) : optsND (F.map Ot.d) = optsN F := by unfold optsND optsN; rw [List.map_map]; rfl
def rtAllD (F : List Od) : Bool := decide (∀ i, i < F.length → ∀ f, F[i]? = some f → rightD (F.take i) f.k f.l = true ∧ optsND (F.take (i + 1)) ≤ 40)
theorem rtAll_d (F : List Ot) : rtAllD (F.map Ot.d) = rtAll F := by
  unfold rtAllD rtAll
  rw [decide_eq_decide]
  simp only [List.length_map]
  constructor
  · intro h i hi f hf
    have := h i hi f.d (by rw [List.getElem?_map, hf]; rfl)
    rw [← List.map_take, ← List.map_take, optsND_d] at this
    rw [rightO_d]
    exact this
  · intro h i hi f hf
    rw [List.getElem?_map] at hf
    cases hg : F[i]? with
    | none => rw [hg] at hf; cases hf
    | some g =>
      rw [hg] at hf
      cases hf
      have := h i hi g hg
      rw [rightO_d] at this
      rw [← List.map_take, ← List.map_take, optsND_d]
      exact this
theorem optB_push (F : List Od) (g : Od) (j : Nat) : optB (F ++ [g]) j = if j < optsND F then optB F j else optB [g] (j - optsND F) := by
  induction F generalizing j with
  | nil => simp [optsND]
  | cons f F ih =>
    rw [List.cons_append, optB, optB]
    have e : optsND (f :: F) = (2 + f.l) + optsND F := by unfold optsND; simp
    rw [e]
    by_cases h0 : j = 0
    · rw [if_pos h0, if_pos h0, if_pos (by omega)]
    by_cases h1 : j = 1
    · rw [if_neg h0, if_pos h1, if_neg h0, if_pos h1, if_pos (by omega)]
    by_cases h2 : j < 2 + f.l
    · rw [if_neg h0, if_neg h1, if_pos h2, if_neg h0, if_neg h1, if_pos h2, if_pos (by omega)]
    · rw [if_neg h0, if_neg h1, if_neg h2, if_neg h0, if_neg h1, if_neg h2, ih]
      by_cases h3 : j < 2 + f.l + optsND F
      · rw [if_pos h3, if_pos (by omega)]
      · rw [if_neg h3, if_neg (by omega)]
        congr 1
        omega
theorem optB_out (F : List Od) : ∀ j, optsND F ≤ j → optB F j = 0 := by
  induction F with
  | nil => intro j _; rfl
  | cons f F ih =>
    intro j hj
    have e : optsND (f :: F) = (2 + f.l) + optsND F := by unfold optsND; simp
    rw [e] at hj
    rw [optB, if_neg (by omega), if_neg (by omega), if_neg (by omega)]
    exact ih _ (by omega)
theorem optB_one (g : Od) (j : Nat) : optB [g] j = if j = 0 then g.k else if j = 1 then 2 + (g.l : Int) else if j < 2 + g.l then g.xs (j - 2) else 0 := by
  rw [optB]; rfl
theorem optB_byte {F : List Od} (h : rtAllD F = true) (hb : ∀ f ∈ F, ∀ i, i < f.l → 0 ≤ f.xs i ∧ f.xs i ≤ 255) : ∀ j, 0 ≤ optB F j ∧ optB F j ≤ 255 := by
  have key : ∀ F : List Od, (∀ f ∈ F, (0 ≤ f.k ∧ f.k ≤ 255) ∧ f.l ≤ 38 ∧ ∀ i, i < f.l → 0 ≤ f.xs i ∧ f.xs i ≤ 255) → ∀ j, 0 ≤ optB F j ∧ optB F j ≤ 255 := by
    intro F
    induction F with
    | nil => intro _ j; simp [optB]
    | cons f F ih =>
      intro hF j
      obtain ⟨h1, h2, h3⟩ := hF f (by simp)
      rw [optB]
      split
      · exact h1
      · split
        · omega
        · split
          · exact h3 _ (by omega)
          · exact ih (fun g hg => hF g (by simp [hg])) _
  refine key F (fun f hf => ?_)
  obtain ⟨i, hi⟩ := List.getElem?_of_mem hf
  unfold rtAllD at h
  rw [decide_eq_true_eq] at h
  obtain ⟨h1, h2⟩ := h i (List.getElem?_eq_some_iff.1 hi).1 f hi
  unfold rightD at h1
  simp only [Bool.and_eq_true, decide_eq_true_eq] at h1
  refine ⟨by omega, ?_, hb f hf⟩
  rw [take_succ4 hi] at h2
  unfold optsND at h2
  simp at h2
  omega
def tcSz (t : Tc) : Nat := 20 + (optsND t.os + 3) / 4 * 4
/-- A segment's bytes, with a check sum; S: the head's. -/
def tcHead (t : Tc) (S : Nat) (c : Int) : Nat → Int
  | 0 => t.sport / 256
  | 1 => t.sport % 256
  | 2 => t.dport / 256
  | 3 => t.dport % 256
  | 4 => t.seq / 65536 / 256
  | 5 => t.seq / 65536 % 256
  | 6 => t.seq % 65536 / 256
  | 7 => t.seq % 256
  | 8 => t.ack / 65536 / 256
  | 9 => t.ack / 65536 % 256
  | 10 => t.ack % 65536 / 256
  | 11 => t.ack % 256
  | 12 => (S : Int) / 4 * 16
  | 13 => t.flags
  | 14 => t.win / 256
  | 15 => t.win % 256
  | 16 => c / 256
  | 17 => c % 256
  | 18 => t.urg / 256
  | 19 => t.urg % 256
  | k + 20 => optB t.os k
def segB (t : Tc) (c : Int) : Nat → Int := fun k => if k < tcSz t then tcHead t (tcSz t) c k else t.body (k - tcSz t)
def segSum (src dst : Int) (t : Tc) : Int := 65535 - tsumN src dst (segB t 0) (tcSz t + t.bl)
def segOf (src dst : Int) (t : Tc) : Nat → Int := segB t (segSum src dst t)
def tcMay (t : Tc) : Bool := rtAllD t.os && t_withinB t.sport 65535 && t_withinB t.dport 65535 && t_withinB t.win 65535 && t_withinB t.urg 65535 && t_withinB t.flags 255 && decide (tcSz t + t.bl ≤ 65535)
def tcErr (t : Tc) : Int := if tcMay t then 0 else 1
/-- What is known of a segment's numbers among arguments. -/
structure TcWf (t : Tc) : Prop where
  seq : 0 ≤ t.seq ∧ t.seq ≤ 4294967295
  ack : 0 ≤ t.ack ∧ t.ack ≤ 4294967295
  data : ∀ f ∈ t.os, ∀ i, i < f.l → 0 ≤ f.xs i ∧ f.xs i ≤ 255
  body : ∀ i, i < t.bl → 0 ≤ t.body i ∧ t.body i ≤ 255
structure TcMayP (t : Tc) : Prop where
  os : rtAllD t.os = true
  sport : 0 ≤ t.sport ∧ t.sport ≤ 65535
  dport : 0 ≤ t.dport ∧ t.dport ≤ 65535
  win : 0 ≤ t.win ∧ t.win ≤ 65535
  urg : 0 ≤ t.urg ∧ t.urg ≤ 65535
  flags : 0 ≤ t.flags ∧ t.flags ≤ 255
  fit : tcSz t + t.bl ≤ 65535
theorem tcMay_iff {t : Tc} : tcMay t = true ↔ TcMayP t := by
  unfold tcMay t_withinB
  simp only [Bool.and_eq_true, decide_eq_true_eq]
  constructor
  · rintro ⟨⟨⟨⟨⟨⟨h1, h2⟩, h3⟩, h4⟩, h5⟩, h6⟩, h7⟩
    exact ⟨h1, h2, h3, h4, h5, h6, h7⟩
  · intro h
    exact ⟨⟨⟨⟨⟨⟨h.os, h.sport⟩, h.dport⟩, h.win⟩, h.urg⟩, h.flags⟩, h.fit⟩
theorem rtAllD_le {F : List Od} (h : rtAllD F = true) : optsND F ≤ 40 := by
  unfold rtAllD at h
  rw [decide_eq_true_eq] at h
  cases hF : F.length with
  | zero => have : F = [] := List.eq_nil_of_length_eq_zero hF; subst this; simp [optsND]
  | succ k =>
    have := (h k (by omega) F[k] (List.getElem?_eq_getElem (by omega))).2
    rwa [List.take_of_length_le (by omega)] at this
theorem twenty4 (i : Nat) : i = 0 ∨ i = 1 ∨ i = 2 ∨ i = 3 ∨ i = 4 ∨ i = 5 ∨ i = 6 ∨ i = 7 ∨ i = 8 ∨ i = 9 ∨ i = 10 ∨ i = 11 ∨ i = 12 ∨ i = 13 ∨ i = 14 ∨ i = 15 ∨ i = 16 ∨ i = 17 ∨ i = 18 ∨ i = 19 ∨ ∃ k, i = k + 20 := by
  by_cases h : i < 20
  · omega
  · have : ∃ k, i = k + 20 := ⟨i - 20, by omega⟩
    simp [this]
theorem tcHead_byte {t : Tc} {S : Nat} {c : Int} (hM : TcMayP t) (hW : TcWf t) (hS : S ≤ 60) (hc : 0 ≤ c ∧ c ≤ 65535) : ∀ i, 0 ≤ tcHead t S c i ∧ tcHead t S c i ≤ 255 := by
  intro i
  have h1 := hM.sport; have h2 := hM.dport; have h3 := hM.win; have h4 := hM.urg; have h5 := hM.flags; have h6 := hW.seq; have h7 := hW.ack
  rcases twenty4 i with rfl | rfl | rfl | rfl | rfl | rfl | rfl | rfl | rfl | rfl | rfl | rfl | rfl | rfl | rfl | rfl | rfl | rfl | rfl | rfl | ⟨k, rfl⟩
  all_goals simp only [tcHead]
  all_goals first | omega | exact optB_byte hM.os hW.data _
theorem tcSz_le {t : Tc} (hM : TcMayP t) : 20 ≤ tcSz t ∧ tcSz t ≤ 60 := by
  have := rtAllD_le hM.os
  unfold tcSz; omega
theorem segB_byte {t : Tc} {c : Int} (hM : TcMayP t) (hW : TcWf t) (hc : 0 ≤ c ∧ c ≤ 65535) : ∀ i, i < tcSz t + t.bl → 0 ≤ segB t c i ∧ segB t c i ≤ 255 := by
  intro i hi
  unfold segB
  split
  · exact tcHead_byte hM hW (tcSz_le hM).2 hc i
  · exact hW.body _ (by omega)
theorem segSum_bd {src dst : Int} {t : Tc} (h1 : 0 ≤ src ∧ src ≤ 4294967295) (h2 : 0 ≤ dst ∧ dst ≤ 4294967295) (hM : TcMayP t) (hW : TcWf t) : 0 ≤ segSum src dst t ∧ segSum src dst t ≤ 65535 := by
  have hr := rawN_bd (segB t 0) (tcSz t + t.bl) (segB_byte hM hW (by omega))
  have hf := hM.fit
  have hp := pseudoN_bd (proto := 6) (size := ((tcSz t + t.bl : Nat) : Int)) h1 h2 (by omega) (by omega)
  have := foldI_bd (pseudoN src dst 6 ((tcSz t + t.bl : Nat) : Int) + rawN (segB t 0) (tcSz t + t.bl)) (by omega)
  unfold segSum tsumN
  omega
def byL (n : Nat) (xs : Nat → Int) : List Value := (List.range n).map fun i => Value.int .u8 (xs i)
def TPutM (w : World) (src dst : Int) (t : Tc) (e : Ending) (w' : World) : Prop :=
  ∃ (ob : Option Addr) (lb cb : Nat), e = .returned (.tuple #[.slice ob lb cb, .int .i64 (tcErr t)]) ∧ Junk w w' ∧ Bts w' ob lb cb (segOf src dst t) ∧
    ((tcMay t = true ∧ lb = tcSz t + t.bl ∧ Own w.heap.size w' 5 1 ob cb lb (byL lb (segOf src dst t))) ∨ (tcMay t = false ∧ lb = 0 ∧ cb = 0 ∧ ob = none))
theorem tputM_bad {w w' : World} {src dst : Int} {t : Tc} (h : tcMay t = false) (hj : Junk w w') : TPutM w src dst t (.returned (.tuple #[.slice none 0 0, .int .i64 1])) w' :=
  ⟨none, 0, 0, by simp [tcErr, h], hj, ⟨fun i hi => by omega, fun i hi => by omega, fun _ => ⟨rfl, rfl⟩, Nat.le_refl _, Nat.zero_le _⟩, .inr ⟨h, rfl, rfl, rfl⟩⟩
end Go.Proofs.Ytnefphinmjeacaa
set_option linter.unusedVariables false
set_option maxRecDepth 100000
set_option linter.unusedSimpArgs false
namespace Go.Proofs.Ytnefphinmjeacaa
open Go.RowKit
theorem t_ints_congr {w : World} {oa : Option Addr} {l : Nat} {k : IntKind} {xs ys : Nat → Int} (h : IntsAt w oa l k xs) (he : ∀ i, i < l → xs i = ys i) : IntsAt w oa l k ys := fun i hi => by
  rw [← he i hi]; exact h i hi
theorem t_make (w : World) (n L : Nat) (hn : n ≤ L) (hL : L ≤ 100000) : (Instr.makeSlice 23 (.int .i64 (n : Int)) (.int .i64 (L : Int))).run Try.prog w = .ok (.slice (some ⟨w.heap.size, 0, none⟩) n L) (w.alloc (.cells (rowArr L (fun _ => 0)) 5)) := by
  obtain ⟨i, hi, hz0, hz1, hz2⟩ := info_parts (P := Try.prog) (e := 5) (z := .int .u8 0) (size := 1) (bytes := 1) (by kernel_rfl)
  have h := run_make (P := Try.prog) w 23 5 i (.int .u8 0) Try.underlying23 hi hz0 .i64 .i64 n L (by omega) (by omega) (by rw [hz2]; omega) (by omega)
  rw [hz1] at h
  rw [h]
  simp only [Int.toNat_natCast, Nat.mul_one]
  rw [← rowArr_made]
  rfl
/-- What the block holds ahead of the options. -/
def tPut0 (t : Tc) (S : Nat) : Nat → Int :=
  upd (upd (upd (upd (upd (upd (upd (upd (upd (upd (upd (upd (upd (upd (upd (upd (upd (upd (fun _ => 0) 0 (t.sport / 256)) (0 + 1) (t.sport % 256)) 2 (t.dport / 256)) (2 + 1) (t.dport % 256)) 4 (t.seq / 65536 / 256)) (4 + 1) (t.seq / 65536 % 256)) (4 + 2) (t.seq % 65536 / 256)) (4 + 2 + 1) (t.seq % 256))
    8 (t.ack / 65536 / 256)) (8 + 1) (t.ack / 65536 % 256)) (8 + 2) (t.ack % 65536 / 256)) (8 + 2 + 1) (t.ack % 256)) 12 ((S : Int) / 4 * 16)) 13 t.flags) 14 (t.win / 256)) (14 + 1) (t.win % 256)) 18 (t.urg / 256)) (18 + 1) (t.urg % 256)
/-- .. and behind some options. -/
def tPutI (t : Tc) (S : Nat) (F : List Od) : Nat → Int := fun k => if k < 20 then tcHead t S 0 k else optB F (k - 20)
theorem tPut0_eq {t : Tc} {S : Nat} : ∀ k, tPut0 t S k = tPutI t S [] k := by
  intro k
  rcases twenty4 k with rfl | rfl | rfl | rfl | rfl | rfl | rfl | rfl | rfl | rfl | rfl | rfl | rfl | rfl | rfl | rfl | rfl | rfl | rfl | rfl | ⟨k, rfl⟩
  all_goals simp [tPut0, tPutI, upd, tcHead, optB]
  all_goals (intro h; omega)
theorem tPutI_push {t : Tc} {S n : Nat} {F : List Od} {k : Int} {l : Nat} {ys : Nat → Int} (hn : n = optsND F) :
    putAt (putAt (tPutI t S F) (20 + n) 2 (fun j => if j = 0 then k else 2 + (l : Int))) (20 + (n + 2)) l ys = tPutI t S (F ++ [⟨k, l, ys⟩]) := by
  subst hn
  funext q
  unfold tPutI putAt
  dsimp only
  by_cases h0 : q < 20
  · rw [if_neg (by omega), if_neg (by omega), if_pos h0, if_pos h0]
  · rw [if_neg h0, if_neg h0, optB_push, optB_one]
    by_cases h1 : q - 20 < optsND F
    · rw [if_neg (by omega), if_neg (by omega), if_pos h1]
    · rw [if_neg h1]
      by_cases h2 : q - 20 - optsND F = 0
      · rw [if_neg (by omega), if_pos (by omega), if_pos (by omega), if_pos h2]
      · by_cases h3 : q - 20 - optsND F = 1
        · rw [if_neg (by omega), if_pos (by omega), if_neg (by omega), if_neg h2, if_pos h3]
        · rw [if_neg h2, if_neg h3]
          by_cases h4 : q - 20 - optsND F < 2 + l
          · rw [if_pos (by omega), if_pos h4]
            show ys _ = ys _
            congr 1
            omega
          · rw [if_neg (by omega), if_neg (by omega), if_neg h4]
            exact optB_out _ _ (by omega)
theorem tPutI_all {t : Tc} {S : Nat} (hS : S = tcSz t) : ∀ q, q < S + t.bl → putAt (tPutI t S t.os) S t.bl t.body q = segB t 0 q := by
  intro q hq
  unfold putAt segB
  by_cases h1 : S ≤ q
  · rw [if_pos ⟨h1, hq⟩, if_neg (by omega), hS]
  · rw [if_neg (by omega), if_pos (by omega)]
    unfold tPutI
    split
    · rw [hS]
    · obtain ⟨k, rfl⟩ : ∃ k, q = k + 20 := ⟨q - 20, by omega⟩
      rw [Nat.add_sub_cancel]
      rfl
theorem inb_eq {n : Nat} {Q : Exit → Act → World → Prop} {x : Exit} {a : Act} {w w' : World} (h : w = w') (hh : Exit.inBlock n Q x a w') : Exit.inBlock n Q x a w := by subst h; exact hh
theorem inb_gen {n : Nat} {Q : Exit → Act → World → Prop} {x : Exit} {a : Act} {w : World} {os : Array Obj} {d : Nat} (h : ∀ os d, Exit.inBlock n Q x a (w.junk os d)) : Exit.inBlock n Q x a (w.junk os d) := h os d
theorem then_eq {K : Act → World → Prop} {Q : Exit → Act → World → Prop} {x : Exit} {a : Act} {w w' : World} (h : w = w') (hh : Exit.then K Q x a w') : Exit.then K Q x a w := by subst h; exact hh
theorem segB_sum {t : Tc} {c : Int} (hS : 20 ≤ tcSz t) : ∀ q, upd (upd (segB t 0) 16 (c / 256)) (16 + 1) (c % 256) q = segB t c q := by
  intro q
  by_cases h0 : q < tcSz t
  · rcases twenty4 q with rfl | rfl | rfl | rfl | rfl | rfl | rfl | rfl | rfl | rfl | rfl | rfl | rfl | rfl | rfl | rfl | rfl | rfl | rfl | rfl | ⟨k, rfl⟩
    all_goals simp [upd, segB, tcHead, h0]
  · rw [upd, if_neg (by omega), upd, if_neg (by omega)]
    unfold segB
    rw [if_neg h0, if_neg h0]
theorem tputM_ok {w V : World} {src dst : Int} {t : Tc} {L : Nat} {xs : Nat → Int} {os : Array Obj} {d g : Nat} (h : tcMay t = true) (hj : Junk w V) (hg : g = V.heap.size) (hL : L = tcSz t + t.bl) (hx : ∀ i, i < L → xs i = segOf src dst t i)
    (hb : ∀ i, i < L → 0 ≤ segOf src dst t i ∧ segOf src dst t i ≤ 255) (hm : L ≤ 100000) : TPutM w src dst t (.returned (.tuple #[.slice (some ⟨g, 0, none⟩) L L, .int .i64 0])) ((V.alloc (.cells (rowArr L xs) 5)).junk os d) := by
  have ho : Own w.heap.size ((V.alloc (.cells (rowArr L xs) 5)).junk os d) 5 1 (some ⟨g, 0, none⟩) L L (byL L (segOf src dst t)) := by
    have := own_lit' (B := w.heap.size) (w := V) (e := 5) (n := g) (m := L) (cur := rowArr L xs) os d hg hj.size (by simp) (by simp only [maxLen]; omega)
    rw [rowArr_congr hx] at this
    rw [rowArr_congr hx]
    simpa [rowArr, byL] using this
  exact ⟨_, L, L, by simp [tcErr, h], (hj.alloc _).junk _ _, own_bts ho hb, .inl ⟨h, hL, ho⟩⟩
theorem t_junk_nil (w : World) (d : Nat) (h : d = w.drawn) : w.junk #[] d = w := by subst h; simp [World.junk]
end Go.Proofs.Ytnefphinmjeacaa
set_option linter.unusedVariables false
set_option maxRecDepth 100000
set_option linter.unusedSimpArgs false
namespace Go.Proofs.Ytnefphinmjeacaa
open Go.RowKit
def odSame (x y : Od) : Bool := (x.k == y.k) && sameN x.xs y.xs x.l y.l
def osSame (F G : List Od) : Bool := decide (∀ i, i < F.length → ∀ x, F[i]? = some x → ∀ y, G[i]? = some y → odSame x y = true)
def headSameT (t u : Tc) : Bool := (t.sport == u.sport) && (t.dport == u.dport) && (t.seq == u.seq) && (t.ack == u.ack) && (t.flags == u.flags) && (t.win == u.win) && (t.urg == u.urg)
def tcSame (t u : Tc) : Bool := headSameT t u && (t.os.length == u.os.length) && sameN t.body u.body t.bl u.bl && osSame t.os u.os
theorem sameN_refl (xs : Nat → Int) (l : Nat) : sameN xs xs l l = true := by simp [sameN]
theorem odSame_refl (x : Od) : odSame x x = true := by simp [odSame, sameN_refl]
theorem osSame_refl (F : List Od) : osSame F F = true := by
  unfold osSame
  rw [decide_eq_true_eq]
  intro i hi x hx y hy
  rw [hx] at hy
  cases hy
  exact odSame_refl x
theorem tcSame_refl (t : Tc) : tcSame t t = true := by simp [tcSame, headSameT, sameN_refl, osSame_refl]
theorem osSame_bad {F G : List Od} {i : Nat} {x y : Od} (hx : F[i]? = some x) (hy : G[i]? = some y) (h : odSame x y = false) : osSame F G = false := by
  unfold osSame
  rw [decide_eq_false_iff_not]
  intro ha
  rw [ha i (List.getElem?_eq_some_iff.1 hx).1 x hx y hy] at h
  cases h
theorem osSame_ok {F G : List Ot} (h : ∀ i, i < F.length → ∀ f g, F[i]? = some f → G[i]? = some g → odSame f.d g.d = true) : osSame (F.map Ot.d) (G.map Ot.d) = true := by
  unfold osSame
  rw [decide_eq_true_eq]
  intro i hi x hx y hy
  rw [List.getElem?_map] at hx hy
  cases hf : F[i]? with
  | none => rw [hf] at hx; cases hx
  | some f =>
    cases hg : G[i]? with
    | none => rw [hg] at hy; cases hy
    | some g =>
      rw [hf] at hx; rw [hg] at hy
      cases hx; cases hy
      exact h i (by simpa using hi) f g hf hg
theorem od_at {F : List Ot} {i : Nat} {f : Ot} (h : F[i]? = some f) : (F.map Ot.d)[i]? = some f.d := by rw [List.getElem?_map, h]; rfl
end Go.Proofs.Ytnefphinmjeacaa
set_option linter.unusedVariables false
set_option maxRecDepth 100000
set_option linter.unusedSimpArgs false
namespace Go.Proofs.Ytnefphinmjeacaa
open Go.RowKit
def sizeI (t : Tc) : Int := (t.bl : Int) + (if bits .and .i64 t.flags 2 = 0 then 0 else 1) + (if bits .and .i64 t.flags 1 = 0 then 0 else 1)
theorem TcpM.ok {w w' : World} {E : Int} {t : Tc} {e : Ending} (h : TcpM w E t e w') (h0 : E = 0) : ∃ (F : List Ot) (oo : Option Addr) (co : Nat) (ob : Option Addr) (cb : Nat), e = .returned (.tuple #[.agg #[.int .i64 t.sport, .int .i64 t.dport, .int .u32 t.seq, .int .u32 t.ack, .int .i64 t.flags, .int .i64 t.win, .int .i64 t.urg, .slice oo F.length co, .slice ob t.bl cb], .int .i64 0]) ∧ Junk w w' ∧ F.map Ot.d = t.os ∧ TcAt w' F oo co t.bl t.body ob cb := by
  obtain ⟨hj, ⟨h1, _⟩ | ⟨_, F, oo, co, ob, cb, hF, hT, he⟩⟩ := h
  · exact absurd h0 h1
  · exact ⟨F, oo, co, ob, cb, he, hj, hF, hT⟩
theorem TcpM.bad {w w' : World} {E : Int} {t : Tc} {e : Ending} (h : TcpM w E t e w') (h0 : E ≠ 0) : e = .returned (.tuple #[.agg #[.int .i64 0, .int .i64 0, .int .u32 0, .int .u32 0, .int .i64 0, .int .i64 0, .int .i64 0, .slice none 0 0, .slice none 0 0], .int .i64 E]) ∧ Junk w w' := by
  obtain ⟨hj, ⟨_, he⟩ | ⟨h1, _⟩⟩ := h
  · exact ⟨he, hj⟩
  · exact absurd h1 h0
theorem TPutM.ok {w w' : World} {src dst : Int} {t : Tc} {e : Ending} (h : TPutM w src dst t e w') (h0 : tcMay t = true) : ∃ (ob : Option Addr) (cb : Nat), e = .returned (.tuple #[.slice ob (tcSz t + t.bl) cb, .int .i64 0]) ∧ Junk w w' ∧ Bts w' ob (tcSz t + t.bl) cb (segOf src dst t) ∧
    Own w.heap.size w' 5 1 ob cb (tcSz t + t.bl) (byL (tcSz t + t.bl) (segOf src dst t)) := by
  obtain ⟨ob, lb, cb, rfl, hj, hb, ⟨h1, rfl, ho⟩ | ⟨h1, _⟩⟩ := h
  · exact ⟨ob, cb, by simp [tcErr, h0], hj, hb, ho⟩
  · rw [h0] at h1; cases h1
theorem TPutM.bad {w w' : World} {src dst : Int} {t : Tc} {e : Ending} (h : TPutM w src dst t e w') (h0 : tcMay t = false) : e = .returned (.tuple #[.slice none 0 0, .int .i64 1]) ∧ Junk w w' := by
  obtain ⟨ob, lb, cb, rfl, hj, hb, ⟨h1, _⟩ | ⟨h1, rfl, rfl, rfl⟩⟩ := h
  · rw [h0] at h1; cases h1
  · exact ⟨by simp [tcErr, h0], hj⟩
def zeroTc : Tc := ⟨0, 0, 0, 0, 0, 0, 0, [], 0, fun _ => 0⟩
theorem zeroTc_at (w : World) : TcAt w [] none 0 0 (fun _ => 0) none 0 := ⟨fun i f hf => by simp at hf, fun _ => ⟨rfl, rfl⟩, Nat.le_refl _, ⟨fun i hi => by omega, fun i hi => by omega, fun _ => ⟨rfl, rfl⟩, Nat.le_refl _, Nat.zero_le _⟩⟩
theorem optP_len (xs : Nat → Int) (S : Nat) : ∀ n a acc Q, optP xs S n a acc = some Q → Q.length ≤ acc.length + n
  | 0, a, acc, Q, h => by rw [optP] at h; cases h; omega
  | n + 1, a, acc, Q, h => by
    rw [optP] at h
    split at h
    · cases h; omega
    · split at h
      · have := optP_len xs S n _ _ _ h; omega
      · split at h
        · cases h
        · split at h
          · have := optP_len xs S n _ _ _ h; simp at this; omega
          · cases h
theorem tcpTc_len {src dst : Int} {xs : Nat → Int} {l : Nat} (h : tcpErr src dst xs l = 0) (h12 : 0 ≤ xs 12 ∧ xs 12 ≤ 255) : (tcpTc xs l).os.length ≤ 1000 := by
  show ((tcpOpts xs).getD []).length ≤ 1000
  cases hq : tcpOpts xs with
  | none => simp
  | some Q =>
    have := optP_len _ _ _ _ _ _ hq
    have hs : tcpSize xs ≤ 60 := by unfold tcpSize; omega
    simp at this ⊢
    omega
theorem tcpErr_len {src dst : Int} {xs : Nat → Int} {l : Nat} (h : tcpErr src dst xs l = 0) : 20 ≤ l ∧ l ≤ 65535 := by
  unfold tcpErr at h
  split at h
  · cases h
  · split at h
    · cases h
    · omega
end Go.Proofs.Ytnefphinmjeacaa
set_option linter.unusedVariables false
set_option maxRecDepth 100000
set_option linter.unusedSimpArgs false
namespace Go.Proofs.Ytnefphinmjeacaa
open Go.RowKit
theorem tmod_low {n m : Int} (hm : 0 < m) : (if n.tmod m < 0 then n.tmod m + m else n.tmod m) = n % m := by
  have h1 := Int.emod_nonneg n (by omega : m ≠ 0)
  have h2 := Int.emod_lt_of_pos n hm
  rw [Int.tmod_eq_emod]
  split <;> split <;> simp_all <;> omega
end Go.Proofs.Ytnefphinmjeacaa
set_option linter.unusedVariables false
set_option maxRecDepth 100000
set_option linter.unusedSimpArgs false
namespace Go.Proofs.Ytnefphinmjeacaa
open Go.RowKit
/-- What an appending call hands back: the slice, the call's own still, with so many bytes more. -/
def GrewM (W0 : World) (n : Nat) (xs : List Value) (e : Ending) (w' : World) : Prop :=
  ∃ oa cap, e = .returned (.slice oa n cap) ∧ Junk W0 w' ∧ Own W0.heap.size w' 5 1 oa cap n xs
end Go.Proofs.Ytnefphinmjeacaa
set_option linter.unusedVariables false
set_option maxRecDepth 100000
set_option linter.unusedSimpArgs false
namespace Go.Proofs.Ytnefphinmjeacaa
open Go.RowKit
structure TupW (t : Tup) : Prop extends TupWf t where
  sport : -9223372036854775808 ≤ t.sport ∧ t.sport ≤ 9223372036854775807
  dport : -9223372036854775808 ≤ t.dport ∧ t.dport ≤ 9223372036854775807
theorem run_compareB {P : Program} (w : World) (b1 f1 b2 f2 n m c d : Nat) (xs ys : List Int) (hx : xs.length = n) (hy : ys.length = m)
    (h1 : ∀ j x, xs[j]? = some x → w.cell? ⟨b1, f1 + j, none⟩ = some (.int .u8 x)) (h2 : ∀ j x, ys[j]? = some x → w.cell? ⟨b2, f2 + j, none⟩ = some (.int .u8 x)) :
    (Extern.BytealgCompare.compare #[.slice (some ⟨b1, f1, none⟩) n c, .slice (some ⟨b2, f2, none⟩) m d]).run P w = .ok (.int .i64 (Lib.compareBytes (Lib.bytesOf xs) (Lib.bytesOf ys))) w := by
  have l1 := Lib.run_loadBytesX (P := P) w xs ⟨b1, f1, none⟩ .empty (fun j x hj => by rw [Addr.add_lit]; exact h1 j x hj)
  have l2 := Lib.run_loadBytesX (P := P) w ys ⟨b2, f2, none⟩ .empty (fun j x hj => by rw [Addr.add_lit]; exact h2 j x hj)
  rw [hx] at l1
  rw [hy] at l2
  change Sem.run P (do pure (goInt (Extern.BytealgCompare.cmp (← Extern.Bytes.bytesOf (.slice (some ⟨b1, f1, none⟩) n c)) (← Extern.Bytes.bytesOf (.slice (some ⟨b2, f2, none⟩) m d))))) w = _
  simp only [Extern.Bytes.bytesOf, Sem.run_bind, Sem.run_pure, Result.andThen, l1, l2]
  rw [Lib.cmp_eq]
  have e : ∀ l : List UInt8, (⟨ByteArray.empty.data ++ l.toArray⟩ : ByteArray).data.toList = l := fun l => by
    show ((#[] : Array UInt8) ++ l.toArray).toList = l
    simp
  rw [e, e]
  rfl
end Go.Proofs.Ytnefphinmjeacaa
set_option linter.unusedVariables false
set_option maxRecDepth 100000
set_option linter.unusedSimpArgs false
namespace Go.Proofs.Ytnefphinmjeacaa
open Go.RowKit
/-- A slice of the call's own that is not empty, by its block. -/
theorem grew_some {W0 w' : World} {n : Nat} {xs : List Value} {e : Ending} (h : GrewM W0 n xs e w') (hn : 0 < n) : ∃ g cap, e = .returned (.slice (some ⟨g, 0, none⟩) n cap) ∧ Junk W0 w' ∧ W0.heap.size ≤ g ∧ g < w'.heap.size ∧ n ≤ cap ∧ cap ≤ maxLen ∧ ∀ j u, xs[j]? = some u → w'.cell? ⟨g, j, none⟩ = some u := by
  obtain ⟨oa, cap, he, hj, ho⟩ := h
  obtain ⟨g, rfl, h1, h2, h3⟩ := own_some ho hn
  exact ⟨g, cap, he, hj, h1, h2, ho.capLe.1, ho.capLe.2, fun j u hu => (h3 j u hu).1⟩
structure CelL (w : World) (g : Nat) (xs : List Int) : Prop where
  lt : g < w.heap.size
  c : ∀ j x, xs[j]? = some x → w.cell? ⟨g, j, none⟩ = some (.int .u8 x)
theorem CelL.on {w w' : World} {g : Nat} {xs : List Int} (h : CelL w g xs) (hj : Junk w w') : CelL w' g xs := by
  obtain ⟨os, d, rfl⟩ := hj
  exact ⟨by have := h.lt; simp; omega, fun j x hx => by rw [World.cell?_junk _ _ _ _ _ h.lt]; exact h.c j x hx⟩
def RawM (w : World) (xs : List Int) (e : Ending) (w' : World) : Prop := ∃ g cap, e = .returned (.slice (some ⟨g, 0, none⟩) 13 cap) ∧ Junk w w' ∧ CelL w' g xs ∧ 13 ≤ cap ∧ cap ≤ maxLen
theorem hashStep_bd (h c : Int) : 0 ≤ hashStep h c ∧ hashStep h c ≤ 4294967295 := by unfold hashStep; omega
theorem hash_bd (xs : List Int) (h : Int) (hh : 0 ≤ h ∧ h ≤ 4294967295) : 0 ≤ xs.foldl hashStep h ∧ xs.foldl hashStep h ≤ 4294967295 := by
  induction xs generalizing h with
  | nil => exact hh
  | cons x xs ih => exact ih _ (hashStep_bd h x)
theorem foldl_take_succ {xs : List Int} {i : Nat} {x : Int} (h : xs[i]? = some x) (s : Int) : (xs.take (i + 1)).foldl hashStep s = hashStep ((xs.take i).foldl hashStep s) x := by
  rw [List.take_add_one, h, Option.toList_some, List.foldl_append]
  rfl
theorem seed_bd {s : Int} (h : 0 ≤ s ∧ s ≤ 4294967295) : (0 : Int) ≤ ((2166136261 ^^^ s.toNat : Nat) : Int) ∧ ((2166136261 ^^^ s.toNat : Nat) : Int) ≤ 4294967295 := by
  have : 2166136261 ^^^ s.toNat < 2 ^ 32 := Nat.xor_lt_two_pow (by decide) (by omega)
  omega
end Go.Proofs.Ytnefphinmjeacaa
set_option linter.unusedVariables false
set_option maxRecDepth 100000
set_option linter.unusedSimpArgs false
namespace Go.Proofs.Ytnefphinmjeacaa
open Go.RowKit
abbrev Tup.val (t : Tup) : Value := .agg #[.int .i64 t.proto, .int .u32 t.src, .int .i64 t.sport, .int .u32 t.dst, .int .i64 t.dport]
theorem tup_guard : Try.prog.eqGuardType Try.prog.depth 28 = false := by kernel_rfl
theorem tup_equalIn (x y : Tup) (w : World) : (Op.equalIn 10000 28 x.val y.val).run Try.prog w = .ok (decide (x = y)) w := by
  have u3 := Try.underlying3
  have a3 := Try.isAgg3
  have z3 := Try.sizeOf3
  have u4 := Try.underlying22
  have a4 := Try.isAgg22
  have z4 := Try.sizeOf22
  have hS : Try.prog.underlying 28 = some (.struct (Try.prog.fieldsOf 28)) := by kernel_rfl
  have hp : Try.prog.stoodInHeld 28 = false := by kernel_rfl
  rw [show (10000 : Nat) = 9999 + 1 from rfl, run_equalIn_agg w 9999 28 _ _ hS hp]
  simp only [Program.fieldsOf, Try.underlying28]
  obtain ⟨xp, xi, xn, xo, xt⟩ := x
  obtain ⟨yp, yi, yn, yo, yt⟩ := y
  go_simp
  by_cases h1 : xp = yp <;> by_cases h2 : xi = yi <;> by_cases h3 : xn = yn <;> by_cases h4 : xo = yo <;> by_cases h5 : xt = yt <;> simp [h1, h2, h3, h4, h5]
theorem tup_eql (x y : Tup) (w : World) : (binOp .eql 28 x.val y.val).run Try.prog w = .ok (.bool (decide (x = y))) w := by
  rw [run_eql_struct, tup_equalIn]; rfl
theorem tup_neq (x y : Tup) (w : World) : (binOp .neq 28 x.val y.val).run Try.prog w = .ok (.bool (!decide (x = y))) w := by
  rw [run_neq_struct, tup_equalIn]; rfl
theorem tup_piece_any (c0 c1 c2 c5 c6 c7 c8 c9 c10 : Value) (m : Bool) (off : Int) (w : World) : Calls Try.prog 43 #[.agg #[c0, c1, c2, .bool m, .int .i64 off, c5, c6, c7, c8, c9, c10]] w fun e w' => e = .returned (.bool (m || (off != 0))) ∧ Junk w w' := by
  cases m with
  | true =>
    go_enter Try.func43, Try.ntmps43
    go_wp2
    go_ret
    exact ⟨ret_bool rfl, by ((try simp only [World.junk_junk, Array.append_assoc]); (repeat (first | with_reducible exact Junk.refl _ | with_reducible exact Junk.app _ _ _ _ _ | with_reducible exact Junk.app2 _ _ _ _ _ _ | with_reducible exact Junk.app3 _ _ _ _ _ _ _ | with_reducible exact Junk.app4 _ _ _ _ _ _ _ _ | with_reducible exact Junk.app5 _ _ _ _ _ _ _ _ _ | with_reducible apply Junk.alloc | with_reducible apply Junk.junk | with_reducible apply Junk.drew | with_reducible apply Junk.drewN)))⟩
  | false =>
    go_enter Try.func43, Try.ntmps43
    go_wp2
    go_ret
    exact ⟨ret_bool rfl, by ((try simp only [World.junk_junk, Array.append_assoc]); (repeat (first | with_reducible exact Junk.refl _ | with_reducible exact Junk.app _ _ _ _ _ | with_reducible exact Junk.app2 _ _ _ _ _ _ | with_reducible exact Junk.app3 _ _ _ _ _ _ _ | with_reducible exact Junk.app4 _ _ _ _ _ _ _ _ | with_reducible exact Junk.app5 _ _ _ _ _ _ _ _ _ | with_reducible apply Junk.alloc | with_reducible apply Junk.junk | with_reducible apply Junk.drew | with_reducible apply Junk.drewN)))⟩
theorem icmp_parse_ok {w w' : World} {xs : Nat → Int} {l : Nat} {e : Ending} (h : ParsedM w xs l e w') (h0 : pErr xs l = 0) :
    ∃ ob cb, e = .returned (.tuple #[.agg #[.int .i64 (xs 0), .int .i64 (xs 1), .int .u32 (pRest xs), .slice ob (l - 8) cb], .int .i64 0]) ∧ Junk w w' := by
  obtain ⟨t, c, r, ob, lb, cb, rfl, hj, hb, ⟨_, rfl, rfl, rfl, rfl⟩ | ⟨h1, _⟩⟩ := h
  · exact ⟨ob, cb, by rw [h0], hj⟩
  · exact absurd h0 h1
theorem icmp_parse_bad {w w' : World} {xs : Nat → Int} {l : Nat} {e : Ending} {n : Int} (h : ParsedM w xs l e w') (h0 : pErr xs l = n) (hn : n ≠ 0) :
    e = .returned (.tuple #[.agg #[.int .i64 0, .int .i64 0, .int .u32 0, .slice none 0 0], .int .i64 n]) ∧ Junk w w' := by
  obtain ⟨t, c, r, ob, lb, cb, rfl, hj, hb, ⟨h1, _⟩ | ⟨_, rfl, rfl, rfl, rfl, rfl, rfl⟩⟩ := h
  · exact absurd (h0.symm.trans h1) hn
  · exact ⟨by rw [h0], hj⟩
theorem udp_parse_ok {w w' : World} {E : Int} {xs : Nat → Int} {e : Ending} (h : UdpM w E xs e w') (h0 : E = 0) :
    ∃ (ob : Option Addr) (cb : Nat), e = .returned (.tuple #[.agg #[.int .i64 (xs 0 * 256 + xs 1), .int .i64 (xs 2 * 256 + xs 3), .bool (uChk xs == 0), .slice ob (uSize xs - 8) cb], .int .i64 0]) ∧ Junk w w' ∧ Bts w' ob (uSize xs - 8) cb (fun i => xs (8 + i)) := by
  obtain ⟨hj, ⟨h1, _⟩ | ⟨_, ob, cb, hb, rfl⟩⟩ := h
  · exact absurd h0 h1
  · exact ⟨ob, cb, rfl, hj, hb⟩
theorem udp_parse_bad {w w' : World} {E : Int} {xs : Nat → Int} {e : Ending} (h : UdpM w E xs e w') (h0 : E ≠ 0) :
    e = .returned (.tuple #[.agg #[.int .i64 0, .int .i64 0, .bool false, .slice none 0 0], .int .i64 E]) ∧ Junk w w' := by
  obtain ⟨hj, ⟨_, rfl⟩ | ⟨h1, _⟩⟩ := h
  · exact ⟨rfl, hj⟩
  · exact absurd h1 h0
/-- The ports of a packet, or the first error. -/
def prErr (pr src dst : Int) (xs : Nat → Int) (l : Nat) : Int :=
  if pr = 6 then tcpErr src dst xs l else if pr = 17 then udpErr src dst xs l else if pr = 1 then (if pErr xs l ≠ 0 then pErr xs l else if asksB (xs 0) || answersB (xs 0) then 0 else 9) else 9
def prS (pr : Int) (xs : Nat → Int) : Int := if pr = 1 then pRest xs / 65536 else xs 0 * 256 + xs 1
def prD (pr : Int) (xs : Nat → Int) : Int := if pr = 1 then pRest xs / 65536 else xs 2 * 256 + xs 3
def PortsM (w : World) (E S D : Int) (e : Ending) (w' : World) : Prop :=
  (E = 0 → e = .returned (.tuple #[.int .i64 S, .int .i64 D, .int .i64 0])) ∧ (E ≠ 0 → e = .returned (.tuple #[.int .i64 0, .int .i64 0, .int .i64 E])) ∧ Junk w w'
theorem ports_bad {w w' : World} {E S D n : Int} (h : E = n) (h0 : n ≠ 0) (hj : Junk w w') : PortsM w E S D (.returned (.tuple #[.int .i64 0, .int .i64 0, .int .i64 n])) w' :=
  ⟨fun h1 => absurd (h.symm.trans h1) h0, fun _ => by rw [h], hj⟩
theorem ports_ok {w w' : World} {E S D s d : Int} (h : E = 0) (hs : S = s) (hd : D = d) (hj : Junk w w') : PortsM w E S D (.returned (.tuple #[.int .i64 s, .int .i64 d, .int .i64 0])) w' :=
  ⟨fun _ => by rw [hs, hd], fun h1 => absurd h h1, hj⟩
theorem prest_bd {xs : Nat → Int} (h4 : 0 ≤ xs 4 ∧ xs 4 ≤ 255) (h5 : 0 ≤ xs 5 ∧ xs 5 ≤ 255) (h6 : 0 ≤ xs 6 ∧ xs 6 ≤ 255) (h7 : 0 ≤ xs 7 ∧ xs 7 ≤ 255) : 0 ≤ pRest xs ∧ pRest xs ≤ 4294967295 := by unfold pRest; omega
set_option maxHeartbeats 4000000 in
theorem tup_ports_any (c0 c1 c2 c5 c9 : Value) (m : Bool) (off pr src dst : Int) (ob : Option Addr) (l bc : Nat) (xs : Nat → Int) (w : World) (h1 : 0 ≤ src ∧ src ≤ 4294967295) (h2 : 0 ≤ dst ∧ dst ≤ 4294967295) (hl : l ≤ 100000000) (hB : Bts w ob l bc xs) : Calls Try.prog 44 #[.agg #[c0, c1, c2, .bool m, .int .i64 off, c5, .int .i64 pr, .int .u32 src, .int .u32 dst, c9, .slice ob l bc]] w (PortsM w (prErr pr src dst xs l) (prS pr xs) (prD pr xs)) := by
  have HB := Lib.hid hB
  clear hB
  by_cases h6 : pr = 6
  · subst h6
    by_cases h0 : tcpErr src dst xs l = 0
    · have HE := Lib.hid (show prErr 6 src dst xs l = 0 by unfold prErr; rw [if_pos rfl]; exact h0)
      go_enter Try.func44, Try.ntmps44
      go_wp2_with (first | (go_at_call 24; refine (tparse_any src dst ob l bc xs _ h1 h2 hl (HB.out.on (by ((try simp only [World.junk_junk, Array.append_assoc]); (repeat (first | with_reducible exact Junk.refl _ | with_reducible exact Junk.app _ _ _ _ _ | with_reducible exact Junk.app2 _ _ _ _ _ _ | with_reducible exact Junk.app3 _ _ _ _ _ _ _ | with_reducible exact Junk.app4 _ _ _ _ _ _ _ _ | with_reducible exact Junk.app5 _ _ _ _ _ _ _ _ _ | with_reducible apply Junk.alloc | with_reducible apply Junk.junk | with_reducible apply Junk.drew | with_reducible apply Junk.drewN)))))).mono ?_; intro e w' hp; obtain ⟨F, oo, co, ob2, cb2, rfl, ⟨osj, dj, rfl⟩, _, _⟩ := hp.ok h0; clear hp))
      clear h0
      refine wp_region_junk (by kernel_rfl) (by kernel_rfl) ?_; (repeat (go_big_quiet_step (first | fail))); refine wpQuiet_nil ?_; rintro _ ⟨⟨osq, dq⟩, rfl⟩
      go_wp2
      go_returns
      exact ports_ok HE.out rfl rfl (by ((try simp only [World.junk_junk, Array.append_assoc]); (repeat (first | with_reducible exact Junk.refl _ | with_reducible exact Junk.app _ _ _ _ _ | with_reducible exact Junk.app2 _ _ _ _ _ _ | with_reducible exact Junk.app3 _ _ _ _ _ _ _ | with_reducible exact Junk.app4 _ _ _ _ _ _ _ _ | with_reducible exact Junk.app5 _ _ _ _ _ _ _ _ _ | with_reducible apply Junk.alloc | with_reducible apply Junk.junk | with_reducible apply Junk.drew | with_reducible apply Junk.drewN))))
    · have HE := Lib.hid (show prErr 6 src dst xs l = tcpErr src dst xs l by unfold prErr; rw [if_pos rfl])
      have H0 := Lib.hid h0
      obtain ⟨E, hE⟩ : ∃ E, tcpErr src dst xs l = E := ⟨_, rfl⟩
      have HP := Lib.hid (fun w1 (hb : Bts w1 ob l bc xs) => show Calls Try.prog 24 #[.int .u32 src, .int .u32 dst, .slice ob l bc] w1 fun e w' => e = .returned (.tuple #[.agg #[.int .i64 0, .int .i64 0, .int .u32 0, .int .u32 0, .int .i64 0, .int .i64 0, .int .i64 0, .slice none 0 0, .slice none 0 0], .int .i64 E]) ∧ Junk w1 w' from (tparse_any src dst ob l bc xs w1 h1 h2 hl hb).mono fun e w' hp => by rw [← hE]; exact hp.bad h0)
      rw [hE] at HE h0
      clear H0 hE
      go_enter Try.func44, Try.ntmps44
      go_wp2_with (first | (go_at_call 24; refine (HP.out _ (HB.out.on (by ((try simp only [World.junk_junk, Array.append_assoc]); (repeat (first | with_reducible exact Junk.refl _ | with_reducible exact Junk.app _ _ _ _ _ | with_reducible exact Junk.app2 _ _ _ _ _ _ | with_reducible exact Junk.app3 _ _ _ _ _ _ _ | with_reducible exact Junk.app4 _ _ _ _ _ _ _ _ | with_reducible exact Junk.app5 _ _ _ _ _ _ _ _ _ | with_reducible apply Junk.alloc | with_reducible apply Junk.junk | with_reducible apply Junk.drew | with_reducible apply Junk.drewN)))))).mono ?_; rintro e w' ⟨rfl, ⟨osj, dj, rfl⟩⟩))
      refine wp_region_junk (by kernel_rfl) (by kernel_rfl) ?_; (repeat (go_big_quiet_step (first | fail))); refine wpQuiet_nil ?_; rintro _ ⟨⟨osq, dq⟩, rfl⟩
      go_wp2
      go_returns
      exact ports_bad HE.out h0 (by ((try simp only [World.junk_junk, Array.append_assoc]); (repeat (first | with_reducible exact Junk.refl _ | with_reducible exact Junk.app _ _ _ _ _ | with_reducible exact Junk.app2 _ _ _ _ _ _ | with_reducible exact Junk.app3 _ _ _ _ _ _ _ | with_reducible exact Junk.app4 _ _ _ _ _ _ _ _ | with_reducible exact Junk.app5 _ _ _ _ _ _ _ _ _ | with_reducible apply Junk.alloc | with_reducible apply Junk.junk | with_reducible apply Junk.drew | with_reducible apply Junk.drewN))))
  have h6' : (pr == 6) = false := by simpa using h6
  by_cases h17 : pr = 17
  · subst h17
    by_cases h0 : udpErr src dst xs l = 0
    · have HE := Lib.hid (show prErr 17 src dst xs l = 0 by unfold prErr; rw [if_neg (by decide), if_pos rfl]; exact h0)
      go_enter Try.func44, Try.ntmps44
      go_wp2_with (first | (go_at_call 26; refine (uparse_any src dst ob l bc xs _ h1 h2 hl (HB.out.on (by ((try simp only [World.junk_junk, Array.append_assoc]); (repeat (first | with_reducible exact Junk.refl _ | with_reducible exact Junk.app _ _ _ _ _ | with_reducible exact Junk.app2 _ _ _ _ _ _ | with_reducible exact Junk.app3 _ _ _ _ _ _ _ | with_reducible exact Junk.app4 _ _ _ _ _ _ _ _ | with_reducible exact Junk.app5 _ _ _ _ _ _ _ _ _ | with_reducible apply Junk.alloc | with_reducible apply Junk.junk | with_reducible apply Junk.drew | with_reducible apply Junk.drewN)))))).mono ?_; intro e w' hp; obtain ⟨ob2, cb2, rfl, ⟨osj, dj, rfl⟩, _⟩ := udp_parse_ok hp h0; clear hp))
      clear h0
      refine wp_region_junk (by kernel_rfl) (by kernel_rfl) ?_; (repeat (go_big_quiet_step (first | fail))); refine wpQuiet_nil ?_; rintro _ ⟨⟨osq, dq⟩, rfl⟩
      go_wp2
      go_returns
      exact ports_ok HE.out rfl rfl (by ((try simp only [World.junk_junk, Array.append_assoc]); (repeat (first | with_reducible exact Junk.refl _ | with_reducible exact Junk.app _ _ _ _ _ | with_reducible exact Junk.app2 _ _ _ _ _ _ | with_reducible exact Junk.app3 _ _ _ _ _ _ _ | with_reducible exact Junk.app4 _ _ _ _ _ _ _ _ | with_reducible exact Junk.app5 _ _ _ _ _ _ _ _ _ | with_reducible apply Junk.alloc | with_reducible apply Junk.junk | with_reducible apply Junk.drew | with_reducible apply Junk.drewN))))
    · have HE := Lib.hid (show prErr 17 src dst xs l = udpErr src dst xs l by unfold prErr; rw [if_neg (by decide), if_pos rfl])
      obtain ⟨E, hE⟩ : ∃ E, udpErr src dst xs l = E := ⟨_, rfl⟩
      have HP := Lib.hid (fun w1 (hb : Bts w1 ob l bc xs) => show Calls Try.prog 26 #[.int .u32 src, .int .u32 dst, .slice ob l bc] w1 fun e w' => e = .returned (.tuple #[.agg #[.int .i64 0, .int .i64 0, .bool false, .slice none 0 0], .int .i64 E]) ∧ Junk w1 w' from (uparse_any src dst ob l bc xs w1 h1 h2 hl hb).mono fun e w' hp => by rw [← hE]; exact udp_parse_bad hp h0)
      rw [hE] at HE h0
      clear hE
      go_enter Try.func44, Try.ntmps44
      go_wp2_with (first | (go_at_call 26; refine (HP.out _ (HB.out.on (by ((try simp only [World.junk_junk, Array.append_assoc]); (repeat (first | with_reducible exact Junk.refl _ | with_reducible exact Junk.app _ _ _ _ _ | with_reducible exact Junk.app2 _ _ _ _ _ _ | with_reducible exact Junk.app3 _ _ _ _ _ _ _ | with_reducible exact Junk.app4 _ _ _ _ _ _ _ _ | with_reducible exact Junk.app5 _ _ _ _ _ _ _ _ _ | with_reducible apply Junk.alloc | with_reducible apply Junk.junk | with_reducible apply Junk.drew | with_reducible apply Junk.drewN)))))).mono ?_; rintro e w' ⟨rfl, ⟨osj, dj, rfl⟩⟩))
      refine wp_region_junk (by kernel_rfl) (by kernel_rfl) ?_; (repeat (go_big_quiet_step (first | fail))); refine wpQuiet_nil ?_; rintro _ ⟨⟨osq, dq⟩, rfl⟩
      go_wp2
      go_returns
      exact ports_bad HE.out h0 (by ((try simp only [World.junk_junk, Array.append_assoc]); (repeat (first | with_reducible exact Junk.refl _ | with_reducible exact Junk.app _ _ _ _ _ | with_reducible exact Junk.app2 _ _ _ _ _ _ | with_reducible exact Junk.app3 _ _ _ _ _ _ _ | with_reducible exact Junk.app4 _ _ _ _ _ _ _ _ | with_reducible exact Junk.app5 _ _ _ _ _ _ _ _ _ | with_reducible apply Junk.alloc | with_reducible apply Junk.junk | with_reducible apply Junk.drew | with_reducible apply Junk.drewN))))
  have h17' : (pr == 17) = false := by simpa using h17
  by_cases hi : pr = 1
  case neg =>
    have hi' : (pr == 1) = false := by simpa using hi
    have HE := Lib.hid (show prErr pr src dst xs l = 9 by unfold prErr; rw [if_neg h6, if_neg h17, if_neg hi])
    clear h6 h17 hi
    go_enter Try.func44, Try.ntmps44
    go_wp2
    go_returns
    exact ports_bad HE.out (by decide) (by ((try simp only [World.junk_junk, Array.append_assoc]); (repeat (first | with_reducible exact Junk.refl _ | with_reducible exact Junk.app _ _ _ _ _ | with_reducible exact Junk.app2 _ _ _ _ _ _ | with_reducible exact Junk.app3 _ _ _ _ _ _ _ | with_reducible exact Junk.app4 _ _ _ _ _ _ _ _ | with_reducible exact Junk.app5 _ _ _ _ _ _ _ _ _ | with_reducible apply Junk.alloc | with_reducible apply Junk.junk | with_reducible apply Junk.drew | with_reducible apply Junk.drewN))))
  subst hi
  clear h6 h17 h6' h17'
  by_cases h0 : pErr xs l = 0
  case neg =>
    have HE := Lib.hid (show prErr 1 src dst xs l = pErr xs l by unfold prErr; rw [if_neg (by decide), if_neg (by decide), if_pos rfl, if_pos h0])
    obtain ⟨E, hn⟩ : ∃ E, pErr xs l = E := ⟨_, rfl⟩
    rw [hn] at HE h0
    have HN := Lib.hid hn
    have hne : (E != 0) = true := by simpa using h0
    clear hn
    go_enter Try.func44, Try.ntmps44
    go_wp2_with (first | (go_at_call 76; refine (parse_any ob l bc xs _ hl (HB.out.on (by ((try simp only [World.junk_junk, Array.append_assoc]); (repeat (first | with_reducible exact Junk.refl _ | with_reducible exact Junk.app _ _ _ _ _ | with_reducible exact Junk.app2 _ _ _ _ _ _ | with_reducible exact Junk.app3 _ _ _ _ _ _ _ | with_reducible exact Junk.app4 _ _ _ _ _ _ _ _ | with_reducible exact Junk.app5 _ _ _ _ _ _ _ _ _ | with_reducible apply Junk.alloc | with_reducible apply Junk.junk | with_reducible apply Junk.drew | with_reducible apply Junk.drewN)))))).mono ?_; intro e w' hp; obtain ⟨rfl, ⟨osj, dj, rfl⟩⟩ := icmp_parse_bad hp HN.out h0; clear hp))
    go_returns
    exact ports_bad HE.out h0 (by ((try simp only [World.junk_junk, Array.append_assoc]); (repeat (first | with_reducible exact Junk.refl _ | with_reducible exact Junk.app _ _ _ _ _ | with_reducible exact Junk.app2 _ _ _ _ _ _ | with_reducible exact Junk.app3 _ _ _ _ _ _ _ | with_reducible exact Junk.app4 _ _ _ _ _ _ _ _ | with_reducible exact Junk.app5 _ _ _ _ _ _ _ _ _ | with_reducible apply Junk.alloc | with_reducible apply Junk.junk | with_reducible apply Junk.drew | with_reducible apply Junk.drewN))))
  have hl8 : 8 ≤ l := by
    unfold pErr at h0
    split at h0
    · cases h0
    · omega
  have hrb := prest_bd (HB.out.byte 4 (by omega)) (HB.out.byte 5 (by omega)) (HB.out.byte 6 (by omega)) (HB.out.byte 7 (by omega))
  have HS : prS 1 xs = pRest xs / 65536 := by unfold prS; rw [if_pos rfl]
  have HD : prD 1 xs = pRest xs / 65536 := by unfold prD; rw [if_pos rfl]
  rw [HS, HD]
  have HE0 : prErr 1 src dst xs l = if asksB (xs 0) || answersB (xs 0) then 0 else 9 := by unfold prErr; rw [if_neg (by decide), if_neg (by decide), if_pos rfl, if_neg (by rw [h0]; decide)]
  rw [HE0]
  have HIP := Lib.hid (fun w1 (hb : Bts w1 ob l bc xs) => show Calls Try.prog 76 #[.slice ob l bc] w1 fun e w' => ∃ ob2 cb, e = .returned (.tuple #[.agg #[.int .i64 (xs 0), .int .i64 (xs 1), .int .u32 (pRest xs), .slice ob2 (l - 8) cb], .int .i64 0]) ∧ Junk w1 w' from (parse_any ob l bc xs w1 hl hb).mono fun e w' hp => icmp_parse_ok hp h0)
  clear HS HD HE0 h0
  have hnm : nameI (xs 0) (pRest xs) = if asksB (xs 0) || answersB (xs 0) then pRest xs / 65536 else 0 := rfl
  generalize xs 0 = x0 at HIP hnm ⊢
  generalize xs 1 = x1 at HIP
  generalize pRest xs = R at HIP hrb hnm ⊢
  obtain ⟨NM, hNM⟩ : ∃ n, nameI x0 R = n := ⟨_, rfl⟩
  have HNM := Lib.hid (fun (x1 x3 : Value) w1 => show Calls Try.prog 77 #[.agg #[.int .i64 x0, x1, .int .u32 R, x3]] w1 fun e w' => e = .returned (.int .i64 NM) ∧ Junk w1 w' by rw [← hNM]; exact name_any x0 R x1 x3 w1 hrb)
  rw [hnm] at hNM
  clear hnm
  cases ha : asksB x0 with
  | true =>
    rw [ha] at hNM
    simp only [Bool.true_or, if_true] at hNM ⊢
    have HNE := Lib.hid hNM
    clear hNM
    go_enter Try.func44, Try.ntmps44
    go_wp2_with (first | (go_at_call 76; refine (HIP.out _ (HB.out.on (by ((try simp only [World.junk_junk, Array.append_assoc]); (repeat (first | with_reducible exact Junk.refl _ | with_reducible exact Junk.app _ _ _ _ _ | with_reducible exact Junk.app2 _ _ _ _ _ _ | with_reducible exact Junk.app3 _ _ _ _ _ _ _ | with_reducible exact Junk.app4 _ _ _ _ _ _ _ _ | with_reducible exact Junk.app5 _ _ _ _ _ _ _ _ _ | with_reducible apply Junk.alloc | with_reducible apply Junk.junk | with_reducible apply Junk.drew | with_reducible apply Junk.drewN)))))).mono ?_; rintro e w' ⟨ob2, cb2, rfl, ⟨osj, dj, rfl⟩⟩) | (go_at_call 67; refine (asks_any x0 _ _ _ _).mono ?_; rintro e w' ⟨rfl, ⟨osj, dj, rfl⟩⟩) | (go_at_call 68; refine (answers_any x0 _ _ _ _).mono ?_; rintro e w' ⟨rfl, ⟨osj, dj, rfl⟩⟩))
    refine wp_region_junk (by kernel_rfl) (by kernel_rfl) ?_; (repeat (go_big_quiet_step (first | (go_at_call 77; first | with_reducible exact Calls.junk_of5 (HNM.out _ _ _) | with_reducible exact Calls.junk_of4 (HNM.out _ _ _) | with_reducible exact Calls.junk_of3 (HNM.out _ _ _) | with_reducible exact Calls.junk_of2 (HNM.out _ _ _) | exact Calls.junk_of (HNM.out _ _ _))))); refine wpQuiet_nil ?_; rintro _ ⟨⟨osq, dq⟩, rfl⟩
    go_wp2
    go_returns
    exact ports_ok rfl HNE.out HNE.out (by ((try simp only [World.junk_junk, Array.append_assoc]); (repeat (first | with_reducible exact Junk.refl _ | with_reducible exact Junk.app _ _ _ _ _ | with_reducible exact Junk.app2 _ _ _ _ _ _ | with_reducible exact Junk.app3 _ _ _ _ _ _ _ | with_reducible exact Junk.app4 _ _ _ _ _ _ _ _ | with_reducible exact Junk.app5 _ _ _ _ _ _ _ _ _ | with_reducible apply Junk.alloc | with_reducible apply Junk.junk | with_reducible apply Junk.drew | with_reducible apply Junk.drewN))))
  | false =>
    cases hb : answersB x0 with
    | true =>
      rw [ha, hb] at hNM
      simp only [Bool.false_or, if_true] at hNM ⊢
      have HNE := Lib.hid hNM
      clear hNM
      go_enter Try.func44, Try.ntmps44
      go_wp2_with (first | (go_at_call 76; refine (HIP.out _ (HB.out.on (by ((try simp only [World.junk_junk, Array.append_assoc]); (repeat (first | with_reducible exact Junk.refl _ | with_reducible exact Junk.app _ _ _ _ _ | with_reducible exact Junk.app2 _ _ _ _ _ _ | with_reducible exact Junk.app3 _ _ _ _ _ _ _ | with_reducible exact Junk.app4 _ _ _ _ _ _ _ _ | with_reducible exact Junk.app5 _ _ _ _ _ _ _ _ _ | with_reducible apply Junk.alloc | with_reducible apply Junk.junk | with_reducible apply Junk.drew | with_reducible apply Junk.drewN)))))).mono ?_; rintro e w' ⟨ob2, cb2, rfl, ⟨osj, dj, rfl⟩⟩) | (go_at_call 67; refine (asks_any x0 _ _ _ _).mono ?_; rintro e w' ⟨rfl, ⟨osj, dj, rfl⟩⟩) | (go_at_call 68; refine (answers_any x0 _ _ _ _).mono ?_; rintro e w' ⟨rfl, ⟨osj, dj, rfl⟩⟩))
      refine wp_region_junk (by kernel_rfl) (by kernel_rfl) ?_; (repeat (go_big_quiet_step (first | (go_at_call 77; first | with_reducible exact Calls.junk_of5 (HNM.out _ _ _) | with_reducible exact Calls.junk_of4 (HNM.out _ _ _) | with_reducible exact Calls.junk_of3 (HNM.out _ _ _) | with_reducible exact Calls.junk_of2 (HNM.out _ _ _) | exact Calls.junk_of (HNM.out _ _ _))))); refine wpQuiet_nil ?_; rintro _ ⟨⟨osq, dq⟩, rfl⟩
      go_wp2
      go_returns
      exact ports_ok rfl HNE.out HNE.out (by ((try simp only [World.junk_junk, Array.append_assoc]); (repeat (first | with_reducible exact Junk.refl _ | with_reducible exact Junk.app _ _ _ _ _ | with_reducible exact Junk.app2 _ _ _ _ _ _ | with_reducible exact Junk.app3 _ _ _ _ _ _ _ | with_reducible exact Junk.app4 _ _ _ _ _ _ _ _ | with_reducible exact Junk.app5 _ _ _ _ _ _ _ _ _ | with_reducible apply Junk.alloc | with_reducible apply Junk.junk | with_reducible apply Junk.drew | with_reducible apply Junk.drewN))))
    | false =>
      simp only [Bool.or_false, Bool.false_eq_true, if_false]
      clear hNM
      go_enter Try.func44, Try.ntmps44
      go_wp2_with (first | (go_at_call 76; refine (HIP.out _ (HB.out.on (by ((try simp only [World.junk_junk, Array.append_assoc]); (repeat (first | with_reducible exact Junk.refl _ | with_reducible exact Junk.app _ _ _ _ _ | with_reducible exact Junk.app2 _ _ _ _ _ _ | with_reducible exact Junk.app3 _ _ _ _ _ _ _ | with_reducible exact Junk.app4 _ _ _ _ _ _ _ _ | with_reducible exact Junk.app5 _ _ _ _ _ _ _ _ _ | with_reducible apply Junk.alloc | with_reducible apply Junk.junk | with_reducible apply Junk.drew | with_reducible apply Junk.drewN)))))).mono ?_; rintro e w' ⟨ob2, cb2, rfl, ⟨osj, dj, rfl⟩⟩) | (go_at_call 67; refine (asks_any x0 _ _ _ _).mono ?_; rintro e w' ⟨rfl, ⟨osj, dj, rfl⟩⟩) | (go_at_call 68; refine (answers_any x0 _ _ _ _).mono ?_; rintro e w' ⟨rfl, ⟨osj, dj, rfl⟩⟩))
      go_returns
      exact ports_bad rfl (by decide) (by ((try simp only [World.junk_junk, Array.append_assoc]); (repeat (first | with_reducible exact Junk.refl _ | with_reducible exact Junk.app _ _ _ _ _ | with_reducible exact Junk.app2 _ _ _ _ _ _ | with_reducible exact Junk.app3 _ _ _ _ _ _ _ | with_reducible exact Junk.app4 _ _ _ _ _ _ _ _ | with_reducible exact Junk.app5 _ _ _ _ _ _ _ _ _ | with_reducible apply Junk.alloc | with_reducible apply Junk.junk | with_reducible apply Junk.drew | with_reducible apply Junk.drewN))))
def ofErr (m : Bool) (off pr src dst : Int) (xs : Nat → Int) (l : Nat) : Int := if (m || (off != 0)) = true then 7 else prErr pr src dst xs l
def ofTup (m : Bool) (off pr src dst : Int) (xs : Nat → Int) (l : Nat) : Tup := if ofErr m off pr src dst xs l = 0 then ⟨pr, src, prS pr xs, dst, prD pr xs⟩ else ⟨0, 0, 0, 0, 0⟩
set_option maxHeartbeats 1000000 in
theorem tup_of_any (c0 c1 c2 c5 c9 : Value) (m : Bool) (off pr src dst : Int) (ob : Option Addr) (l bc : Nat) (xs : Nat → Int) (w : World) (h1 : 0 ≤ src ∧ src ≤ 4294967295) (h2 : 0 ≤ dst ∧ dst ≤ 4294967295) (hl : l ≤ 100000000) (hB : Bts w ob l bc xs) : Calls Try.prog 20 #[.agg #[c0, c1, c2, .bool m, .int .i64 off, c5, .int .i64 pr, .int .u32 src, .int .u32 dst, c9, .slice ob l bc]] w fun e w' => e = .returned (.tuple #[(ofTup m off pr src dst xs l).val, .int .i64 (ofErr m off pr src dst xs l)]) ∧ Junk w w' := by
  have HB := Lib.hid hB
  clear hB
  cases hp : (m || (off != 0)) with
  | true =>
    have hE : ofErr m off pr src dst xs l = 7 := by unfold ofErr; rw [if_pos hp]
    have hT : ofTup m off pr src dst xs l = ⟨0, 0, 0, 0, 0⟩ := by unfold ofTup; rw [hE]; rfl
    rw [hE, hT]
    clear hE hT
    have HPC := Lib.hid (fun w1 => show Calls Try.prog 43 #[.agg #[c0, c1, c2, .bool m, .int .i64 off, c5, .int .i64 pr, .int .u32 src, .int .u32 dst, c9, .slice ob l bc]] w1 fun e w' => e = .returned (.bool true) ∧ Junk w1 w' by rw [← hp]; exact tup_piece_any c0 c1 c2 c5 _ _ _ c9 _ m off w1)
    clear hp
    go_enter Try.func20, Try.ntmps20
    go_wp2_with (first | (go_at_call 43; refine (HPC.out _).mono ?_; rintro e w' ⟨rfl, ⟨osj, dj, rfl⟩⟩))
    go_returns
    exact ⟨rfl, by ((try simp only [World.junk_junk, Array.append_assoc]); (repeat (first | with_reducible exact Junk.refl _ | with_reducible exact Junk.app _ _ _ _ _ | with_reducible exact Junk.app2 _ _ _ _ _ _ | with_reducible exact Junk.app3 _ _ _ _ _ _ _ | with_reducible exact Junk.app4 _ _ _ _ _ _ _ _ | with_reducible exact Junk.app5 _ _ _ _ _ _ _ _ _ | with_reducible apply Junk.alloc | with_reducible apply Junk.junk | with_reducible apply Junk.drew | with_reducible apply Junk.drewN)))⟩
  | false =>
    have HPC := Lib.hid (fun w1 => show Calls Try.prog 43 #[.agg #[c0, c1, c2, .bool m, .int .i64 off, c5, .int .i64 pr, .int .u32 src, .int .u32 dst, c9, .slice ob l bc]] w1 fun e w' => e = .returned (.bool false) ∧ Junk w1 w' by rw [← hp]; exact tup_piece_any c0 c1 c2 c5 _ _ _ c9 _ m off w1)
    have hE : ofErr m off pr src dst xs l = prErr pr src dst xs l := by unfold ofErr; rw [if_neg (by rw [hp]; decide)]
    by_cases h0 : prErr pr src dst xs l = 0
    · have hT : ofTup m off pr src dst xs l = ⟨pr, src, prS pr xs, dst, prD pr xs⟩ := by unfold ofTup; rw [if_pos (by rw [hE]; exact h0)]
      have HPR := Lib.hid (fun w1 (hb : Bts w1 ob l bc xs) => show Calls Try.prog 44 #[.agg #[c0, c1, c2, .bool m, .int .i64 off, c5, .int .i64 pr, .int .u32 src, .int .u32 dst, c9, .slice ob l bc]] w1 fun e w' => e = .returned (.tuple #[.int .i64 (prS pr xs), .int .i64 (prD pr xs), .int .i64 0]) ∧ Junk w1 w' from (tup_ports_any c0 c1 c2 c5 c9 m off pr src dst ob l bc xs w1 h1 h2 hl hb).mono fun e w' hp => ⟨hp.1 h0, hp.2.2⟩)
      rw [hE, hT, h0]
      clear hE hT h0 hp
      go_enter Try.func20, Try.ntmps20
      go_wp2_with (first | (go_at_call 43; refine (HPC.out _).mono ?_; rintro e w' ⟨rfl, ⟨osj, dj, rfl⟩⟩) | (go_at_call 44; refine (HPR.out _ (HB.out.on (by ((try simp only [World.junk_junk, Array.append_assoc]); (repeat (first | with_reducible exact Junk.refl _ | with_reducible exact Junk.app _ _ _ _ _ | with_reducible exact Junk.app2 _ _ _ _ _ _ | with_reducible exact Junk.app3 _ _ _ _ _ _ _ | with_reducible exact Junk.app4 _ _ _ _ _ _ _ _ | with_reducible exact Junk.app5 _ _ _ _ _ _ _ _ _ | with_reducible apply Junk.alloc | with_reducible apply Junk.junk | with_reducible apply Junk.drew | with_reducible apply Junk.drewN)))))).mono ?_; rintro e w' ⟨rfl, ⟨osj, dj, rfl⟩⟩))
      go_returns
      exact ⟨rfl, by ((try simp only [World.junk_junk, Array.append_assoc]); (repeat (first | with_reducible exact Junk.refl _ | with_reducible exact Junk.app _ _ _ _ _ | with_reducible exact Junk.app2 _ _ _ _ _ _ | with_reducible exact Junk.app3 _ _ _ _ _ _ _ | with_reducible exact Junk.app4 _ _ _ _ _ _ _ _ | with_reducible exact Junk.app5 _ _ _ _ _ _ _ _ _ | with_reducible apply Junk.alloc | with_reducible apply Junk.junk | with_reducible apply Junk.drew | with_reducible apply Junk.drewN)))⟩
    · have hT : ofTup m off pr src dst xs l = ⟨0, 0, 0, 0, 0⟩ := by unfold ofTup; rw [if_neg (by rw [hE]; exact h0)]
      obtain ⟨E, hn⟩ : ∃ E, prErr pr src dst xs l = E := ⟨_, rfl⟩
      have HPR := Lib.hid (fun w1 (hb : Bts w1 ob l bc xs) => show Calls Try.prog 44 #[.agg #[c0, c1, c2, .bool m, .int .i64 off, c5, .int .i64 pr, .int .u32 src, .int .u32 dst, c9, .slice ob l bc]] w1 fun e w' => e = .returned (.tuple #[.int .i64 0, .int .i64 0, .int .i64 E]) ∧ Junk w1 w' from (tup_ports_any c0 c1 c2 c5 c9 m off pr src dst ob l bc xs w1 h1 h2 hl hb).mono fun e w' hp => ⟨by rw [← hn]; exact hp.2.1 h0, hp.2.2⟩)
      rw [hE, hT, hn]
      rw [hn] at h0
      have hne : (E != 0) = true := by simpa using h0
      clear hE hT hn hp
      go_enter Try.func20, Try.ntmps20
      go_wp2_with (first | (go_at_call 43; refine (HPC.out _).mono ?_; rintro e w' ⟨rfl, ⟨osj, dj, rfl⟩⟩) | (go_at_call 44; refine (HPR.out _ (HB.out.on (by ((try simp only [World.junk_junk, Array.append_assoc]); (repeat (first | with_reducible exact Junk.refl _ | with_reducible exact Junk.app _ _ _ _ _ | with_reducible exact Junk.app2 _ _ _ _ _ _ | with_reducible exact Junk.app3 _ _ _ _ _ _ _ | with_reducible exact Junk.app4 _ _ _ _ _ _ _ _ | with_reducible exact Junk.app5 _ _ _ _ _ _ _ _ _ | with_reducible apply Junk.alloc | with_reducible apply Junk.junk | with_reducible apply Junk.drew | with_reducible apply Junk.drewN)))))).mono ?_; rintro e w' ⟨rfl, ⟨osj, dj, rfl⟩⟩))
      go_returns
      exact ⟨rfl, by ((try simp only [World.junk_junk, Array.append_assoc]); (repeat (first | with_reducible exact Junk.refl _ | with_reducible exact Junk.app _ _ _ _ _ | with_reducible exact Junk.app2 _ _ _ _ _ _ | with_reducible exact Junk.app3 _ _ _ _ _ _ _ | with_reducible exact Junk.app4 _ _ _ _ _ _ _ _ | with_reducible exact Junk.app5 _ _ _ _ _ _ _ _ _ | with_reducible apply Junk.alloc | with_reducible apply Junk.junk | with_reducible apply Junk.drew | with_reducible apply Junk.drewN)))⟩
end Go.Proofs.Ytnefphinmjeacaa
set_option linter.unusedVariables false
set_option maxRecDepth 100000
set_option linter.unusedSimpArgs false
namespace Go.Proofs.Ytnefphinmjeacaa
open Go.RowKit
theorem tupq_guard : Try.prog.eqGuardType Try.prog.depth 28 = false := by kernel_rfl
theorem tupq_equalIn (x y : Tup) (w : World) : (Op.equalIn 10000 28 (.agg #[.int .i64 x.proto, .int .u32 x.src, .int .i64 x.sport, .int .u32 x.dst, .int .i64 x.dport]) (.agg #[.int .i64 y.proto, .int .u32 y.src, .int .i64 y.sport, .int .u32 y.dst, .int .i64 y.dport])).run Try.prog w = .ok (decide (x = y)) w := by
  have u3 := Try.underlying3
  have a3 := Try.isAgg3
  have z3 := Try.sizeOf3
  have u4 := Try.underlying22
  have a4 := Try.isAgg22
  have z4 := Try.sizeOf22
  have hS : Try.prog.underlying 28 = some (.struct (Try.prog.fieldsOf 28)) := by kernel_rfl
  have hp : Try.prog.stoodInHeld 28 = false := by kernel_rfl
  rw [show (10000 : Nat) = 9999 + 1 from rfl, run_equalIn_agg w 9999 28 _ _ hS hp]
  simp only [Program.fieldsOf, Try.underlying28]
  obtain ⟨xp, xi, xn, xo, xt⟩ := x
  obtain ⟨yp, yi, yn, yo, yt⟩ := y
  go_simp
  by_cases h1 : xp = yp <;> by_cases h2 : xi = yi <;> by_cases h3 : xn = yn <;> by_cases h4 : xo = yo <;> by_cases h5 : xt = yt <;> simp [h1, h2, h3, h4, h5]
theorem tupq_eql (x y : Tup) (w : World) : (binOp .eql 28 (.agg #[.int .i64 x.proto, .int .u32 x.src, .int .i64 x.sport, .int .u32 x.dst, .int .i64 x.dport]) (.agg #[.int .i64 y.proto, .int .u32 y.src, .int .i64 y.sport, .int .u32 y.dst, .int .i64 y.dport])).run Try.prog w = .ok (.bool (decide (x = y))) w := by
  rw [run_eql_struct, tupq_equalIn]; rfl
theorem tupq_neq (x y : Tup) (w : World) : (binOp .neq 28 (.agg #[.int .i64 x.proto, .int .u32 x.src, .int .i64 x.sport, .int .u32 x.dst, .int .i64 x.dport]) (.agg #[.int .i64 y.proto, .int .u32 y.src, .int .i64 y.sport, .int .u32 y.dst, .int .i64 y.dport])).run Try.prog w = .ok (.bool (!decide (x = y))) w := by
  rw [run_neq_struct, tupq_equalIn]; rfl
end Go.Proofs.Ytnefphinmjeacaa
set_option linter.unusedVariables false
set_option maxRecDepth 100000
set_option linter.unusedSimpArgs false
namespace Go.Proofs.Ytnefphinmjeacaa
open Go.RowKit
theorem TnM.ok {w w' : World} {kind code rest E : Int} {l : Nat} {ys : Nat → Int} {e : Ending} (h : TnM w kind code rest E l ys e w') (h0 : E = 0) :
    Junk w w' ∧ ∃ (ob : Option Addr) (cb : Nat), Bts w' ob l cb ys ∧ e = .returned (.tuple #[.agg #[.int .i64 kind, .int .i64 code, .int .u32 rest, .slice ob l cb], .int .i64 0]) := by
  obtain ⟨hj, ⟨h1, _⟩ | ⟨_, h2⟩⟩ := h
  · exact absurd h0 h1
  · exact ⟨hj, h2⟩
theorem TnM.bad {w w' : World} {kind code rest E : Int} {l : Nat} {ys : Nat → Int} {e : Ending} (h : TnM w kind code rest E l ys e w') (h0 : E ≠ 0) :
    Junk w w' ∧ e = .returned (.tuple #[.agg #[.int .i64 0, .int .i64 0, .int .u32 0, .slice none 0 0], .int .i64 E]) := by
  obtain ⟨hj, ⟨_, h1⟩ | ⟨h1, _⟩⟩ := h
  · exact ⟨hj, h1⟩
  · exact absurd h1 h0
theorem tn_ok {w w' : World} {kind code rest E : Int} {l cb : Nat} {ob : Option Addr} {ys : Nat → Int} (h : E = 0) (hj : Junk w w') (hb : Bts w' ob l cb ys) :
    TnM w kind code rest E l ys (.returned (.tuple #[.agg #[.int .i64 kind, .int .i64 code, .int .u32 rest, .slice ob l cb], .int .i64 0])) w' := ⟨hj, .inr ⟨h, ob, cb, hb, rfl⟩⟩
/-- A store to a block that holds no byte leaves bytes as they were. -/
theorem bts_over_nb {V : World} {cur cur' : Array Value} {t : TypeId} {os : Array Obj} {d : Nat} {oa : Option Addr} {l c : Nat} {xs : Nat → Int}
    (h : Bts ((V.alloc (.cells cur t)).junk os d) oa l c xs) (hn : ∀ (i : Nat) (v : Int), cur[i]? ≠ some (.int .u8 v)) : Bts ((V.alloc (.cells cur' t)).junk os d) oa l c xs := by
  refine ⟨fun i hi => ?_, h.byte, h.nil, h.le, h.cap⟩
  obtain ⟨b, off, he, hlt, hc⟩ := h.at_ i hi
  by_cases hb : b = V.heap.size
  · subst hb
    rw [World.cell?_junk _ _ _ _ _ (by simp), World.cell?_alloc_new] at hc
    exact absurd hc (hn _ _)
  · refine ⟨b, off, he, by simpa using hlt, ?_⟩
    rw [← hc]
    apply World.cell?_of_block
    simp only [World.junk, World.alloc]
    rcases Nat.lt_or_gt_of_ne hb with h1 | h1
    · rw [Array.getElem?_append_left (by simp; omega), Array.getElem?_append_left (by simp; omega), Array.getElem?_push, Array.getElem?_push, if_neg hb, if_neg hb]
    · rw [Array.getElem?_append_right (by simp; omega), Array.getElem?_append_right (by simp; omega)]
      simp
theorem zm_nb : ∀ (i : Nat) (v : Int), (#[.int .i64 0, .int .i64 0, .int .u32 0, .slice none 0 0] : Array Value)[i]? ≠ some (.int .u8 v) := by
  intro i v h
  rcases i with _ | _ | _ | _ | i <;> simp at h
set_option maxHeartbeats 4000000 in
theorem src_any (kind code rest addr port : Int) (oa : Option Addr) (l c : Nat) (xs : Nat → Int) (w : World) (hl : l ≤ 100000000) (hB : Bts w oa l c xs) (haddr : 0 ≤ addr ∧ addr ≤ 4294967295) :
    Calls Try.prog 13 #[.agg #[.int .i64 kind, .int .i64 code, .int .u32 rest, .slice oa l c], .int .u32 addr, .int .i64 port] w (TnM w kind code rest (tnErr kind xs l port) l (tnB xs l 12 0 addr port)) := by
  have HB := Lib.hid hB
  clear hB
  by_cases h0 : tnErr kind xs l port = 0
  · have HT := Lib.hid (fun w1 (hb : Bts w1 oa l c xs) => (turn12_any kind code rest addr port oa l c xs w1 hl hb haddr).mono fun e w' hp => hp.ok h0)
    have HE := Lib.hid h0
    clear h0
    go_enter Try.func13, Try.ntmps13
    go_wp2_with (first | (go_at_call 35; (with_reducible refine (HT.out _ (HB.out.on (by (first | ((repeat (first | with_reducible exact Junk.refl _ | with_reducible exact Junk.app _ _ _ _ _ | with_reducible apply Junk.alloc | with_reducible apply Junk.junk | with_reducible apply Junk.drew | with_reducible apply Junk.drewN)); done) | ((try simp only [World.junk_junk, Array.append_assoc]); (repeat (first | with_reducible exact Junk.refl _ | with_reducible exact Junk.app _ _ _ _ _ | with_reducible exact Junk.app2 _ _ _ _ _ _ | with_reducible exact Junk.app3 _ _ _ _ _ _ _ | with_reducible exact Junk.app4 _ _ _ _ _ _ _ _ | with_reducible exact Junk.app5 _ _ _ _ _ _ _ _ _ | with_reducible apply Junk.alloc | with_reducible apply Junk.junk | with_reducible apply Junk.drew | with_reducible apply Junk.drewN))))))).mono ?_); rintro e w' ⟨⟨os, d, rfl⟩, ob, cb, hb, rfl⟩; have Hb := Lib.hid hb; clear hb))
    go_returns
    exact tn_ok HE.out (by (first | ((repeat (first | with_reducible exact Junk.refl _ | with_reducible exact Junk.app _ _ _ _ _ | with_reducible apply Junk.alloc | with_reducible apply Junk.junk | with_reducible apply Junk.drew | with_reducible apply Junk.drewN)); done) | ((try simp only [World.junk_junk, Array.append_assoc]); (repeat (first | with_reducible exact Junk.refl _ | with_reducible exact Junk.app _ _ _ _ _ | with_reducible exact Junk.app2 _ _ _ _ _ _ | with_reducible exact Junk.app3 _ _ _ _ _ _ _ | with_reducible exact Junk.app4 _ _ _ _ _ _ _ _ | with_reducible exact Junk.app5 _ _ _ _ _ _ _ _ _ | with_reducible apply Junk.alloc | with_reducible apply Junk.junk | with_reducible apply Junk.drew | with_reducible apply Junk.drewN))))) (bts_over_nb Hb.out zm_nb)
  · have HT := Lib.hid (fun w1 (hb : Bts w1 oa l c xs) => (turn12_any kind code rest addr port oa l c xs w1 hl hb haddr).mono fun e w' hp => hp.bad h0)
    obtain ⟨E, hE⟩ : ∃ E, tnErr kind xs l port = E := ⟨_, rfl⟩
    rw [hE] at HT h0
    have HE := Lib.hid hE
    have H0 := Lib.hid h0
    clear h0 hE
    go_enter Try.func13, Try.ntmps13
    go_wp2_with (first | (go_at_call 35; (with_reducible refine (HT.out _ (HB.out.on (by (first | ((repeat (first | with_reducible exact Junk.refl _ | with_reducible exact Junk.app _ _ _ _ _ | with_reducible apply Junk.alloc | with_reducible apply Junk.junk | with_reducible apply Junk.drew | with_reducible apply Junk.drewN)); done) | ((try simp only [World.junk_junk, Array.append_assoc]); (repeat (first | with_reducible exact Junk.refl _ | with_reducible exact Junk.app _ _ _ _ _ | with_reducible exact Junk.app2 _ _ _ _ _ _ | with_reducible exact Junk.app3 _ _ _ _ _ _ _ | with_reducible exact Junk.app4 _ _ _ _ _ _ _ _ | with_reducible exact Junk.app5 _ _ _ _ _ _ _ _ _ | with_reducible apply Junk.alloc | with_reducible apply Junk.junk | with_reducible apply Junk.drew | with_reducible apply Junk.drewN))))))).mono ?_); rintro e w' ⟨⟨os, d, rfl⟩, rfl⟩))
    go_returns
    exact tn_bad HE.out H0.out (by (first | ((repeat (first | with_reducible exact Junk.refl _ | with_reducible exact Junk.app _ _ _ _ _ | with_reducible apply Junk.alloc | with_reducible apply Junk.junk | with_reducible apply Junk.drew | with_reducible apply Junk.drewN)); done) | ((try simp only [World.junk_junk, Array.append_assoc]); (repeat (first | with_reducible exact Junk.refl _ | with_reducible exact Junk.app _ _ _ _ _ | with_reducible exact Junk.app2 _ _ _ _ _ _ | with_reducible exact Junk.app3 _ _ _ _ _ _ _ | with_reducible exact Junk.app4 _ _ _ _ _ _ _ _ | with_reducible exact Junk.app5 _ _ _ _ _ _ _ _ _ | with_reducible apply Junk.alloc | with_reducible apply Junk.junk | with_reducible apply Junk.drew | with_reducible apply Junk.drewN)))))
set_option maxHeartbeats 4000000 in
theorem dst_any (kind code rest addr port : Int) (oa : Option Addr) (l c : Nat) (xs : Nat → Int) (w : World) (hl : l ≤ 100000000) (hB : Bts w oa l c xs) (haddr : 0 ≤ addr ∧ addr ≤ 4294967295) :
    Calls Try.prog 16 #[.agg #[.int .i64 kind, .int .i64 code, .int .u32 rest, .slice oa l c], .int .u32 addr, .int .i64 port] w (TnM w kind code rest (tnErr kind xs l port) l (tnB xs l 16 2 addr port)) := by
  have HB := Lib.hid hB
  clear hB
  by_cases h0 : tnErr kind xs l port = 0
  · have HT := Lib.hid (fun w1 (hb : Bts w1 oa l c xs) => (turn16_any kind code rest addr port oa l c xs w1 hl hb haddr).mono fun e w' hp => hp.ok h0)
    have HE := Lib.hid h0
    clear h0
    go_enter Try.func16, Try.ntmps16
    go_wp2_with (first | (go_at_call 35; (with_reducible refine (HT.out _ (HB.out.on (by (first | ((repeat (first | with_reducible exact Junk.refl _ | with_reducible exact Junk.app _ _ _ _ _ | with_reducible apply Junk.alloc | with_reducible apply Junk.junk | with_reducible apply Junk.drew | with_reducible apply Junk.drewN)); done) | ((try simp only [World.junk_junk, Array.append_assoc]); (repeat (first | with_reducible exact Junk.refl _ | with_reducible exact Junk.app _ _ _ _ _ | with_reducible exact Junk.app2 _ _ _ _ _ _ | with_reducible exact Junk.app3 _ _ _ _ _ _ _ | with_reducible exact Junk.app4 _ _ _ _ _ _ _ _ | with_reducible exact Junk.app5 _ _ _ _ _ _ _ _ _ | with_reducible apply Junk.alloc | with_reducible apply Junk.junk | with_reducible apply Junk.drew | with_reducible apply Junk.drewN))))))).mono ?_); rintro e w' ⟨⟨os, d, rfl⟩, ob, cb, hb, rfl⟩; have Hb := Lib.hid hb; clear hb))
    go_returns
    exact tn_ok HE.out (by (first | ((repeat (first | with_reducible exact Junk.refl _ | with_reducible exact Junk.app _ _ _ _ _ | with_reducible apply Junk.alloc | with_reducible apply Junk.junk | with_reducible apply Junk.drew | with_reducible apply Junk.drewN)); done) | ((try simp only [World.junk_junk, Array.append_assoc]); (repeat (first | with_reducible exact Junk.refl _ | with_reducible exact Junk.app _ _ _ _ _ | with_reducible exact Junk.app2 _ _ _ _ _ _ | with_reducible exact Junk.app3 _ _ _ _ _ _ _ | with_reducible exact Junk.app4 _ _ _ _ _ _ _ _ | with_reducible exact Junk.app5 _ _ _ _ _ _ _ _ _ | with_reducible apply Junk.alloc | with_reducible apply Junk.junk | with_reducible apply Junk.drew | with_reducible apply Junk.drewN))))) (bts_over_nb Hb.out zm_nb)
  · have HT := Lib.hid (fun w1 (hb : Bts w1 oa l c xs) => (turn16_any kind code rest addr port oa l c xs w1 hl hb haddr).mono fun e w' hp => hp.bad h0)
    obtain ⟨E, hE⟩ : ∃ E, tnErr kind xs l port = E := ⟨_, rfl⟩
    rw [hE] at HT h0
    have HE := Lib.hid hE
    have H0 := Lib.hid h0
    clear h0 hE
    go_enter Try.func16, Try.ntmps16
    go_wp2_with (first | (go_at_call 35; (with_reducible refine (HT.out _ (HB.out.on (by (first | ((repeat (first | with_reducible exact Junk.refl _ | with_reducible exact Junk.app _ _ _ _ _ | with_reducible apply Junk.alloc | with_reducible apply Junk.junk | with_reducible apply Junk.drew | with_reducible apply Junk.drewN)); done) | ((try simp only [World.junk_junk, Array.append_assoc]); (repeat (first | with_reducible exact Junk.refl _ | with_reducible exact Junk.app _ _ _ _ _ | with_reducible exact Junk.app2 _ _ _ _ _ _ | with_reducible exact Junk.app3 _ _ _ _ _ _ _ | with_reducible exact Junk.app4 _ _ _ _ _ _ _ _ | with_reducible exact Junk.app5 _ _ _ _ _ _ _ _ _ | with_reducible apply Junk.alloc | with_reducible apply Junk.junk | with_reducible apply Junk.drew | with_reducible apply Junk.drewN))))))).mono ?_); rintro e w' ⟨⟨os, d, rfl⟩, rfl⟩))
    go_returns
    exact tn_bad HE.out H0.out (by (first | ((repeat (first | with_reducible exact Junk.refl _ | with_reducible exact Junk.app _ _ _ _ _ | with_reducible apply Junk.alloc | with_reducible apply Junk.junk | with_reducible apply Junk.drew | with_reducible apply Junk.drewN)); done) | ((try simp only [World.junk_junk, Array.append_assoc]); (repeat (first | with_reducible exact Junk.refl _ | with_reducible exact Junk.app _ _ _ _ _ | with_reducible exact Junk.app2 _ _ _ _ _ _ | with_reducible exact Junk.app3 _ _ _ _ _ _ _ | with_reducible exact Junk.app4 _ _ _ _ _ _ _ _ | with_reducible exact Junk.app5 _ _ _ _ _ _ _ _ _ | with_reducible apply Junk.alloc | with_reducible apply Junk.junk | with_reducible apply Junk.drew | with_reducible apply Junk.drewN)))))
/-! ### The fixed answers. -/
def vU : Nat → Int := udOf 1 2 5 6 (fun _ => 0) 0
def vIp : Ip := ⟨0, 0, false, false, 0, 1, 17, 1, 2, 0, fun _ => 0, 8, vU⟩
def vC : Nat → Int := pktB vIp
def vY : Nat → Int := tnB vC 28 12 0 77 88
theorem vIp_may : mayB vIp = true := by decide +kernel
theorem vC_tell : tellErr 11 0 vC 28 = 0 := by decide +kernel
theorem vC_len : tellLen vC = 28 := by decide +kernel
theorem vC_src : tnErr 11 vC 28 88 = 0 := by decide +kernel
theorem vY_err : nmErr 11 vY 28 = 0 := by decide +kernel
theorem vY_1 : (nmTup vY 28).proto = 17 := by decide +kernel
theorem vY_2 : (nmTup vY 28).src = 77 := by decide +kernel
theorem vY_3 : (nmTup vY 28).sport = 88 := by decide +kernel
theorem vY_4 : (nmTup vY 28).dst = 2 := by decide +kernel
theorem vY_5 : (nmTup vY 28).dport = 6 := by decide +kernel
theorem tup_ext {t : Tup} {a b c d e : Int} (h1 : t.proto = a) (h2 : t.src = b) (h3 : t.sport = c) (h4 : t.dst = d) (h5 : t.dport = e) : t = ⟨a, b, c, d, e⟩ := by
  obtain ⟨_, _, _, _, _⟩ := t
  cases h1; cases h2; cases h3; cases h4; cases h5; rfl
set_option maxHeartbeats 4000000 in
theorem awake26_any (w : World) : Calls Try.prog 10 #[] w fun e w' => e = .returned (.bool true) ∧ Junk w w' := by
  have HU := Lib.hid (fun w1 => show Calls Try.prog 30 #[.int .u32 1, .int .u32 2, .agg #[.int .i64 5, .int .i64 6, .bool false, .slice none 0 0]] w1 fun e w' => ∃ (ob : Option Addr) (cb : Nat), e = .returned (.tuple #[.slice ob 8 cb, .int .i64 0]) ∧ Junk w1 w' ∧ Bts w' ob 8 cb vU from
    uput_any 1 2 5 6 none 0 0 (fun _ => 0) w1 (by omega) (by omega) (by omega) (by omega) (by omega) (bts_nil _ _))
  have HP := Lib.hid (fun (ob : Option Addr) (cb : Nat) w1 (hb : Bts w1 ob 8 cb vU) => show Calls Try.prog 28 #[.agg #[.int .i64 0, .int .i64 0, .bool false, .bool false, .int .i64 0, .int .i64 1, .int .i64 17, .int .u32 1, .int .u32 2, .slice none 0 0, .slice ob 8 cb]] w1 fun e w' => ∃ (ob : Option Addr) (cb : Nat), e = .returned (.tuple #[.slice ob 28 cb, .int .i64 0]) ∧ Junk w1 w' ∧ Bts w' ob 28 cb vC from
    (ipPut_any vIp none ob 0 cb w1 (by decide) (by decide) ⟨bts_none _ _, hb, by decide, by decide⟩).mono fun e w' hp => by
      obtain ⟨ob, cb, rfl, hj, hb, _⟩ := hp.ok vIp_may
      exact ⟨ob, cb, rfl, hj, hb⟩)
  have HT := Lib.hid (fun (ob : Option Addr) (cb : Nat) w1 (hb : Bts w1 ob 28 cb vC) => show Calls Try.prog 29 #[.int .i64 11, .int .i64 0, .int .u32 0, .slice ob 28 cb] w1 fun e w' => ∃ (ob : Option Addr) (cb : Nat), e = .returned (.tuple #[.agg #[.int .i64 11, .int .i64 0, .int .u32 0, .slice ob 28 cb], .int .i64 0]) ∧ Junk w1 w' ∧ Bts w' ob 28 cb vC from
    (tell_any 11 0 0 ob 28 cb vC w1 (by omega) hb).mono fun e w' hp => by
      obtain ⟨t, c, r, ob, lb, cb, rfl, hj, hb, ⟨h1, rfl, rfl, rfl, rfl⟩ | ⟨h1, _⟩⟩ := hp
      · rw [vC_len] at hb ⊢
        exact ⟨ob, cb, by rw [h1], hj, hb⟩
      · exact absurd vC_tell h1)
  have HS := Lib.hid (fun (ob : Option Addr) (cb : Nat) w1 (hb : Bts w1 ob 28 cb vC) => show Calls Try.prog 13 #[.agg #[.int .i64 11, .int .i64 0, .int .u32 0, .slice ob 28 cb], .int .u32 77, .int .i64 88] w1 fun e w' => Junk w1 w' ∧ ∃ (ob : Option Addr) (cb : Nat), Bts w' ob 28 cb vY ∧ e = .returned (.tuple #[.agg #[.int .i64 11, .int .i64 0, .int .u32 0, .slice ob 28 cb], .int .i64 0]) from
    (src_any 11 0 0 77 88 ob 28 cb vC w1 (by omega) hb (by omega)).mono fun e w' hp => hp.ok vC_src)
  have HN := Lib.hid (fun (ob : Option Addr) (cb : Nat) w1 (hb : Bts w1 ob 28 cb vY) => show Calls Try.prog 11 #[.agg #[.int .i64 11, .int .i64 0, .int .u32 0, .slice ob 28 cb]] w1 fun e w' => e = .returned (.tuple #[.agg #[.int .i64 17, .int .u32 77, .int .i64 88, .int .u32 2, .int .i64 6], .int .i64 0]) ∧ Junk w1 w' from
    (names_any 11 0 0 ob 28 cb vY w1 (by omega) hb).mono fun e w' hp => by
      have := hp.ok vY_err
      rw [tup_ext vY_1 vY_2 vY_3 vY_4 vY_5] at this
      exact this)
  have hg := tupq_guard
  have hq : ∀ w, (binOp .eql 28 (.agg #[.int .i64 17, .int .u32 77, .int .i64 88, .int .u32 2, .int .i64 6]) (.agg #[.int .i64 17, .int .u32 77, .int .i64 88, .int .u32 2, .int .i64 6])).run Try.prog w = .ok (.bool true) w := fun w => by have := tupq_eql ⟨17, 77, 88, 2, 6⟩ ⟨17, 77, 88, 2, 6⟩ w; exact this
  go_enter Try.func10, Try.ntmps10
  go_wp2_with (first
    | (go_at_call 30; (with_reducible refine (HU.out _).mono ?_); rintro e w' ⟨ob1, cb1, rfl, ⟨os1, d1, rfl⟩, hb1⟩; have Hb1 := Lib.hid hb1; clear hb1)
    | (go_at_call 28; (with_reducible refine (HP.out ob1 cb1 _ (Hb1.out.on (by (first | ((repeat (first | with_reducible exact Junk.refl _ | with_reducible exact Junk.app _ _ _ _ _ | with_reducible apply Junk.alloc | with_reducible apply Junk.junk | with_reducible apply Junk.drew | with_reducible apply Junk.drewN)); done) | ((try simp only [World.junk_junk, Array.append_assoc]); (repeat (first | with_reducible exact Junk.refl _ | with_reducible exact Junk.app _ _ _ _ _ | with_reducible exact Junk.app2 _ _ _ _ _ _ | with_reducible exact Junk.app3 _ _ _ _ _ _ _ | with_reducible exact Junk.app4 _ _ _ _ _ _ _ _ | with_reducible exact Junk.app5 _ _ _ _ _ _ _ _ _ | with_reducible apply Junk.alloc | with_reducible apply Junk.junk | with_reducible apply Junk.drew | with_reducible apply Junk.drewN))))))).mono ?_); rintro e w' ⟨ob2, cb2, rfl, ⟨os2, d2, rfl⟩, hb2⟩; have Hb2 := Lib.hid hb2; clear hb2)
    | (go_at_call 29; (with_reducible refine (HT.out ob2 cb2 _ (Hb2.out.on (by (first | ((repeat (first | with_reducible exact Junk.refl _ | with_reducible exact Junk.app _ _ _ _ _ | with_reducible apply Junk.alloc | with_reducible apply Junk.junk | with_reducible apply Junk.drew | with_reducible apply Junk.drewN)); done) | ((try simp only [World.junk_junk, Array.append_assoc]); (repeat (first | with_reducible exact Junk.refl _ | with_reducible exact Junk.app _ _ _ _ _ | with_reducible exact Junk.app2 _ _ _ _ _ _ | with_reducible exact Junk.app3 _ _ _ _ _ _ _ | with_reducible exact Junk.app4 _ _ _ _ _ _ _ _ | with_reducible exact Junk.app5 _ _ _ _ _ _ _ _ _ | with_reducible apply Junk.alloc | with_reducible apply Junk.junk | with_reducible apply Junk.drew | with_reducible apply Junk.drewN))))))).mono ?_); rintro e w' ⟨ob3, cb3, rfl, ⟨os3, d3, rfl⟩, hb3⟩; have Hb3 := Lib.hid hb3; clear hb3)
    | (go_at_call 13; (with_reducible refine (HS.out ob3 cb3 _ (Hb3.out.on (by (first | ((repeat (first | with_reducible exact Junk.refl _ | with_reducible exact Junk.app _ _ _ _ _ | with_reducible apply Junk.alloc | with_reducible apply Junk.junk | with_reducible apply Junk.drew | with_reducible apply Junk.drewN)); done) | ((try simp only [World.junk_junk, Array.append_assoc]); (repeat (first | with_reducible exact Junk.refl _ | with_reducible exact Junk.app _ _ _ _ _ | with_reducible exact Junk.app2 _ _ _ _ _ _ | with_reducible exact Junk.app3 _ _ _ _ _ _ _ | with_reducible exact Junk.app4 _ _ _ _ _ _ _ _ | with_reducible exact Junk.app5 _ _ _ _ _ _ _ _ _ | with_reducible apply Junk.alloc | with_reducible apply Junk.junk | with_reducible apply Junk.drew | with_reducible apply Junk.drewN))))))).mono ?_); rintro e w' ⟨⟨os4, d4, rfl⟩, ob4, cb4, hb4, rfl⟩; have Hb4 := Lib.hid hb4; clear hb4)
    | (go_at_call 11; (with_reducible refine (HN.out ob4 cb4 _ (Hb4.out.on (by (first | ((repeat (first | with_reducible exact Junk.refl _ | with_reducible exact Junk.app _ _ _ _ _ | with_reducible apply Junk.alloc | with_reducible apply Junk.junk | with_reducible apply Junk.drew | with_reducible apply Junk.drewN)); done) | ((try simp only [World.junk_junk, Array.append_assoc]); (repeat (first | with_reducible exact Junk.refl _ | with_reducible exact Junk.app _ _ _ _ _ | with_reducible exact Junk.app2 _ _ _ _ _ _ | with_reducible exact Junk.app3 _ _ _ _ _ _ _ | with_reducible exact Junk.app4 _ _ _ _ _ _ _ _ | with_reducible exact Junk.app5 _ _ _ _ _ _ _ _ _ | with_reducible apply Junk.alloc | with_reducible apply Junk.junk | with_reducible apply Junk.drew | with_reducible apply Junk.drewN))))))).mono ?_); rintro e w' ⟨rfl, ⟨osj, dj, rfl⟩⟩))
  go_ret
  exact ⟨ret_bool rfl, by (first | ((repeat (first | with_reducible exact Junk.refl _ | with_reducible exact Junk.app _ _ _ _ _ | with_reducible apply Junk.alloc | with_reducible apply Junk.junk | with_reducible apply Junk.drew | with_reducible apply Junk.drewN)); done) | ((try simp only [World.junk_junk, Array.append_assoc]); (repeat (first | with_reducible exact Junk.refl _ | with_reducible exact Junk.app _ _ _ _ _ | with_reducible exact Junk.app2 _ _ _ _ _ _ | with_reducible exact Junk.app3 _ _ _ _ _ _ _ | with_reducible exact Junk.app4 _ _ _ _ _ _ _ _ | with_reducible exact Junk.app5 _ _ _ _ _ _ _ _ _ | with_reducible apply Junk.alloc | with_reducible apply Junk.junk | with_reducible apply Junk.drew | with_reducible apply Junk.drewN))))⟩
end Go.Proofs.Ytnefphinmjeacaa
set_option linter.unusedVariables false
set_option maxRecDepth 100000
set_option linter.unusedSimpArgs false
namespace Go.Proofs.Ytnefphinmjeacaa
open Go.RowKit
theorem w2_ne {xs : Nat → Int} {i k : Nat} {v : Int} (h1 : k ≠ i) (h2 : k ≠ i + 1) : w2 xs i v k = xs k := by
  unfold w2; rw [upd_other _ _ _ _ h2, upd_other _ _ _ _ h1]
theorem w2_hi {xs : Nat → Int} {i : Nat} {v : Int} : w2 xs i v i = v / 256 := by
  unfold w2; rw [upd_other _ _ _ _ (by omega), upd_same]
theorem w2_lo {xs : Nat → Int} {i : Nat} {v : Int} : w2 xs i v (i + 1) = v % 256 := by
  unfold w2; rw [upd_same]
theorem w2_congr {xs ys : Nat → Int} {i k : Nat} {v : Int} (h : xs k = ys k) : w2 xs i v k = w2 ys i v k := by
  unfold w2 upd; rw [h]
theorem wd_w2_ne {xs : Nat → Int} {i j : Nat} {v : Int} (h : j + 1 < i ∨ i + 1 < j) : wd (w2 xs i v) j = wd xs j := by
  unfold wd; rw [w2_ne (by omega) (by omega), w2_ne (by omega) (by omega)]
theorem rawN_w2 (xs : Nat → Int) (i : Nat) (v : Int) (n : Nat) (he : i % 2 = 0) (hn : i + 2 ≤ n) : rawN (w2 xs i v) n = rawN xs n + v - wd xs i := by
  unfold w2 wd
  rw [rawN_upd, rawN_upd, upd_other _ _ _ _ (by omega), if_pos (show i + 1 < n by omega), if_neg (show ¬ (i + 1) % 2 = 0 by omega), if_pos (show i < n by omega), if_pos he]
  omega
theorem rawN_pos {xs : Nat → Int} {n : Nat} (hn : 0 < n) (h0 : 0 < xs 0) (hx : ∀ i, i < n → 0 ≤ xs i ∧ xs i ≤ 255) : 0 < rawN xs n := by
  have h1 := rawN_upd xs 0 0 n
  rw [if_pos hn, if_pos rfl] at h1
  have h2 := rawN_bd (upd xs 0 0) n (fun i hi => by unfold upd; split; omega; exact hx i hi)
  omega
theorem mendI_mod {c o n : Int} (hc : 0 ≤ c ∧ c ≤ 65535) (ho : 0 ≤ o ∧ o ≤ 65535) (hn : 0 ≤ n ∧ n ≤ 65535) : (mendI c o n - (c + o - n)) % 65535 = 0 := by
  unfold mendI foldI
  split <;> omega
theorem wholeErr_of {xs : Nat → Int} {l : Nat} (h : WholeOk xs l) : wholeErr xs l = 0 := by
  have := h.l20
  unfold wholeErr
  rw [if_neg (by omega), if_neg (by simp only [Decidable.not_not]; exact ⟨h.ver, h.s20, h.sl⟩), if_neg (by simp only [Decidable.not_not]; exact h.st), if_neg (by simp only [Decidable.not_not]; exact h.sum), if_neg h.told]
/-- The turned bytes, place by place. -/
structure Tn (xs ys : Nat → Int) (S A at_ : Nat) (pr addr port : Int) : Prop where
  low : ∀ i, i < S → i ≠ 10 → i ≠ 11 → (i < A ∨ A + 4 ≤ i) → ys i = xs i
  hi : wd ys A = addr / 65536
  lo : wd ys (A + 2) = addr % 65536
  port : wd ys (S + at_) = port
  high : ∀ j, j ≠ at_ → j ≠ at_ + 1 → (pr = 1 → j ≠ 2 ∧ j ≠ 3) → (pr = 17 → j ≠ 6 ∧ j ≠ 7) → (pr ≠ 1 → pr ≠ 17 → j ≠ 16 ∧ j ≠ 17) → ys (S + j) = xs (S + j)
  sum : sumN ys S = 65535
theorem tn2_at {xs : Nat → Int} {l A P : Nat} {addr port : Int} {k : Nat} (h1 : (aboutIp xs l).proto = 1 → k ≠ ipSize xs + 2 ∧ k ≠ ipSize xs + 3) (h2 : (aboutIp xs l).proto = 17 → k ≠ ipSize xs + 6 ∧ k ≠ ipSize xs + 7)
    (h3 : (aboutIp xs l).proto ≠ 1 → (aboutIp xs l).proto ≠ 17 → k ≠ ipSize xs + 16 ∧ k ≠ ipSize xs + 17) : tn2 xs l A P addr port k = tn1 xs A addr k := by
  unfold tn2
  by_cases p1 : (aboutIp xs l).proto = 1
  · have := h1 p1
    rw [if_pos p1, w2_ne (by omega) (by omega)]
  · rw [if_neg p1]
    by_cases p2 : (aboutIp xs l).proto = 17
    · have := h2 p2
      rw [if_pos p2]
      split
      · rfl
      · rw [w2_ne (by omega) (by omega)]
    · have := h3 p1 p2
      rw [if_neg p2]
      split
      · rw [w2_ne (by omega) (by omega)]
      · rfl
theorem tn_of {kind : Int} {xs : Nat → Int} {l A P : Nat} {addr port : Int} (hA : (A = 12 ∧ P = 0) ∨ (A = 16 ∧ P = 2)) (h0 : nmErr kind xs l = 0) (hx : ∀ i, i < l → 0 ≤ xs i ∧ xs i ≤ 255) (hy : ∀ i, i < l → 0 ≤ tnB xs l A P addr port i ∧ tnB xs l A P addr port i ≤ 255)
    (haddr : 0 ≤ addr ∧ addr ≤ 4294967295) : Tn xs (tnB xs l A P addr port) (ipSize xs) A (tnAt (aboutIp xs l) P) (aboutIp xs l).proto addr port := by
  obtain ⟨hk, hW, hoff, hbl, hpr⟩ := nmErr_zero h0
  have hS20 := hW.s20
  have hSl := hW.sl
  have hat : tnAt (aboutIp xs l) P ≤ 4 := by unfold tnAt; split <;> omega
  obtain ⟨T, hT⟩ : ∃ T, tnAt (aboutIp xs l) P = T := ⟨_, rfl⟩
  have e1 : ∀ i, i < ipSize xs → tnB xs l A P addr port i = w2 (w2 (tn1 xs A addr) A (addr / 65536)) (A + 2) (addr % 65536) i := fun i hi => by
    unfold tnB
    refine w2_congr (w2_congr ?_)
    rw [w2_ne (by omega) (by omega)]
    exact tn2_at (fun _ => by omega) (fun _ => by omega) (fun _ _ => by omega)
  have hlow : ∀ i, i < ipSize xs → i ≠ 10 → i ≠ 11 → (i < A ∨ A + 4 ≤ i) → tnB xs l A P addr port i = xs i := fun i hi h1 h2 h3 => by
    rw [e1 i hi, w2_ne (by omega) (by omega), w2_ne (by omega) (by omega)]
    unfold tn1
    rw [w2_ne (by omega) (by omega)]
  refine ⟨hlow, ?_, ?_, ?_, ?_, ?_⟩
  · unfold tnB
    rw [wd_w2_ne (by omega), wd_w2]
  · unfold tnB
    rw [wd_w2]
  · unfold tnB
    rw [wd_w2_ne (by omega), wd_w2_ne (by omega), wd_w2]
  · intro j h1 h2 h3 h4 h5
    unfold tnB
    rw [hT] at h1 h2 ⊢
    rw [w2_ne (by omega) (by omega), w2_ne (by omega) (by omega), w2_ne (by omega) (by omega), tn2_at (fun h => by have := h3 h; omega) (fun h => by have := h4 h; omega) (fun h h' => by have := h5 h h'; omega)]
    unfold tn1
    rw [w2_ne (by omega) (by omega)]
  · have c10 := wd_bd (hx 10 (by omega)) (hx 11 (by omega))
    have cA := wd_bd (i := A) (hx A (by omega)) (hx (A + 1) (by omega))
    have cB := wd_bd (i := A + 2) (hx (A + 2) (by omega)) (hx (A + 2 + 1) (by omega))
    obtain ⟨M1, hM1⟩ : ∃ m, mendI (wd xs 10) (wd xs A) (addr / 65536) = m := ⟨_, rfl⟩
    obtain ⟨M2, hM2⟩ : ∃ m, mendI M1 (wd xs (A + 2)) (addr % 65536) = m := ⟨_, rfl⟩
    have b1 := mendI_bd (c := wd xs 10) (o := wd xs A) (n := addr / 65536) c10 cA (by omega)
    have b2 := mendI_mod (c := wd xs 10) (o := wd xs A) (n := addr / 65536) c10 cA (by omega)
    rw [hM1] at b1 b2
    have b3 := mendI_mod (c := M1) (o := wd xs (A + 2)) (n := addr % 65536) b1 cB (by omega)
    rw [hM2] at b3
    have eM : mendW (wd xs 10) (tnNm xs A addr) 2 = M2 := by
      show mendI (mendI (wd xs 10) (wd xs A) (addr / 65536)) (wd xs (A + 2)) (addr % 65536) = M2
      rw [hM1, hM2]
    have hr : rawN (tnB xs l A P addr port) (ipSize xs) = rawN xs (ipSize xs) + (M2 - wd xs 10) + (addr / 65536 - wd xs A) + (addr % 65536 - wd xs (A + 2)) := by
      rw [rawN_congr _ e1, rawN_w2 _ _ _ _ (by omega) (by omega), rawN_w2 _ _ _ _ (by omega) (by omega), wd_w2_ne (by omega)]
      unfold tn1
      rw [eM, rawN_w2 _ _ _ _ (by omega) (by omega), wd_w2_ne (by omega), wd_w2_ne (by omega)]
      omega
    have hs := hW.sum
    unfold sumN at hs ⊢
    have p1 := rawN_bd xs (ipSize xs) (fun i hi => hx i (by omega))
    rw [foldI_iff p1.1] at hs
    have h00 : tnB xs l A P addr port 0 = xs 0 := hlow 0 (by omega) (by omega) (by omega) (by omega)
    have hv := hW.ver
    have p2 := rawN_pos (xs := tnB xs l A P addr port) (n := ipSize xs) (by omega) (by rw [h00]; omega) (fun i hi => hy i (by omega))
    rw [foldI_iff (by omega)]
    refine ⟨p2, ?_⟩
    rw [hr]
    omega
/-- Behind a turn the packet is whole again; its fields. -/
theorem Tn.whole {xs ys : Nat → Int} {S A T l : Nat} {pr addr port : Int} (h : Tn xs ys S A T pr addr port) (hA : A = 12 ∨ A = 16) (hS : ipSize xs = S) (hW : WholeOk xs l) :
    WholeOk ys l ∧ ipSize ys = S ∧ ipTotal ys = ipTotal xs := by
  have hS20 := hW.s20
  have y0 := h.low 0 (by omega) (by omega) (by omega) (by omega)
  have y2 := h.low 2 (by omega) (by omega) (by omega) (by omega)
  have y3 := h.low 3 (by omega) (by omega) (by omega) (by omega)
  have hs : ipSize ys = S := by rw [← hS]; unfold ipSize; rw [y0]
  have ht : ipTotal ys = ipTotal xs := by unfold ipTotal; rw [y2, y3]
  refine ⟨⟨hW.l20, by rw [y0]; exact hW.ver, by rw [hs, ← hS]; exact hW.s20, by rw [hs, ← hS]; exact hW.sl, by rw [hs, ht, ← hS]; exact hW.st, by rw [hs]; exact h.sum, by rw [hs, ht, ← hS]; exact hW.told⟩, hs, ht⟩
structure SameHead (p q : Ip) : Prop where
  tos : q.tos = p.tos
  id : q.id = p.id
  df : q.df = p.df
  mf : q.mf = p.mf
  off : q.off = p.off
  ttl : q.ttl = p.ttl
  proto : q.proto = p.proto
  ol : q.ol = p.ol
  bl : q.bl = p.bl
  opts : ∀ i, i < p.ol → q.opts i = p.opts i
theorem Tn.head {xs ys : Nat → Int} {S A T l : Nat} {pr addr port : Int} (h : Tn xs ys S A T pr addr port) (hA : A = 12 ∨ A = 16) (hS : ipSize xs = S) (hW : WholeOk xs l) : SameHead (aboutIp xs l) (aboutIp ys l) := by
  obtain ⟨_, hs, ht⟩ := h.whole hA hS hW
  have hS20 := hW.s20
  have y := fun i (hi : i < 10) => h.low i (by omega) (by omega) (by omega) (by omega)
  have y1 := y 1 (by omega); have y4 := y 4 (by omega); have y5 := y 5 (by omega); have y6 := y 6 (by omega); have y7 := y 7 (by omega); have y8 := y 8 (by omega); have y9 := y 9 (by omega)
  have hf : ipFlags ys = ipFlags xs := by unfold ipFlags; rw [y6, y7]
  unfold aboutIp
  rw [hs, ht, hS]
  refine ⟨y1, ?_, ?_, ?_, ?_, y8, y9, rfl, rfl, fun i hi => h.low (20 + i) (by simp only [mkIp] at hi; omega) (by omega) (by omega) (by omega)⟩
  · simp only [mkIp]; rw [y4, y5]
  · simp only [mkIp]; rw [hf]
  · simp only [mkIp]; rw [hf]
  · simp only [mkIp]; rw [hf]
/-- The names behind a turn. -/
theorem tn_names {kind : Int} {xs ys : Nat → Int} {l A P : Nat} {addr port : Int} (hA : (A = 12 ∧ P = 0) ∨ (A = 16 ∧ P = 2)) (h0 : nmErr kind xs l = 0) (hx : ∀ i, i < l → 0 ≤ xs i ∧ xs i ≤ 255)
    (h : Tn xs ys (ipSize xs) A (tnAt (aboutIp xs l) P) (aboutIp xs l).proto addr port) (haddr : 0 ≤ addr ∧ addr ≤ 4294967295) :
    nmErr kind ys l = 0 ∧ nmTup ys l = if A = 12 then ⟨(nmTup xs l).proto, addr, port, (nmTup xs l).dst, if (nmTup xs l).proto = 1 then port else (nmTup xs l).dport⟩
      else ⟨(nmTup xs l).proto, (nmTup xs l).src, if (nmTup xs l).proto = 1 then port else (nmTup xs l).sport, addr, port⟩ := by
  obtain ⟨hk, hW, hoff, hbl, hpr⟩ := nmErr_zero h0
  have hA' : A = 12 ∨ A = 16 := by omega
  obtain ⟨hWy, hs, ht⟩ := h.whole hA' rfl hW
  have hH := h.head hA' rfl hW
  have hS20 := hW.s20
  have hb : ∀ j, (aboutIp ys l).body j = ys (ipSize xs + j) := fun j => by unfold aboutIp; rw [hs]; rfl
  have hbx : ∀ j, (aboutIp xs l).body j = xs (ipSize xs + j) := fun j => rfl
  have hsrc : ∀ zs : Nat → Int, (aboutIp zs l).src = wd zs 12 * 65536 + wd zs 14 := fun zs => rfl
  have hdst : ∀ zs : Nat → Int, (aboutIp zs l).dst = wd zs 16 * 65536 + wd zs 18 := fun zs => rfl
  have hP : (nmTup xs l).proto = (aboutIp xs l).proto := rfl
  constructor
  · have ha : aboutErr kind ys l = 0 := by unfold aboutErr; rw [hk, if_neg (by decide)]; exact wholeErr_of hWy
    unfold nmErr
    rw [if_neg (by rw [ha]; simp), if_neg (by rw [hH.off, hoff]; simp), if_neg (by rw [hH.bl]; omega), hH.proto]
    rcases hpr with h6 | h17 | ⟨h1, h2⟩
    · rw [if_pos (.inl h6)]
    · rw [if_pos (.inr h17)]
    · rw [if_neg (by rw [h1]; decide), if_pos]
      refine ⟨h1, ?_⟩
      have hat : tnAt (aboutIp xs l) P = 4 := by unfold tnAt; rw [if_pos h1]
      rw [hb, h.high 0 (by omega) (by omega) (fun _ => by omega) (fun _ => by omega) (fun _ _ => by omega), ← hbx]
      exact h2
  · have hwb : ∀ j, wd (aboutIp ys l).body j = wd ys (ipSize xs + j) := fun j => by unfold wd; rw [hb, hb]; rfl
    have hwbx : ∀ j, wd (aboutIp xs l).body j = wd xs (ipSize xs + j) := fun j => rfl
    have hsame : ∀ j, j ≠ tnAt (aboutIp xs l) P → j ≠ tnAt (aboutIp xs l) P + 1 → j + 1 ≠ tnAt (aboutIp xs l) P → j < 4 → (aboutIp xs l).proto ≠ 1 → wd ys (ipSize xs + j) = wd xs (ipSize xs + j) := fun j q1 q2 q3 q4 q5 => by
      unfold wd
      rw [h.high j q1 q2 (fun e => absurd e q5) (fun _ => by omega) (fun _ _ => by omega), show ipSize xs + j + 1 = ipSize xs + (j + 1) by omega, h.high (j + 1) q3 (by omega) (fun e => absurd e q5) (fun _ => by omega) (fun _ _ => by omega)]
    rw [hP]
    unfold nmTup nmPort
    rw [hH.proto]
    simp only
    rcases hA with ⟨rfl, rfl⟩ | ⟨rfl, rfl⟩
    · rw [if_pos rfl, hsrc, h.hi, h.lo, hdst, hdst]
      have w16 : wd ys 16 = wd xs 16 := by unfold wd; rw [h.low 16 (by omega) (by omega) (by omega) (by omega), h.low 17 (by omega) (by omega) (by omega) (by omega)]
      have w18 : wd ys 18 = wd xs 18 := by unfold wd; rw [h.low 18 (by omega) (by omega) (by omega) (by omega), h.low 19 (by omega) (by omega) (by omega) (by omega)]
      rw [w16, w18, hwb, hwb, hwb]
      have hp := h.port
      by_cases h1 : (aboutIp xs l).proto = 1
      · have hat : tnAt (aboutIp xs l) 0 = 4 := by unfold tnAt; rw [if_pos h1]
        rw [hat] at hp
        rw [if_pos h1, if_pos h1, if_pos h1, hp]
        congr 1
        omega
      · have hat : tnAt (aboutIp xs l) 0 = 0 := by unfold tnAt; rw [if_neg h1]
        rw [hat] at hp
        rw [if_neg h1, if_neg h1, if_neg h1, if_neg h1, hp, hsame 2 (by omega) (by omega) (by omega) (by omega) h1, hwbx]
        congr 1
        omega
    · rw [if_neg (show ¬ (16 : Nat) = 12 by decide), hdst, h.hi, h.lo, hsrc, hsrc]
      have w12 : wd ys 12 = wd xs 12 := by unfold wd; rw [h.low 12 (by omega) (by omega) (by omega) (by omega), h.low 13 (by omega) (by omega) (by omega) (by omega)]
      have w14 : wd ys 14 = wd xs 14 := by unfold wd; rw [h.low 14 (by omega) (by omega) (by omega) (by omega), h.low 15 (by omega) (by omega) (by omega) (by omega)]
      rw [w12, w14, hwb, hwb, hwb]
      have hp := h.port
      by_cases h1 : (aboutIp xs l).proto = 1
      · have hat : tnAt (aboutIp xs l) 2 = 4 := by unfold tnAt; rw [if_pos h1]
        rw [hat] at hp
        rw [if_pos h1, if_pos h1, if_pos h1, hp]
        congr 1
        omega
      · have hat : tnAt (aboutIp xs l) 2 = 2 := by unfold tnAt; rw [if_neg h1]
        rw [hat] at hp
        rw [if_neg h1, if_neg h1, if_neg h1, if_neg h1, hp, hsame 0 (by omega) (by omega) (by omega) (by omega) h1, hwbx]
        congr 1
        omega
end Go.Proofs.Ytnefphinmjeacaa
set_option linter.unusedVariables false
set_option maxRecDepth 100000
set_option linter.unusedSimpArgs false
namespace Go.Proofs.Ytnefphinmjeacaa
open Go.RowKit
structure NmBd (tp ts sp td dp : Int) : Prop where
  bs : 0 ≤ ts ∧ ts ≤ 4294967295
  bsp : 0 ≤ sp ∧ sp ≤ 65535
  bd : 0 ≤ td ∧ td ≤ 4294967295
  bdp : 0 ≤ dp ∧ dp ≤ 65535
  eq : tp = 1 → sp = dp
theorem nmTup_bd {kind : Int} {xs : Nat → Int} {l : Nat} {tp ts sp td dp : Int} (h0 : nmErr kind xs l = 0) (hT : nmTup xs l = ⟨tp, ts, sp, td, dp⟩) (hx : ∀ i, i < l → 0 ≤ xs i ∧ xs i ≤ 255) : NmBd tp ts sp td dp := by
  obtain ⟨hk, hW, hoff, hbl, hpr⟩ := nmErr_zero h0
  have hS20 := hW.s20
  have hSl := hW.sl
  have hbl' : min (ipTotal xs) l - ipSize xs ≥ 8 := hbl
  have hw := fun j (hj : j + 1 < 8) => wd_bd (xs := xs) (i := ipSize xs + j) (hx _ (by omega)) (hx _ (by omega))
  have hn : ∀ i, i ≤ 4 → 0 ≤ nmPort (aboutIp xs l) i ∧ nmPort (aboutIp xs l) i ≤ 65535 := fun i hi => by
    unfold nmPort
    split
    · exact hw 4 (by omega)
    · exact hw i (by omega)
  have w12 := wd_bd (xs := xs) (i := 12) (hx _ (by omega)) (hx _ (by omega))
  have w14 := wd_bd (xs := xs) (i := 14) (hx _ (by omega)) (hx _ (by omega))
  have w16 := wd_bd (xs := xs) (i := 16) (hx _ (by omega)) (hx _ (by omega))
  have w18 := wd_bd (xs := xs) (i := 18) (hx _ (by omega)) (hx _ (by omega))
  have e1 : (nmTup xs l).src = wd xs 12 * 65536 + wd xs 14 := rfl
  have e2 : (nmTup xs l).dst = wd xs 16 * 65536 + wd xs 18 := rfl
  have e3 : (nmTup xs l).sport = nmPort (aboutIp xs l) 0 := rfl
  have e4 : (nmTup xs l).dport = nmPort (aboutIp xs l) 2 := rfl
  have e5 : (nmTup xs l).proto = (aboutIp xs l).proto := rfl
  rw [hT] at e1 e2 e3 e4 e5
  simp only at e1 e2 e3 e4 e5
  refine ⟨by omega, by rw [e3]; exact hn 0 (by omega), by omega, by rw [e4]; exact hn 2 (by omega), fun h => ?_⟩
  rw [e3, e4]
  unfold nmPort
  rw [if_pos (by rw [← e5]; exact h), if_pos (by rw [← e5]; exact h)]
theorem nm_src {kind : Int} {xs : Nat → Int} {l : Nat} {addr port tp ts sp td dp : Int} (h0 : nmErr kind xs l = 0) (hT : nmTup xs l = ⟨tp, ts, sp, td, dp⟩) (hx : ∀ i, i < l → 0 ≤ xs i ∧ xs i ≤ 255) (hy : ∀ i, i < l → 0 ≤ tnB xs l 12 0 addr port i ∧ tnB xs l 12 0 addr port i ≤ 255)
    (haddr : 0 ≤ addr ∧ addr ≤ 4294967295) : nmErr kind (tnB xs l 12 0 addr port) l = 0 ∧ nmTup (tnB xs l 12 0 addr port) l = ⟨tp, addr, port, td, if tp = 1 then port else dp⟩ := by
  have := tn_names (.inl ⟨rfl, rfl⟩) h0 hx (tn_of (.inl ⟨rfl, rfl⟩) h0 hx hy haddr) haddr
  rw [if_pos rfl, hT] at this
  exact this
theorem nm_dst {kind : Int} {xs : Nat → Int} {l : Nat} {addr port tp ts sp td dp : Int} (h0 : nmErr kind xs l = 0) (hT : nmTup xs l = ⟨tp, ts, sp, td, dp⟩) (hx : ∀ i, i < l → 0 ≤ xs i ∧ xs i ≤ 255) (hy : ∀ i, i < l → 0 ≤ tnB xs l 16 2 addr port i ∧ tnB xs l 16 2 addr port i ≤ 255)
    (haddr : 0 ≤ addr ∧ addr ≤ 4294967295) : nmErr kind (tnB xs l 16 2 addr port) l = 0 ∧ nmTup (tnB xs l 16 2 addr port) l = ⟨tp, ts, if tp = 1 then port else sp, addr, port⟩ := by
  have := tn_names (.inr ⟨rfl, rfl⟩) h0 hx (tn_of (.inr ⟨rfl, rfl⟩) h0 hx hy haddr) haddr
  rw [if_neg (by decide), hT] at this
  exact this
theorem tnErr_of {kind : Int} {xs : Nat → Int} {l : Nat} {port : Int} (h0 : nmErr kind xs l = 0) (hp : 0 ≤ port ∧ port ≤ 65535) : tnErr kind xs l port = 0 := by
  unfold tnErr; rw [if_neg (by rw [h0]; simp), if_neg (by omega)]
theorem names_ok {kind code rest : Int} {xs : Nat → Int} {l : Nat} {tp ts sp td dp : Int} (hl : l ≤ 100000000) (h0 : nmErr kind xs l = 0) (hT : nmTup xs l = ⟨tp, ts, sp, td, dp⟩) (oa : Option Addr) (c : Nat) (w : World) (hB : Bts w oa l c xs) :
    Calls Try.prog 11 #[.agg #[.int .i64 kind, .int .i64 code, .int .u32 rest, .slice oa l c]] w fun e w' => e = .returned (.tuple #[.agg #[.int .i64 tp, .int .u32 ts, .int .i64 sp, .int .u32 td, .int .i64 dp], .int .i64 0]) ∧ Junk w w' :=
  (names_any kind code rest oa l c xs w hl hB).mono fun e w' hp => by
    have := hp.ok h0
    rw [hT] at this
    exact this
theorem src_ok {kind code rest addr port : Int} {xs : Nat → Int} {l : Nat} (hl : l ≤ 100000000) (haddr : 0 ≤ addr ∧ addr ≤ 4294967295) (h0 : nmErr kind xs l = 0) (hp : 0 ≤ port ∧ port ≤ 65535) (oa : Option Addr) (c : Nat) (w : World) (hB : Bts w oa l c xs) :
    Calls Try.prog 13 #[.agg #[.int .i64 kind, .int .i64 code, .int .u32 rest, .slice oa l c], .int .u32 addr, .int .i64 port] w fun e w' => Junk w w' ∧ ∃ (ob : Option Addr) (cb : Nat), Bts w' ob l cb (tnB xs l 12 0 addr port) ∧ e = .returned (.tuple #[.agg #[.int .i64 kind, .int .i64 code, .int .u32 rest, .slice ob l cb], .int .i64 0]) :=
  (src_any kind code rest addr port oa l c xs w hl hB haddr).mono fun e w' h => h.ok (tnErr_of h0 hp)
theorem dst_ok {kind code rest addr port : Int} {xs : Nat → Int} {l : Nat} (hl : l ≤ 100000000) (haddr : 0 ≤ addr ∧ addr ≤ 4294967295) (h0 : nmErr kind xs l = 0) (hp : 0 ≤ port ∧ port ≤ 65535) (oa : Option Addr) (c : Nat) (w : World) (hB : Bts w oa l c xs) :
    Calls Try.prog 16 #[.agg #[.int .i64 kind, .int .i64 code, .int .u32 rest, .slice oa l c], .int .u32 addr, .int .i64 port] w fun e w' => Junk w w' ∧ ∃ (ob : Option Addr) (cb : Nat), Bts w' ob l cb (tnB xs l 16 2 addr port) ∧ e = .returned (.tuple #[.agg #[.int .i64 kind, .int .i64 code, .int .u32 rest, .slice ob l cb], .int .i64 0]) :=
  (dst_any kind code rest addr port oa l c xs w hl hB haddr).mono fun e w' h => h.ok (tnErr_of h0 hp)
end Go.Proofs.Ytnefphinmjeacaa
set_option linter.unusedVariables false
set_option maxRecDepth 100000
set_option linter.unusedSimpArgs false
namespace Go.Proofs.Ytnefphinmjeacaa
open Go.RowKit
theorem about_ok {kind code rest : Int} {xs : Nat → Int} {l : Nat} {P : Ip} (hl : l ≤ 100000000) (h0 : aboutErr kind xs l = 0) (hP : aboutIp xs l = P) (oa : Option Addr) (c : Nat) (w : World) (hB : Bts w oa l c xs) :
    Calls Try.prog 17 #[.agg #[.int .i64 kind, .int .i64 code, .int .u32 rest, .slice oa l c]] w fun e w' => ∃ (oo ob : Option Addr) (oc bc : Nat), e = .returned (.tuple #[.agg #[.int .i64 P.tos, .int .i64 P.id, .bool P.df, .bool P.mf, .int .i64 P.off, .int .i64 P.ttl, .int .i64 P.proto, .int .u32 P.src, .int .u32 P.dst, .slice oo P.ol oc, .slice ob P.bl bc], .int .i64 0]) ∧ Junk w w' ∧ IpAt w' P oo oc ob bc :=
  (about_any kind code rest oa l c xs w hl hB).mono fun e w' hp => by
    obtain ⟨p, oo, ob, oc, bc, rfl, hj, hI, ⟨h1, rfl⟩ | ⟨h1, _⟩⟩ := hp
    · subst hP
      exact ⟨oo, ob, oc, bc, by rw [h0], hj, hI⟩
    · exact absurd h0 h1
theorem tn_keeps {kind : Int} {xs ys : Nat → Int} {l A P : Nat} {addr port : Int} (hA : (A = 12 ∧ P = 0) ∨ (A = 16 ∧ P = 2)) (h0 : nmErr kind xs l = 0)
    (h : Tn xs ys (ipSize xs) A (tnAt (aboutIp xs l) P) (aboutIp xs l).proto addr port) :
    aboutErr kind ys l = 0 ∧ SameHead (aboutIp xs l) (aboutIp ys l) ∧ (∀ i, 8 ≤ i → (aboutIp xs l).body i = (aboutIp ys l).body i ∨ ((aboutIp xs l).proto = 6 ∧ (i = 16 ∨ i = 17))) ∧
      (A = 12 → (aboutIp ys l).dst = (aboutIp xs l).dst) ∧ (A = 16 → (aboutIp ys l).src = (aboutIp xs l).src) ∧ 8 ≤ (aboutIp xs l).bl := by
  obtain ⟨hk, hW, hoff, hbl, hpr⟩ := nmErr_zero h0
  have hA' : A = 12 ∨ A = 16 := by omega
  obtain ⟨hWy, hs, ht⟩ := h.whole hA' rfl hW
  have hH := h.head hA' rfl hW
  have hS20 := hW.s20
  have hat : tnAt (aboutIp xs l) P ≤ 4 := by unfold tnAt; split <;> omega
  have hb : ∀ j, (aboutIp ys l).body j = ys (ipSize xs + j) := fun j => by unfold aboutIp; rw [hs]; rfl
  have hbx : ∀ j, (aboutIp xs l).body j = xs (ipSize xs + j) := fun j => rfl
  have ha : aboutErr kind ys l = 0 := by unfold aboutErr; rw [hk, if_neg (by decide)]; exact wholeErr_of hWy
  refine ⟨ha, hH, fun i hi => ?_, fun hA2 => ?_, fun hA2 => ?_, hbl⟩
  · rw [hb, hbx]
    by_cases h6 : (aboutIp xs l).proto = 6 ∧ (i = 16 ∨ i = 17)
    · exact .inr h6
    · left
      refine (h.high i (by omega) (by omega) (fun _ => by omega) (fun _ => by omega) (fun p1 p2 => ?_)).symm
      rcases hpr with q | q | q
      · omega
      · exact absurd q p2
      · exact absurd q.1 p1
  · show wd ys 16 * 65536 + wd ys 18 = wd xs 16 * 65536 + wd xs 18
    unfold wd
    rw [h.low 16 (by omega) (by omega) (by omega) (by omega), h.low 17 (by omega) (by omega) (by omega) (by omega), h.low 18 (by omega) (by omega) (by omega) (by omega), h.low 19 (by omega) (by omega) (by omega) (by omega)]
  · show wd ys 12 * 65536 + wd ys 14 = wd xs 12 * 65536 + wd xs 14
    unfold wd
    rw [h.low 12 (by omega) (by omega) (by omega) (by omega), h.low 13 (by omega) (by omega) (by omega) (by omega), h.low 14 (by omega) (by omega) (by omega) (by omega), h.low 15 (by omega) (by omega) (by omega) (by omega)]
end Go.Proofs.Ytnefphinmjeacaa
set_option linter.unusedVariables false
set_option maxRecDepth 100000
set_option linter.unusedSimpArgs false
namespace Go.Proofs.Ytnefphinmjeacaa
open Go.RowKit
theorem of_zero {m : Bool} {off pr src dst : Int} {xs : Nat → Int} {l : Nat} (h : ofErr m off pr src dst xs l = 0) :
    off = 0 ∧ 8 ≤ l ∧ (pr = 6 ∨ pr = 17 ∨ (pr = 1 ∧ (asksB (xs 0) || answersB (xs 0)) = true)) := by
  unfold ofErr prErr at h
  split at h
  · cases h
  · rename_i h1
    have ho : off = 0 := by
      cases m with
      | true => simp at h1
      | false => simpa using h1
    refine ⟨ho, ?_⟩
    split at h
    · unfold tcpErr at h
      split at h
      · cases h
      · split at h
        · cases h
        · exact ⟨by omega, .inl ‹_›⟩
    · split at h
      · unfold udpErr at h
        split at h
        · cases h
        · exact ⟨by omega, .inr (.inl ‹_›)⟩
      · split at h
        · rename_i p1
          split at h
          · rename_i h3; exact absurd h h3
          · rename_i h3
            have h3' : pErr xs l = 0 := Decidable.of_not_not h3
            split at h
            · rename_i h4
              refine ⟨?_, .inr (.inr ⟨p1, h4⟩)⟩
              unfold pErr at h3'
              split at h3'
              · cases h3'
              · omega
            · cases h
        · cases h
structure TellsP (p : Ip) (vs : Nat → Int) (N : Nat) : Prop where
  tell : tellErr 3 3 vs N = 0
  len : tellLen vs = 28 + p.ol
  nm : nmErr 3 vs (28 + p.ol) = 0
  tup : nmTup vs (28 + p.ol) = ⟨p.proto, p.src, prS p.proto p.body, p.dst, prD p.proto p.body⟩
  dst : (aboutIp vs (28 + p.ol)).dst = p.dst
  ttl : (aboutIp vs (28 + p.ol)).ttl = p.ttl
  id : (aboutIp vs (28 + p.ol)).id = p.id
  bl : (aboutIp vs (28 + p.ol)).bl = 8
theorem tells_plain {p : Ip} {vs : Nat → Int} {N : Nat} (hN : N = 20 + p.ol + p.bl) (hpe : parseErr vs N = 0) (hsame : sameIp p (parseIp vs) = true) (hof : ofErr p.mf p.off p.proto p.src p.dst p.body p.bl = 0)
    (hb : ∀ i, i < p.bl → 0 ≤ p.body i ∧ p.body i ≤ 255) : TellsP p vs N := by
  obtain ⟨hlen, htop, hpc⟩ := parseErr_zero hpe
  obtain ⟨k1, k0, k2, k3, k4, k5, ksum⟩ := hlen
  obtain ⟨g1, g2, g3, g4⟩ := parse_len hpe
  obtain ⟨ho, hb8, hpr⟩ := of_zero hof
  simp only [sameIp, headSame, sameN, Bool.and_eq_true, decide_eq_true_eq, beq_iff_eq] at hsame
  obtain ⟨⟨⟨⟨⟨⟨⟨⟨⟨⟨e1, e2⟩, e3⟩, e4⟩, e5⟩, e6⟩, e7⟩, e8⟩, e9⟩, hol, hop⟩, hbl, hbd⟩ := hsame
  have hn : ipSize vs + 8 = 28 + p.ol := by omega
  have hmin : min (ipTotal vs) (28 + p.ol) = 28 + p.ol := Nat.min_eq_right (by omega)
  have hW : WholeOk vs (28 + p.ol) := ⟨by omega, k0, k2, by omega, k4, ksum, by omega⟩
  have hbv : ∀ j, j < 8 → vs (ipSize vs + j) = p.body j := fun j hj => (hbd j (by omega)).symm
  have hblv : (aboutIp vs (28 + p.ol)).bl = 8 := by show min (ipTotal vs) (28 + p.ol) - ipSize vs = 8; omega
  have hpv : (aboutIp vs (28 + p.ol)).proto = p.proto := e7.symm
  have hov : (aboutIp vs (28 + p.ol)).off = 0 := (e5.symm.trans ho : (parseIp vs).off = 0)
  have hb0 : (aboutIp vs (28 + p.ol)).body 0 = p.body 0 := hbv 0 (by omega)
  refine ⟨?_, ?_, ?_, ?_, e9.symm, e6.symm, e2.symm, hblv⟩
  · unfold tellErr
    rw [if_neg (by decide), if_neg (by rw [hpe]; simp), if_neg]
    unfold mute
    rw [← e5, ho, ← e7, show (parseIp vs).body 0 = p.body 0 from hbv 0 (by omega)]
    rcases hpr with h | h | ⟨h, h2⟩
    · rw [h]; simp
    · rw [h]; simp
    · have : errorB (p.body 0) = false := by
        simp only [asksB, answersB, Bool.or_eq_true, decide_eq_true_eq] at h2
        simp only [errorB, decide_eq_false_iff_not]
        omega
      rw [this]; simp
  · unfold tellLen
    rw [← hol, ← hbl, Nat.min_eq_left hb8]
    omega
  · have ha : aboutErr 3 vs (28 + p.ol) = 0 := by unfold aboutErr; rw [if_neg (by decide)]; exact wholeErr_of hW
    unfold nmErr
    rw [if_neg (by rw [ha]; simp), if_neg (by rw [hov]; simp), if_neg (by rw [hblv]; omega), hpv, hb0]
    rcases hpr with h | h | h
    · rw [if_pos (.inl h)]
    · rw [if_pos (.inr h)]
    · rw [if_neg (by rw [h.1]; decide), if_pos h]
  · have hwd : ∀ j, j + 1 < 8 → wd (aboutIp vs (28 + p.ol)).body j = p.body j * 256 + p.body (j + 1) := fun j hj => by
      show vs (ipSize vs + j) * 256 + vs (ipSize vs + (j + 1)) = _
      rw [hbv j (by omega), hbv (j + 1) (by omega)]
    refine tup_ext hpv e8.symm ?_ e9.symm ?_
    · show nmPort (aboutIp vs (28 + p.ol)) 0 = prS p.proto p.body
      unfold nmPort prS pRest
      rw [hpv]
      by_cases h1 : p.proto = 1
      · rw [if_pos h1, if_pos h1, hwd 4 (by omega)]
        have b4 := hb 4 (by omega); have b5 := hb 5 (by omega); have b6 := hb 6 (by omega); have b7 := hb 7 (by omega)
        show p.body 4 * 256 + p.body 5 = (p.body 4 * 16777216 + p.body 5 * 65536 + p.body 6 * 256 + p.body 7) / 65536
        omega
      · rw [if_neg h1, if_neg h1, hwd 0 (by omega)]
    · show nmPort (aboutIp vs (28 + p.ol)) 2 = prD p.proto p.body
      unfold nmPort prD pRest
      rw [hpv]
      by_cases h1 : p.proto = 1
      · rw [if_pos h1, if_pos h1, hwd 4 (by omega)]
        have b4 := hb 4 (by omega); have b5 := hb 5 (by omega); have b6 := hb 6 (by omega); have b7 := hb 7 (by omega)
        show p.body 4 * 256 + p.body 5 = (p.body 4 * 16777216 + p.body 5 * 65536 + p.body 6 * 256 + p.body 7) / 65536
        omega
      · rw [if_neg h1, if_neg h1, hwd 2 (by omega)]
end Go.Proofs.Ytnefphinmjeacaa
set_option linter.unusedVariables false
set_option maxRecDepth 100000
set_option linter.unusedSimpArgs false
namespace Go.Proofs.Ytnefphinmjeacaa
open Go.RowKit
theorem bts_eqv {w : World} {oa : Option Addr} {l c : Nat} {xs ys : Nat → Int} (h : Bts w oa l c xs) (he : ∀ i, i < l → xs i = ys i) : Bts w oa l c ys :=
  ⟨fun i hi => by obtain ⟨b, off, h1, h2, h3⟩ := h.at_ i hi; exact ⟨b, off, h1, h2, by rw [← he i hi]; exact h3⟩, fun i hi => by rw [← he i hi]; exact h.byte i hi, h.nil, h.le, h.cap⟩
theorem tells_of (p : Ip) (oo ob : Option Addr) (oc bc : Nat) (w : World) (hP : IpAt w p oo oc ob bc) (hl : p.bl ≤ 3000) : Calls Try.prog 20 #[.agg #[.int .i64 p.tos, .int .i64 p.id, .bool p.df, .bool p.mf, .int .i64 p.off, .int .i64 p.ttl, .int .i64 p.proto, .int .u32 p.src, .int .u32 p.dst, .slice oo p.ol oc, .slice ob p.bl bc]] w fun e w' => e = .returned (.tuple #[.agg #[.int .i64 (ofTup p.mf p.off p.proto p.src p.dst p.body p.bl).proto, .int .u32 (ofTup p.mf p.off p.proto p.src p.dst p.body p.bl).src, .int .i64 (ofTup p.mf p.off p.proto p.src p.dst p.body p.bl).sport, .int .u32 (ofTup p.mf p.off p.proto p.src p.dst p.body p.bl).dst, .int .i64 (ofTup p.mf p.off p.proto p.src p.dst p.body p.bl).dport], .int .i64 (ofErr p.mf p.off p.proto p.src p.dst p.body p.bl)]) ∧ Junk w w' :=
  tup_of_any _ _ _ _ _ p.mf p.off p.proto p.src p.dst ob p.bl bc p.body w hP.src hP.dst (by omega) hP.body
set_option maxHeartbeats 4000000 in
theorem errorTells_no (p : Ip) (oo ob : Option Addr) (oc bc : Nat) (addr port : Int) (w : World) (hP : IpAt w p oo oc ob bc) (haddr : 0 ≤ addr ∧ addr ≤ 4294967295) (hport : 0 ≤ port ∧ port ≤ 65535) (hn : ¬ (shortB p = true ∧ mayB p = true ∧ ofErr p.mf p.off p.proto p.src p.dst p.body p.bl = 0)) : Calls Try.prog 9 #[.agg #[.int .i64 p.tos, .int .i64 p.id, .bool p.df, .bool p.mf, .int .i64 p.off, .int .i64 p.ttl, .int .i64 p.proto, .int .u32 p.src, .int .u32 p.dst, .slice oo p.ol oc, .slice ob p.bl bc], .int .u32 addr, .int .u16 port] w fun e w' => e = .returned (.bool true) ∧ Junk w w' := by
  have HP := Lib.hid hP
  cases hs : shortB p with
  | false =>
    have HSH := Lib.hid (fun w1 => show Calls Try.prog 19 #[.agg #[.int .i64 p.tos, .int .i64 p.id, .bool p.df, .bool p.mf, .int .i64 p.off, .int .i64 p.ttl, .int .i64 p.proto, .int .u32 p.src, .int .u32 p.dst, .slice oo p.ol oc, .slice ob p.bl bc]] w1 fun e w' => e = .returned (.bool false) ∧ Junk w1 w' by rw [← hs]; exact short_any p oo ob oc bc w1)
    clear hn hs hP
    go_enter Try.func9, Try.ntmps9
    go_wp2_with (first | (go_at_call 10; refine (awake26_any _).mono ?_; rintro e w' ⟨rfl, ⟨osj, dj, rfl⟩⟩) | (go_at_call 19; refine (HSH.out _).mono ?_; rintro e w' ⟨rfl, ⟨osj, dj, rfl⟩⟩))
    all_goals (go_ret; exact ⟨ret_bool rfl, by (first | ((repeat (first | with_reducible exact Junk.refl _ | with_reducible exact Junk.app _ _ _ _ _ | with_reducible apply Junk.alloc | with_reducible apply Junk.junk | with_reducible apply Junk.drew | with_reducible apply Junk.drewN)); done) | ((try simp only [World.junk_junk, Array.append_assoc]); (repeat (first | with_reducible exact Junk.refl _ | with_reducible exact Junk.app _ _ _ _ _ | with_reducible exact Junk.app2 _ _ _ _ _ _ | with_reducible exact Junk.app3 _ _ _ _ _ _ _ | with_reducible exact Junk.app4 _ _ _ _ _ _ _ _ | with_reducible exact Junk.app5 _ _ _ _ _ _ _ _ _ | with_reducible apply Junk.alloc | with_reducible apply Junk.junk | with_reducible apply Junk.drew | with_reducible apply Junk.drewN))))⟩)
  | true =>
    obtain ⟨s1, s2⟩ := shortB_true hs
    have HSH := Lib.hid (fun w1 => show Calls Try.prog 19 #[.agg #[.int .i64 p.tos, .int .i64 p.id, .bool p.df, .bool p.mf, .int .i64 p.off, .int .i64 p.ttl, .int .i64 p.proto, .int .u32 p.src, .int .u32 p.dst, .slice oo p.ol oc, .slice ob p.bl bc]] w1 fun e w' => e = .returned (.bool true) ∧ Junk w1 w' by rw [← hs]; exact short_any p oo ob oc bc w1)
    obtain ⟨⟨t0, t1, t2, t3, t4⟩, hT⟩ : ∃ t, ofTup p.mf p.off p.proto p.src p.dst p.body p.bl = t := ⟨_, rfl⟩
    obtain ⟨E, hE⟩ : ∃ E, ofErr p.mf p.off p.proto p.src p.dst p.body p.bl = E := ⟨_, rfl⟩
    have HOF := Lib.hid (fun w1 (hp : IpAt w1 p oo oc ob bc) => show Calls Try.prog 20 #[.agg #[.int .i64 p.tos, .int .i64 p.id, .bool p.df, .bool p.mf, .int .i64 p.off, .int .i64 p.ttl, .int .i64 p.proto, .int .u32 p.src, .int .u32 p.dst, .slice oo p.ol oc, .slice ob p.bl bc]] w1 fun e w' => e = .returned (.tuple #[.agg #[.int .i64 t0, .int .u32 t1, .int .i64 t2, .int .u32 t3, .int .i64 t4], .int .i64 E]) ∧ Junk w1 w' by
      have := tells_of p oo ob oc bc w1 hp s2
      rw [hT, hE] at this
      exact this)
    cases hm : mayB p with
    | false =>
      have HPU := Lib.hid (fun w1 (hp : IpAt w1 p oo oc ob bc) => show Calls Try.prog 28 #[.agg #[.int .i64 p.tos, .int .i64 p.id, .bool p.df, .bool p.mf, .int .i64 p.off, .int .i64 p.ttl, .int .i64 p.proto, .int .u32 p.src, .int .u32 p.dst, .slice oo p.ol oc, .slice ob p.bl bc]] w1 fun e w' => e = .returned (.tuple #[.slice none 0 0, .int .i64 1]) ∧ Junk w1 w' from (ipPut_any p oo ob oc bc w1 (by omega) (by omega) hp).mono fun e w' h => h.bad hm)
      clear hn hs hP hT hE hm
      go_enter Try.func9, Try.ntmps9
      go_wp2_with (first | (go_at_call 10; refine (awake26_any _).mono ?_; rintro e w' ⟨rfl, ⟨osj, dj, rfl⟩⟩) | (go_at_call 19; refine (HSH.out _).mono ?_; rintro e w' ⟨rfl, ⟨osj, dj, rfl⟩⟩) | (go_at_call 28; (with_reducible refine (HPU.out _ (HP.out.on (by (first | ((repeat (first | with_reducible exact Junk.refl _ | with_reducible exact Junk.app _ _ _ _ _ | with_reducible apply Junk.alloc | with_reducible apply Junk.junk | with_reducible apply Junk.drew | with_reducible apply Junk.drewN)); done) | ((try simp only [World.junk_junk, Array.append_assoc]); (repeat (first | with_reducible exact Junk.refl _ | with_reducible exact Junk.app _ _ _ _ _ | with_reducible exact Junk.app2 _ _ _ _ _ _ | with_reducible exact Junk.app3 _ _ _ _ _ _ _ | with_reducible exact Junk.app4 _ _ _ _ _ _ _ _ | with_reducible exact Junk.app5 _ _ _ _ _ _ _ _ _ | with_reducible apply Junk.alloc | with_reducible apply Junk.junk | with_reducible apply Junk.drew | with_reducible apply Junk.drewN))))))).mono ?_); rintro e w' ⟨rfl, ⟨osj, dj, rfl⟩⟩) | (go_at_call 20; (with_reducible refine (HOF.out _ (HP.out.on (by (first | ((repeat (first | with_reducible exact Junk.refl _ | with_reducible exact Junk.app _ _ _ _ _ | with_reducible apply Junk.alloc | with_reducible apply Junk.junk | with_reducible apply Junk.drew | with_reducible apply Junk.drewN)); done) | ((try simp only [World.junk_junk, Array.append_assoc]); (repeat (first | with_reducible exact Junk.refl _ | with_reducible exact Junk.app _ _ _ _ _ | with_reducible exact Junk.app2 _ _ _ _ _ _ | with_reducible exact Junk.app3 _ _ _ _ _ _ _ | with_reducible exact Junk.app4 _ _ _ _ _ _ _ _ | with_reducible exact Junk.app5 _ _ _ _ _ _ _ _ _ | with_reducible apply Junk.alloc | with_reducible apply Junk.junk | with_reducible apply Junk.drew | with_reducible apply Junk.drewN))))))).mono ?_); rintro e w' ⟨rfl, ⟨osj, dj, rfl⟩⟩))
      all_goals (go_ret; exact ⟨ret_bool rfl, by (first | ((repeat (first | with_reducible exact Junk.refl _ | with_reducible exact Junk.app _ _ _ _ _ | with_reducible apply Junk.alloc | with_reducible apply Junk.junk | with_reducible apply Junk.drew | with_reducible apply Junk.drewN)); done) | ((try simp only [World.junk_junk, Array.append_assoc]); (repeat (first | with_reducible exact Junk.refl _ | with_reducible exact Junk.app _ _ _ _ _ | with_reducible exact Junk.app2 _ _ _ _ _ _ | with_reducible exact Junk.app3 _ _ _ _ _ _ _ | with_reducible exact Junk.app4 _ _ _ _ _ _ _ _ | with_reducible exact Junk.app5 _ _ _ _ _ _ _ _ _ | with_reducible apply Junk.alloc | with_reducible apply Junk.junk | with_reducible apply Junk.drew | with_reducible apply Junk.drewN))))⟩)
    | true =>
      have h0 : E ≠ 0 := fun h => hn ⟨hs, hm, by rw [hE, h]⟩
      have hne : (E != 0) = true := by simpa using h0
      have HPU := Lib.hid (fun w1 (hp : IpAt w1 p oo oc ob bc) => show Calls Try.prog 28 #[.agg #[.int .i64 p.tos, .int .i64 p.id, .bool p.df, .bool p.mf, .int .i64 p.off, .int .i64 p.ttl, .int .i64 p.proto, .int .u32 p.src, .int .u32 p.dst, .slice oo p.ol oc, .slice ob p.bl bc]] w1 fun e w' => ∃ (o1 : Option Addr) (n1 c1 : Nat), e = .returned (.tuple #[.slice o1 n1 c1, .int .i64 0]) ∧ Junk w1 w' from (ipPut_any p oo ob oc bc w1 (by omega) (by omega) hp).mono fun e w' h => by
        obtain ⟨o1, c1, rfl, hj, _⟩ := h.ok hm
        exact ⟨o1, _, c1, rfl, hj⟩)
      clear hn hs hP hT hE hm h0
      go_enter Try.func9, Try.ntmps9
      go_wp2_with (first | (go_at_call 10; refine (awake26_any _).mono ?_; rintro e w' ⟨rfl, ⟨osj, dj, rfl⟩⟩) | (go_at_call 19; refine (HSH.out _).mono ?_; rintro e w' ⟨rfl, ⟨osj, dj, rfl⟩⟩) | (go_at_call 28; (with_reducible refine (HPU.out _ (HP.out.on (by (first | ((repeat (first | with_reducible exact Junk.refl _ | with_reducible exact Junk.app _ _ _ _ _ | with_reducible apply Junk.alloc | with_reducible apply Junk.junk | with_reducible apply Junk.drew | with_reducible apply Junk.drewN)); done) | ((try simp only [World.junk_junk, Array.append_assoc]); (repeat (first | with_reducible exact Junk.refl _ | with_reducible exact Junk.app _ _ _ _ _ | with_reducible exact Junk.app2 _ _ _ _ _ _ | with_reducible exact Junk.app3 _ _ _ _ _ _ _ | with_reducible exact Junk.app4 _ _ _ _ _ _ _ _ | with_reducible exact Junk.app5 _ _ _ _ _ _ _ _ _ | with_reducible apply Junk.alloc | with_reducible apply Junk.junk | with_reducible apply Junk.drew | with_reducible apply Junk.drewN))))))).mono ?_); rintro e w' ⟨o1, n1, c1, rfl, ⟨osP, dP, rfl⟩⟩) | (go_at_call 20; (with_reducible refine (HOF.out _ (HP.out.on (by (first | ((repeat (first | with_reducible exact Junk.refl _ | with_reducible exact Junk.app _ _ _ _ _ | with_reducible apply Junk.alloc | with_reducible apply Junk.junk | with_reducible apply Junk.drew | with_reducible apply Junk.drewN)); done) | ((try simp only [World.junk_junk, Array.append_assoc]); (repeat (first | with_reducible exact Junk.refl _ | with_reducible exact Junk.app _ _ _ _ _ | with_reducible exact Junk.app2 _ _ _ _ _ _ | with_reducible exact Junk.app3 _ _ _ _ _ _ _ | with_reducible exact Junk.app4 _ _ _ _ _ _ _ _ | with_reducible exact Junk.app5 _ _ _ _ _ _ _ _ _ | with_reducible apply Junk.alloc | with_reducible apply Junk.junk | with_reducible apply Junk.drew | with_reducible apply Junk.drewN))))))).mono ?_); rintro e w' ⟨rfl, ⟨osj, dj, rfl⟩⟩))
      all_goals (go_ret; exact ⟨ret_bool rfl, by (first | ((repeat (first | with_reducible exact Junk.refl _ | with_reducible exact Junk.app _ _ _ _ _ | with_reducible apply Junk.alloc | with_reducible apply Junk.junk | with_reducible apply Junk.drew | with_reducible apply Junk.drewN)); done) | ((try simp only [World.junk_junk, Array.append_assoc]); (repeat (first | with_reducible exact Junk.refl _ | with_reducible exact Junk.app _ _ _ _ _ | with_reducible exact Junk.app2 _ _ _ _ _ _ | with_reducible exact Junk.app3 _ _ _ _ _ _ _ | with_reducible exact Junk.app4 _ _ _ _ _ _ _ _ | with_reducible exact Junk.app5 _ _ _ _ _ _ _ _ _ | with_reducible apply Junk.alloc | with_reducible apply Junk.junk | with_reducible apply Junk.drew | with_reducible apply Junk.drewN))))⟩)
set_option maxHeartbeats 4000000 in
theorem errorTells_ok (p : Ip) (oo ob : Option Addr) (oc bc : Nat) (addr port : Int) (w : World) (hP : IpAt w p oo oc ob bc) (haddr : 0 ≤ addr ∧ addr ≤ 4294967295) (hport : 0 ≤ port ∧ port ≤ 65535) (hs : shortB p = true) (hm : mayB p = true) (h0 : ofErr p.mf p.off p.proto p.src p.dst p.body p.bl = 0) : Calls Try.prog 9 #[.agg #[.int .i64 p.tos, .int .i64 p.id, .bool p.df, .bool p.mf, .int .i64 p.off, .int .i64 p.ttl, .int .i64 p.proto, .int .u32 p.src, .int .u32 p.dst, .slice oo p.ol oc, .slice ob p.bl bc], .int .u32 addr, .int .u16 port] w fun e w' => e = .returned (.bool true) ∧ Junk w w' := by
  have HP := Lib.hid hP
  obtain ⟨s1, s2⟩ := shortB_true hs
  have HSH := Lib.hid (fun w1 => show Calls Try.prog 19 #[.agg #[.int .i64 p.tos, .int .i64 p.id, .bool p.df, .bool p.mf, .int .i64 p.off, .int .i64 p.ttl, .int .i64 p.proto, .int .u32 p.src, .int .u32 p.dst, .slice oo p.ol oc, .slice ob p.bl bc]] w1 fun e w' => e = .returned (.bool true) ∧ Junk w1 w' by rw [← hs]; exact short_any p oo ob oc bc w1)
  have pw := wrapk_i64 port (by omega) (by omega)
  obtain ⟨N, hN⟩ : ∃ N, N = 20 + p.ol + p.bl := ⟨_, rfl⟩
  obtain ⟨n, hn⟩ : ∃ n, 28 + p.ol = n := ⟨_, rfl⟩
  have hpp := parse_put (m := 0) (xs := fun _ => 0) (may_iff.1 hm) hP.src hP.dst hP.opts.byte hP.body.byte
  rw [← hN] at hpp
  have hvs : ∀ i, i < N → pktB p i = behind N (pktB p) (fun _ => 0) i := fun i hi => by unfold behind; rw [if_pos hi]
  obtain ⟨vs, hv⟩ : ∃ f, behind N (pktB p) (fun _ => 0) = f := ⟨_, rfl⟩
  rw [hv] at hpp hvs
  have TP := tells_plain hN hpp.1 hpp.2 h0 hP.body.byte
  obtain ⟨tp1, tp2, tp3, tp4, tp5, tp6, tp7, tp8⟩ := (⟨TP.tell, by rw [← hn]; exact TP.len, by have := TP.nm; rwa [hn] at this, by have := TP.tup; rwa [hn] at this, by have := TP.dst; rwa [hn] at this, by have := TP.ttl; rwa [hn] at this, by have := TP.id; rwa [hn] at this, by have := TP.bl; rwa [hn] at this⟩ : tellErr 3 3 vs N = 0 ∧ tellLen vs = n ∧ nmErr 3 vs n = 0 ∧ nmTup vs n = ⟨p.proto, p.src, prS p.proto p.body, p.dst, prD p.proto p.body⟩ ∧ (aboutIp vs n).dst = p.dst ∧ (aboutIp vs n).ttl = p.ttl ∧ (aboutIp vs n).id = p.id ∧ (aboutIp vs n).bl = 8)
  have hN8 : N ≤ 100000000 := by omega
  have hn8 : n ≤ 100000000 := by omega
  have HPU := Lib.hid (fun w1 (hp : IpAt w1 p oo oc ob bc) => show Calls Try.prog 28 #[.agg #[.int .i64 p.tos, .int .i64 p.id, .bool p.df, .bool p.mf, .int .i64 p.off, .int .i64 p.ttl, .int .i64 p.proto, .int .u32 p.src, .int .u32 p.dst, .slice oo p.ol oc, .slice ob p.bl bc]] w1 fun e w' => ∃ (o1 : Option Addr) (c1 : Nat), e = .returned (.tuple #[.slice o1 N c1, .int .i64 0]) ∧ Junk w1 w' ∧ Bts w' o1 N c1 vs from (ipPut_any p oo ob oc bc w1 (by omega) (by omega) hp).mono fun e w' h => by
    obtain ⟨o1, c1, rfl, hj, hb, _⟩ := h.ok hm
    rw [← hN] at hb ⊢
    exact ⟨o1, c1, rfl, hj, bts_eqv hb hvs⟩)
  obtain ⟨s, hsp⟩ : ∃ s, prS p.proto p.body = s := ⟨_, rfl⟩
  obtain ⟨d, hdp⟩ : ∃ d, prD p.proto p.body = d := ⟨_, rfl⟩
  rw [hsp, hdp] at tp4
  have HOF := Lib.hid (fun w1 (hp : IpAt w1 p oo oc ob bc) => show Calls Try.prog 20 #[.agg #[.int .i64 p.tos, .int .i64 p.id, .bool p.df, .bool p.mf, .int .i64 p.off, .int .i64 p.ttl, .int .i64 p.proto, .int .u32 p.src, .int .u32 p.dst, .slice oo p.ol oc, .slice ob p.bl bc]] w1 fun e w' => e = .returned (.tuple #[.agg #[.int .i64 p.proto, .int .u32 p.src, .int .i64 s, .int .u32 p.dst, .int .i64 d], .int .i64 0]) ∧ Junk w1 w' by
    have := tells_of p oo ob oc bc w1 hp s2
    rw [show ofTup p.mf p.off p.proto p.src p.dst p.body p.bl = ⟨p.proto, p.src, s, p.dst, d⟩ by unfold ofTup; rw [if_pos h0, hsp, hdp], h0] at this
    exact this)
  have HTE := Lib.hid (fun o1 c1 w1 (hb : Bts w1 o1 N c1 vs) => show Calls Try.prog 29 #[.int .i64 3, .int .i64 3, .int .u32 0, .slice o1 N c1] w1 fun e w' => ∃ (o2 : Option Addr) (c2 : Nat), e = .returned (.tuple #[.agg #[.int .i64 3, .int .i64 3, .int .u32 0, .slice o2 n c2], .int .i64 0]) ∧ Junk w1 w' ∧ Bts w' o2 n c2 vs from
    (tell_any 3 3 0 o1 N c1 vs w1 hN8 hb).mono fun e w' hq => by
      obtain ⟨t, c, r, o2, lb, cb, rfl, hj, hb2, ⟨q1, rfl, rfl, rfl, rfl⟩ | ⟨q1, _⟩⟩ := hq
      · rw [tp2] at hb2 ⊢
        exact ⟨o2, cb, by rw [q1], hj, hb2⟩
      · exact absurd tp1 q1)
  have HNM := Lib.hid (fun o2 c2 w1 hb => names_ok (kind := 3) (code := 3) (rest := 0) hn8 tp3 tp4 o2 c2 w1 hb)
  have HSR := Lib.hid (fun (hx : ∀ i, i < n → 0 ≤ vs i ∧ vs i ≤ 255) o2 c2 w1 hb => src_ok (kind := 3) (code := 3) (rest := 0) hn8 haddr tp3 hport o2 c2 w1 hb)
  have HAB := Lib.hid (fun (hx : ∀ i, i < n → 0 ≤ vs i ∧ vs i ≤ 255) o3 c3 w1 (hb : Bts w1 o3 n c3 (tnB vs n 12 0 addr port)) => show Calls Try.prog 17 #[.agg #[.int .i64 3, .int .i64 3, .int .u32 0, .slice o3 n c3]] w1 fun e w' => ∃ (a0 a4 a6 : Int) (a2 a3 : Bool) (a9 : Nat) (oo ob : Option Addr) (oc bc : Nat), e = .returned (.tuple #[.agg #[.int .i64 a0, .int .i64 p.id, .bool a2, .bool a3, .int .i64 a4, .int .i64 p.ttl, .int .i64 a6, .int .u32 addr, .int .u32 p.dst, .slice oo a9 oc, .slice ob 8 bc], .int .i64 0]) ∧ Junk w1 w' by
    have hTn := tn_of (.inl ⟨rfl, rfl⟩) tp3 hx hb.byte haddr
    obtain ⟨ka, kh, _, kd, _, _⟩ := tn_keeps (.inl ⟨rfl, rfl⟩) tp3 hTn
    have ks : (aboutIp (tnB vs n 12 0 addr port) n).src = addr := by
      show wd (tnB vs n 12 0 addr port) 12 * 65536 + wd (tnB vs n 12 0 addr port) 14 = addr
      rw [hTn.hi, hTn.lo]
      omega
    refine (about_ok (code := 3) (rest := 0) hn8 ka rfl o3 c3 w1 hb).mono fun e w' hq => ?_
    obtain ⟨oo, ob, oc, bc, rfl, hj, _⟩ := hq
    rw [ks, kd rfl, tp5, kh.ttl, tp6, kh.id, tp7, kh.bl, tp8]
    exact ⟨_, _, _, _, _, _, oo, ob, oc, bc, rfl, hj⟩)
  have hg := tupq_guard
  have hq : ∀ w, (binOp .eql 28 (.agg #[.int .i64 p.proto, .int .u32 p.src, .int .i64 s, .int .u32 p.dst, .int .i64 d]) (.agg #[.int .i64 p.proto, .int .u32 p.src, .int .i64 s, .int .u32 p.dst, .int .i64 d])).run Try.prog w = .ok (.bool true) w := fun w => by have := tupq_eql ⟨p.proto, p.src, s, p.dst, d⟩ ⟨p.proto, p.src, s, p.dst, d⟩ w; rw [decide_eq_true rfl] at this; exact this
  clear hs hm h0 hpp hvs hv TP tp1 tp2 tp3 tp4 tp5 tp6 tp7 tp8 hsp hdp hN hn hP
  go_enter Try.func9, Try.ntmps9
  go_wp2_with (first
    | (go_at_call 10; refine (awake26_any _).mono ?_; rintro e w' ⟨rfl, ⟨osj, dj, rfl⟩⟩)
    | (go_at_call 19; refine (HSH.out _).mono ?_; rintro e w' ⟨rfl, ⟨osj, dj, rfl⟩⟩)
    | (go_at_call 28; (with_reducible refine (HPU.out _ (HP.out.on (by (first | ((repeat (first | with_reducible exact Junk.refl _ | with_reducible exact Junk.app _ _ _ _ _ | with_reducible apply Junk.alloc | with_reducible apply Junk.junk | with_reducible apply Junk.drew | with_reducible apply Junk.drewN)); done) | ((try simp only [World.junk_junk, Array.append_assoc]); (repeat (first | with_reducible exact Junk.refl _ | with_reducible exact Junk.app _ _ _ _ _ | with_reducible exact Junk.app2 _ _ _ _ _ _ | with_reducible exact Junk.app3 _ _ _ _ _ _ _ | with_reducible exact Junk.app4 _ _ _ _ _ _ _ _ | with_reducible exact Junk.app5 _ _ _ _ _ _ _ _ _ | with_reducible apply Junk.alloc | with_reducible apply Junk.junk | with_reducible apply Junk.drew | with_reducible apply Junk.drewN))))))).mono ?_); rintro e w' ⟨o1, c1, rfl, ⟨os1, d1, rfl⟩, hb1⟩; have Hb1 := Lib.hid hb1; clear hb1)
    | (go_at_call 20; (with_reducible refine (HOF.out _ (HP.out.on (by (first | ((repeat (first | with_reducible exact Junk.refl _ | with_reducible exact Junk.app _ _ _ _ _ | with_reducible apply Junk.alloc | with_reducible apply Junk.junk | with_reducible apply Junk.drew | with_reducible apply Junk.drewN)); done) | ((try simp only [World.junk_junk, Array.append_assoc]); (repeat (first | with_reducible exact Junk.refl _ | with_reducible exact Junk.app _ _ _ _ _ | with_reducible exact Junk.app2 _ _ _ _ _ _ | with_reducible exact Junk.app3 _ _ _ _ _ _ _ | with_reducible exact Junk.app4 _ _ _ _ _ _ _ _ | with_reducible exact Junk.app5 _ _ _ _ _ _ _ _ _ | with_reducible apply Junk.alloc | with_reducible apply Junk.junk | with_reducible apply Junk.drew | with_reducible apply Junk.drewN))))))).mono ?_); rintro e w' ⟨rfl, ⟨osj, dj, rfl⟩⟩)
    | (go_at_call 29; (with_reducible refine (HTE.out o1 c1 _ (Hb1.out.on (by (first | ((repeat (first | with_reducible exact Junk.refl _ | with_reducible exact Junk.app _ _ _ _ _ | with_reducible apply Junk.alloc | with_reducible apply Junk.junk | with_reducible apply Junk.drew | with_reducible apply Junk.drewN)); done) | ((try simp only [World.junk_junk, Array.append_assoc]); (repeat (first | with_reducible exact Junk.refl _ | with_reducible exact Junk.app _ _ _ _ _ | with_reducible exact Junk.app2 _ _ _ _ _ _ | with_reducible exact Junk.app3 _ _ _ _ _ _ _ | with_reducible exact Junk.app4 _ _ _ _ _ _ _ _ | with_reducible exact Junk.app5 _ _ _ _ _ _ _ _ _ | with_reducible apply Junk.alloc | with_reducible apply Junk.junk | with_reducible apply Junk.drew | with_reducible apply Junk.drewN))))))).mono ?_); rintro e w' ⟨o2, c2, rfl, ⟨os2, d2, rfl⟩, hb2⟩; have Hb2 := Lib.hid hb2; clear hb2)
    | (go_at_call 11; (with_reducible refine (HNM.out o2 c2 _ (Hb2.out.on (by (first | ((repeat (first | with_reducible exact Junk.refl _ | with_reducible exact Junk.app _ _ _ _ _ | with_reducible apply Junk.alloc | with_reducible apply Junk.junk | with_reducible apply Junk.drew | with_reducible apply Junk.drewN)); done) | ((try simp only [World.junk_junk, Array.append_assoc]); (repeat (first | with_reducible exact Junk.refl _ | with_reducible exact Junk.app _ _ _ _ _ | with_reducible exact Junk.app2 _ _ _ _ _ _ | with_reducible exact Junk.app3 _ _ _ _ _ _ _ | with_reducible exact Junk.app4 _ _ _ _ _ _ _ _ | with_reducible exact Junk.app5 _ _ _ _ _ _ _ _ _ | with_reducible apply Junk.alloc | with_reducible apply Junk.junk | with_reducible apply Junk.drew | with_reducible apply Junk.drewN))))))).mono ?_); rintro e w' ⟨rfl, ⟨osj, dj, rfl⟩⟩)
    | (go_at_call 13; (with_reducible refine (HSR.out Hb2.out.byte o2 c2 _ (Hb2.out.on (by (first | ((repeat (first | with_reducible exact Junk.refl _ | with_reducible exact Junk.app _ _ _ _ _ | with_reducible apply Junk.alloc | with_reducible apply Junk.junk | with_reducible apply Junk.drew | with_reducible apply Junk.drewN)); done) | ((try simp only [World.junk_junk, Array.append_assoc]); (repeat (first | with_reducible exact Junk.refl _ | with_reducible exact Junk.app _ _ _ _ _ | with_reducible exact Junk.app2 _ _ _ _ _ _ | with_reducible exact Junk.app3 _ _ _ _ _ _ _ | with_reducible exact Junk.app4 _ _ _ _ _ _ _ _ | with_reducible exact Junk.app5 _ _ _ _ _ _ _ _ _ | with_reducible apply Junk.alloc | with_reducible apply Junk.junk | with_reducible apply Junk.drew | with_reducible apply Junk.drewN))))))).mono ?_); rintro e w' ⟨⟨os3, d3, rfl⟩, o3, c3, hb3, rfl⟩; have Hb3 := Lib.hid hb3; clear hb3)
    | (go_at_call 17; (with_reducible refine (HAB.out Hb2.out.byte o3 c3 _ (Hb3.out.on (by (first | ((repeat (first | with_reducible exact Junk.refl _ | with_reducible exact Junk.app _ _ _ _ _ | with_reducible apply Junk.alloc | with_reducible apply Junk.junk | with_reducible apply Junk.drew | with_reducible apply Junk.drewN)); done) | ((try simp only [World.junk_junk, Array.append_assoc]); (repeat (first | with_reducible exact Junk.refl _ | with_reducible exact Junk.app _ _ _ _ _ | with_reducible exact Junk.app2 _ _ _ _ _ _ | with_reducible exact Junk.app3 _ _ _ _ _ _ _ | with_reducible exact Junk.app4 _ _ _ _ _ _ _ _ | with_reducible exact Junk.app5 _ _ _ _ _ _ _ _ _ | with_reducible apply Junk.alloc | with_reducible apply Junk.junk | with_reducible apply Junk.drew | with_reducible apply Junk.drewN))))))).mono ?_); rintro e w' ⟨a0, a4, a6, a2, a3, a9, oo5, ob5, oc5, bc5, rfl, ⟨os4, d4, rfl⟩⟩))
  all_goals (go_ret; exact ⟨ret_bool rfl, by (first | ((repeat (first | with_reducible exact Junk.refl _ | with_reducible exact Junk.app _ _ _ _ _ | with_reducible apply Junk.alloc | with_reducible apply Junk.junk | with_reducible apply Junk.drew | with_reducible apply Junk.drewN)); done) | ((try simp only [World.junk_junk, Array.append_assoc]); (repeat (first | with_reducible exact Junk.refl _ | with_reducible exact Junk.app _ _ _ _ _ | with_reducible exact Junk.app2 _ _ _ _ _ _ | with_reducible exact Junk.app3 _ _ _ _ _ _ _ | with_reducible exact Junk.app4 _ _ _ _ _ _ _ _ | with_reducible exact Junk.app5 _ _ _ _ _ _ _ _ _ | with_reducible apply Junk.alloc | with_reducible apply Junk.junk | with_reducible apply Junk.drew | with_reducible apply Junk.drewN))))⟩)
theorem errorTells_walk (p : Ip) (oo ob : Option Addr) (oc bc : Nat) (addr port : Int) (w : World) (hP : IpAt w p oo oc ob bc) (haddr : 0 ≤ addr ∧ addr ≤ 4294967295) (hport : 0 ≤ port ∧ port ≤ 65535) : Calls Try.prog 9 #[.agg #[.int .i64 p.tos, .int .i64 p.id, .bool p.df, .bool p.mf, .int .i64 p.off, .int .i64 p.ttl, .int .i64 p.proto, .int .u32 p.src, .int .u32 p.dst, .slice oo p.ol oc, .slice ob p.bl bc], .int .u32 addr, .int .u16 port] w fun e w' => e = .returned (.bool true) ∧ Junk w w' := by
  by_cases h : shortB p = true ∧ mayB p = true ∧ ofErr p.mf p.off p.proto p.src p.dst p.body p.bl = 0
  · exact errorTells_ok p oo ob oc bc addr port w hP haddr hport h.1 h.2.1 h.2.2
  · exact errorTells_no p oo ob oc bc addr port w hP haddr hport h

theorem errorTells_core (W : World) (base : Nat) (v0 v1 v2 : Value) (a0 : Arg Try.prog W base 43 v0) (a1 : Arg Try.prog W base 22 v1) (a2 : Arg Try.prog W base 41 v2) :
    Calls Try.prog 9 #[v0, v1, v2] W fun e W' => e = .returned (.bool true) ∧ Junk W W' := by
  obtain ⟨cs_p, rfl, h_p⟩ := a0.struct Try.underlying43
  obtain ⟨hl_p, hf_p⟩ := h_p.fields1 Try.underlying43 (by kernel_rfl) (n := 11) (by kernel_rfl)
  obtain ⟨p_TOS, lp0, e_p0⟩ : ∃ x l, cs_p = x :: l := by cases cs_p with | nil => simp at hl_p | cons x l => exact ⟨x, l, rfl⟩
  subst e_p0
  obtain ⟨p_ID, lp1, e_p1⟩ : ∃ x l, lp0 = x :: l := by cases lp0 with | nil => simp at hl_p | cons x l => exact ⟨x, l, rfl⟩
  subst e_p1
  obtain ⟨p_DF, lp2, e_p2⟩ : ∃ x l, lp1 = x :: l := by cases lp1 with | nil => simp at hl_p | cons x l => exact ⟨x, l, rfl⟩
  subst e_p2
  obtain ⟨p_MF, lp3, e_p3⟩ : ∃ x l, lp2 = x :: l := by cases lp2 with | nil => simp at hl_p | cons x l => exact ⟨x, l, rfl⟩
  subst e_p3
  obtain ⟨p_Off, lp4, e_p4⟩ : ∃ x l, lp3 = x :: l := by cases lp3 with | nil => simp at hl_p | cons x l => exact ⟨x, l, rfl⟩
  subst e_p4
  obtain ⟨p_TTL, lp5, e_p5⟩ : ∃ x l, lp4 = x :: l := by cases lp4 with | nil => simp at hl_p | cons x l => exact ⟨x, l, rfl⟩
  subst e_p5
  obtain ⟨p_Proto, lp6, e_p6⟩ : ∃ x l, lp5 = x :: l := by cases lp5 with | nil => simp at hl_p | cons x l => exact ⟨x, l, rfl⟩
  subst e_p6
  obtain ⟨p_Src, lp7, e_p7⟩ : ∃ x l, lp6 = x :: l := by cases lp6 with | nil => simp at hl_p | cons x l => exact ⟨x, l, rfl⟩
  subst e_p7
  obtain ⟨p_Dst, lp8, e_p8⟩ : ∃ x l, lp7 = x :: l := by cases lp7 with | nil => simp at hl_p | cons x l => exact ⟨x, l, rfl⟩
  subst e_p8
  obtain ⟨p_Opts, lp9, e_p9⟩ : ∃ x l, lp8 = x :: l := by cases lp8 with | nil => simp at hl_p | cons x l => exact ⟨x, l, rfl⟩
  subst e_p9
  obtain ⟨p_Body, lp10, e_p10⟩ : ∃ x l, lp9 = x :: l := by cases lp9 with | nil => simp at hl_p | cons x l => exact ⟨x, l, rfl⟩
  subst e_p10
  obtain rfl : lp10 = [] := by simpa using hl_p
  have f_p0 : Cells Try.prog W 3 [p_TOS] := hf_p 0 _ rfl
  have f_p1 : Cells Try.prog W 3 [p_ID] := hf_p 1 _ rfl
  have f_p2 : Cells Try.prog W 4 [p_DF] := hf_p 2 _ rfl
  have f_p3 : Cells Try.prog W 4 [p_MF] := hf_p 3 _ rfl
  have f_p4 : Cells Try.prog W 3 [p_Off] := hf_p 4 _ rfl
  have f_p5 : Cells Try.prog W 3 [p_TTL] := hf_p 5 _ rfl
  have f_p6 : Cells Try.prog W 3 [p_Proto] := hf_p 6 _ rfl
  have f_p7 : Cells Try.prog W 22 [p_Src] := hf_p 7 _ rfl
  have f_p8 : Cells Try.prog W 22 [p_Dst] := hf_p 8 _ rfl
  have f_p9 : Cells Try.prog W 23 [p_Opts] := hf_p 9 _ rfl
  have f_p10 : Cells Try.prog W 23 [p_Body] := hf_p 10 _ rfl
  clear hf_p hl_p
  obtain ⟨p_TOS, e_p_TOS, w_p_TOS⟩ := f_p0.int Try.underlying3; cases e_p_TOS
  obtain ⟨p_ID, e_p_ID, w_p_ID⟩ := f_p1.int Try.underlying3; cases e_p_ID
  obtain ⟨p_DF, e_p_DF⟩ := f_p2.bool Try.underlying4; cases e_p_DF
  obtain ⟨p_MF, e_p_MF⟩ := f_p3.bool Try.underlying4; cases e_p_MF
  obtain ⟨p_Off, e_p_Off, w_p_Off⟩ := f_p4.int Try.underlying3; cases e_p_Off
  obtain ⟨p_TTL, e_p_TTL, w_p_TTL⟩ := f_p5.int Try.underlying3; cases e_p_TTL
  obtain ⟨p_Proto, e_p_Proto, w_p_Proto⟩ := f_p6.int Try.underlying3; cases e_p_Proto
  obtain ⟨p_Src, e_p_Src, w_p_Src⟩ := f_p7.int Try.underlying22; cases e_p_Src
  obtain ⟨p_Dst, e_p_Dst, w_p_Dst⟩ := f_p8.int Try.underlying22; cases e_p_Dst
  obtain ⟨p_Opts_a, p_Opts_l, p_Opts_c, p_Opts, e_p_Opts, lc_p_Opts, cm_p_Opts, S_p_Opts, w_p_Opts⟩ := f_p9.ints Try.underlying23 Try.underlying5 (by kernel_rfl); cases e_p_Opts
  obtain ⟨p_Body_a, p_Body_l, p_Body_c, p_Body, e_p_Body, lc_p_Body, cm_p_Body, S_p_Body, w_p_Body⟩ := f_p10.ints Try.underlying23 Try.underlying5 (by kernel_rfl); cases e_p_Body
  obtain ⟨addr, rfl, w_addr⟩ := a1.int Try.underlying22
  obtain ⟨port, rfl, w_port⟩ := a2.int Try.underlying41
  have hlm : maxLen = 9223372036854775807 := rfl
  exact errorTells_walk ⟨p_TOS, p_ID, p_DF, p_MF, p_Off, p_TTL, p_Proto, p_Src, p_Dst, p_Opts_l, p_Opts, p_Body_l, p_Body⟩ p_Opts_a p_Body_a p_Opts_c p_Body_c addr port W
    ⟨⟨S_p_Opts, fun i hi => bounds_u8 (w_p_Opts i hi), Cells.nil_slice Try.underlying23 f_p9, lc_p_Opts, cm_p_Opts⟩, ⟨S_p_Body, fun i hi => bounds_u8 (w_p_Body i hi), Cells.nil_slice Try.underlying23 f_p10, lc_p_Body, cm_p_Body⟩, bounds_u32 w_p_Src, bounds_u32 w_p_Dst⟩ (bounds_u32 w_addr) (bounds_u16 w_port)
set_option maxRecDepth 100000 in
theorem errorTells_lifted (os : Os) (started : os.Started) (H : Type) (enc : TypeId × Value → H) :
    ReturnsInHanded {} Try.checked os 9 .any (Rows.errorTellsSpec.pre6 enc Try.prog Try.f9 Rows.errorTellsRow.domain false) (Rows.errorTellsSpec.post enc Try.prog Try.f9 false true false false) := by
  refine returnsInHanded_of_change (C := Try.checked) (by kernel_rfl) started (by kernel_rfl) Try.func9
    (ChangeSpec.witness6 (enc := enc) (C := Try.checked) false ⟨#[], #[.agg #[.int .i64 0, .int .i64 0, .bool false, .bool false, .int .i64 0, .int .i64 0, .int .i64 0, .int .u32 0, .int .u32 0, .slice none 0 0, .slice none 0 0], .int .u32 0, .int .u16 0], []⟩ 8 (by kernel_rfl) (by kernel_rfl) (by kernel_rfl) (by kernel_rfl)) ?_
  intro W base args ds gs before hval hW _ _
  obtain ⟨p, q, hA, _, _, _, _⟩ := id hW
  have hargs : Args Try.prog W base Try.f9.params.toList args.toList := args_of (fun j t v h1 h2 => hval j t v (by simpa using h1) (by simpa using h2)) hA
  rw [Try.params9] at hargs
  obtain ⟨v0, l0, e0, a0, r0⟩ := args_cons hargs
  obtain ⟨v1, l1, e1, a1, r1⟩ := args_cons r0
  obtain ⟨v2, l2, e2, a2, r2⟩ := args_cons r1
  have hn := args_nil r2
  have he : args = #[v0, v1, v2] := by
    apply Array.ext'
    simp only [e0, e1, e2, hn]
  subst he
  exact (errorTells_core W base v0 v1 v2 a0 a1 a2).mono fun e W' ⟨he, hj⟩ => ⟨_, he, post_true (tb := 4) (by kernel_rfl) (by kernel_rfl) rfl (by kernel_rfl) rfl hW (fun hg hl => by
    subst hg
    match ds, hl with
    | [_, _, _], _ => exact ⟨rfl, rfl, rfl⟩) hj⟩
theorem errorTells_holds : Rows.ErrorTellsSaid :=
  OpenClaim.holds_of_wide 9 Try.f9 rfl rfl rfl rfl rfl rfl rfl ⟨rfl, rfl, rfl, rfl, rfl⟩ rfl rfl rfl rfl rfl (by kernel_rfl) Try.func9 (by kernel_rfl)
    (of_decide_eq_true (by kernel_rfl)) (by unfold Func.isWrapper; rw [if_neg (of_decide_eq_false (by kernel_rfl))]; exact ⟨rfl, rfl⟩)
    (fun os started H enc _ => errorTells_lifted os started H enc)

end Go.Proofs.Ytnefphinmjeacaa
