/- tcp.length; the bytes of a segment. -/
import Derived.Test.YtnefphinmjeacaaTcpE
import Derived.Test.YtnefphinmjeacaaLift2
set_option linter.unusedVariables false
set_option maxRecDepth 100000
set_option linter.unusedSimpArgs false
namespace Go.Proofs.Ytnefphinmjeacaa
open Go.RowKit
theorem os_take {w : World} {ob : Option Addr} {F : List Ot} (h : OsAt w ob F) (i : Nat) : OsAt w ob (F.take i) := fun j f hf => h j f (by
  rw [List.getElem?_take] at hf
  split at hf
  · exact hf
  · cases hf)
theorem optsN_take_le (F : List Ot) (i : Nat) : optsN (F.take i) ≤ optsN F := by
  unfold optsN
  have h : F = F.take i ++ F.drop i := (List.take_append_drop i F).symm
  rw [h, List.map_append, List.sum_append, List.take_append_drop]
  omega
theorem rtAll_le {F : List Ot} (h : rtAll F = true) : optsN F ≤ 40 := by
  unfold rtAll at h
  rw [decide_eq_true_eq] at h
  cases hF : F.length with
  | zero => have : F = [] := List.eq_nil_of_length_eq_zero hF; subst this; simp [optsN]
  | succ k =>
    have := (h k (by omega) F[k] (List.getElem?_eq_getElem (by omega))).2
    rwa [List.take_of_length_le (by omega)] at this
theorem rtAll_at {F : List Ot} (h : rtAll F = true) {i : Nat} {f : Ot} (hf : F[i]? = some f) : rightO (F.take i) f.k f.l = true := by
  unfold rtAll at h
  rw [decide_eq_true_eq] at h
  exact (h i (List.getElem?_eq_some_iff.1 hf).1 f hf).1
theorem rightO_kind2 {F : List Ot} {k : Int} {l : Nat} (h : rightO F k l = true) : 2 ≤ k ∧ k ≤ 255 := by
  unfold rightO at h
  simp only [Bool.and_eq_true, decide_eq_true_eq] at h
  exact h.1
def optB : List Od → Nat → Int
  | [], _ => 0
  | f :: F, j => if j = 0 then f.k else if j = 1 then 2 + (f.l : Int) else if j < 2 + f.l then f.xs (j - 2) else optB F (j - (2 + f.l))
def optsND (F : List Od) : Nat := (F.map fun f => 2 + f.l).sum
theorem optsND_d (F : List Ot) : optsND (F.map Ot.d) = optsN F := by unfold optsND optsN; rw [List.map_map]; rfl
def rtAllD (F : List Od) : Bool := decide (∀ i, i < F.length → ∀ f, F[i]? = some f → rightD (F.take i) f.k f.l = true ∧ optsND (F.take (i + 1)) ≤ 40)
theorem rtAll_d (F : List Ot) : rtAllD (F.map Ot.d) = rtAll F := by
  unfold rtAllD rtAll
  rw [decide_eq_decide]
  simp only [List.length_map]
  constructor
  · intro h i hi f hf
    have := h i hi f.d (by rw [List.getElem?_map, hf]; rfl)
    rw [← List.map_take, ← List.map_take, optsND_d] at this
    rw [rightO_d]
    exact this
  · intro h i hi f hf
    rw [List.getElem?_map] at hf
    cases hg : F[i]? with
    | none => rw [hg] at hf; cases hf
    | some g =>
      rw [hg] at hf
      cases hf
      have := h i hi g hg
      rw [rightO_d] at this
      rw [← List.map_take, ← List.map_take, optsND_d]
      exact this
theorem optB_push (F : List Od) (g : Od) (j : Nat) : optB (F ++ [g]) j = if j < optsND F then optB F j else optB [g] (j - optsND F) := by
  induction F generalizing j with
  | nil => simp [optsND]
  | cons f F ih =>
    rw [List.cons_append, optB, optB]
    have e : optsND (f :: F) = (2 + f.l) + optsND F := by unfold optsND; simp
    rw [e]
    by_cases h0 : j = 0
    · rw [if_pos h0, if_pos h0, if_pos (by omega)]
    by_cases h1 : j = 1
    · rw [if_neg h0, if_pos h1, if_neg h0, if_pos h1, if_pos (by omega)]
    by_cases h2 : j < 2 + f.l
    · rw [if_neg h0, if_neg h1, if_pos h2, if_neg h0, if_neg h1, if_pos h2, if_pos (by omega)]
    · rw [if_neg h0, if_neg h1, if_neg h2, if_neg h0, if_neg h1, if_neg h2, ih]
      by_cases h3 : j < 2 + f.l + optsND F
      · rw [if_pos h3, if_pos (by omega)]
      · rw [if_neg h3, if_neg (by omega)]
        congr 1
        omega
theorem optB_out (F : List Od) : ∀ j, optsND F ≤ j → optB F j = 0 := by
  induction F with
  | nil => intro j _; rfl
  | cons f F ih =>
    intro j hj
    have e : optsND (f :: F) = (2 + f.l) + optsND F := by unfold optsND; simp
    rw [e] at hj
    rw [optB, if_neg (by omega), if_neg (by omega), if_neg (by omega)]
    exact ih _ (by omega)
theorem optB_one (g : Od) (j : Nat) : optB [g] j = if j = 0 then g.k else if j = 1 then 2 + (g.l : Int) else if j < 2 + g.l then g.xs (j - 2) else 0 := by
  rw [optB]; rfl
theorem optB_byte {F : List Od} (h : rtAllD F = true) (hb : ∀ f ∈ F, ∀ i, i < f.l → 0 ≤ f.xs i ∧ f.xs i ≤ 255) : ∀ j, 0 ≤ optB F j ∧ optB F j ≤ 255 := by
  have key : ∀ F : List Od, (∀ f ∈ F, (0 ≤ f.k ∧ f.k ≤ 255) ∧ f.l ≤ 38 ∧ ∀ i, i < f.l → 0 ≤ f.xs i ∧ f.xs i ≤ 255) → ∀ j, 0 ≤ optB F j ∧ optB F j ≤ 255 := by
    intro F
    induction F with
    | nil => intro _ j; simp [optB]
    | cons f F ih =>
      intro hF j
      obtain ⟨h1, h2, h3⟩ := hF f (by simp)
      rw [optB]
      split
      · exact h1
      · split
        · omega
        · split
          · exact h3 _ (by omega)
          · exact ih (fun g hg => hF g (by simp [hg])) _
  refine key F (fun f hf => ?_)
  obtain ⟨i, hi⟩ := List.getElem?_of_mem hf
  unfold rtAllD at h
  rw [decide_eq_true_eq] at h
  obtain ⟨h1, h2⟩ := h i (List.getElem?_eq_some_iff.1 hi).1 f hi
  unfold rightD at h1
  simp only [Bool.and_eq_true, decide_eq_true_eq] at h1
  refine ⟨by omega, ?_, hb f hf⟩
  rw [take_succ4 hi] at h2
  unfold optsND at h2
  simp at h2
  omega
def tcSz (t : Tc) : Nat := 20 + (optsND t.os + 3) / 4 * 4
/-- A segment's bytes, with a check sum; S: the head's. -/
def tcHead (t : Tc) (S : Nat) (c : Int) : Nat → Int
  | 0 => t.sport / 256
  | 1 => t.sport % 256
  | 2 => t.dport / 256
  | 3 => t.dport % 256
  | 4 => t.seq / 65536 / 256
  | 5 => t.seq / 65536 % 256
  | 6 => t.seq % 65536 / 256
  | 7 => t.seq % 256
  | 8 => t.ack / 65536 / 256
  | 9 => t.ack / 65536 % 256
  | 10 => t.ack % 65536 / 256
  | 11 => t.ack % 256
  | 12 => (S : Int) / 4 * 16
  | 13 => t.flags
  | 14 => t.win / 256
  | 15 => t.win % 256
  | 16 => c / 256
  | 17 => c % 256
  | 18 => t.urg / 256
  | 19 => t.urg % 256
  | k + 20 => optB t.os k
def segB (t : Tc) (c : Int) : Nat → Int := fun k => if k < tcSz t then tcHead t (tcSz t) c k else t.body (k - tcSz t)
def segSum (src dst : Int) (t : Tc) : Int := 65535 - tsumN src dst (segB t 0) (tcSz t + t.bl)
def segOf (src dst : Int) (t : Tc) : Nat → Int := segB t (segSum src dst t)
def tcMay (t : Tc) : Bool := rtAllD t.os && t_withinB t.sport 65535 && t_withinB t.dport 65535 && t_withinB t.win 65535 && t_withinB t.urg 65535 && t_withinB t.flags 255 && decide (tcSz t + t.bl ≤ 65535)
def tcErr (t : Tc) : Int := if tcMay t then 0 else 1
/-- What is known of a segment's numbers among arguments. -/
structure TcWf (t : Tc) : Prop where
  seq : 0 ≤ t.seq ∧ t.seq ≤ 4294967295
  ack : 0 ≤ t.ack ∧ t.ack ≤ 4294967295
  data : ∀ f ∈ t.os, ∀ i, i < f.l → 0 ≤ f.xs i ∧ f.xs i ≤ 255
  body : ∀ i, i < t.bl → 0 ≤ t.body i ∧ t.body i ≤ 255
structure TcMayP (t : Tc) : Prop where
  os : rtAllD t.os = true
  sport : 0 ≤ t.sport ∧ t.sport ≤ 65535
  dport : 0 ≤ t.dport ∧ t.dport ≤ 65535
  win : 0 ≤ t.win ∧ t.win ≤ 65535
  urg : 0 ≤ t.urg ∧ t.urg ≤ 65535
  flags : 0 ≤ t.flags ∧ t.flags ≤ 255
  fit : tcSz t + t.bl ≤ 65535
theorem tcMay_iff {t : Tc} : tcMay t = true ↔ TcMayP t := by
  unfold tcMay t_withinB
  simp only [Bool.and_eq_true, decide_eq_true_eq]
  constructor
  · rintro ⟨⟨⟨⟨⟨⟨h1, h2⟩, h3⟩, h4⟩, h5⟩, h6⟩, h7⟩
    exact ⟨h1, h2, h3, h4, h5, h6, h7⟩
  · intro h
    exact ⟨⟨⟨⟨⟨⟨h.os, h.sport⟩, h.dport⟩, h.win⟩, h.urg⟩, h.flags⟩, h.fit⟩
theorem rtAllD_le {F : List Od} (h : rtAllD F = true) : optsND F ≤ 40 := by
  unfold rtAllD at h
  rw [decide_eq_true_eq] at h
  cases hF : F.length with
  | zero => have : F = [] := List.eq_nil_of_length_eq_zero hF; subst this; simp [optsND]
  | succ k =>
    have := (h k (by omega) F[k] (List.getElem?_eq_getElem (by omega))).2
    rwa [List.take_of_length_le (by omega)] at this
theorem twenty4 (i : Nat) : i = 0 ∨ i = 1 ∨ i = 2 ∨ i = 3 ∨ i = 4 ∨ i = 5 ∨ i = 6 ∨ i = 7 ∨ i = 8 ∨ i = 9 ∨ i = 10 ∨ i = 11 ∨ i = 12 ∨ i = 13 ∨ i = 14 ∨ i = 15 ∨ i = 16 ∨ i = 17 ∨ i = 18 ∨ i = 19 ∨ ∃ k, i = k + 20 := by
  by_cases h : i < 20
  · omega
  · have : ∃ k, i = k + 20 := ⟨i - 20, by omega⟩
    simp [this]
theorem tcHead_byte {t : Tc} {S : Nat} {c : Int} (hM : TcMayP t) (hW : TcWf t) (hS : S ≤ 60) (hc : 0 ≤ c ∧ c ≤ 65535) : ∀ i, 0 ≤ tcHead t S c i ∧ tcHead t S c i ≤ 255 := by
  intro i
  have h1 := hM.sport; have h2 := hM.dport; have h3 := hM.win; have h4 := hM.urg; have h5 := hM.flags; have h6 := hW.seq; have h7 := hW.ack
  rcases twenty4 i with rfl | rfl | rfl | rfl | rfl | rfl | rfl | rfl | rfl | rfl | rfl | rfl | rfl | rfl | rfl | rfl | rfl | rfl | rfl | rfl | ⟨k, rfl⟩
  all_goals simp only [tcHead]
  all_goals first | omega | exact optB_byte hM.os hW.data _
theorem tcSz_le {t : Tc} (hM : TcMayP t) : 20 ≤ tcSz t ∧ tcSz t ≤ 60 := by
  have := rtAllD_le hM.os
  unfold tcSz; omega
theorem segB_byte {t : Tc} {c : Int} (hM : TcMayP t) (hW : TcWf t) (hc : 0 ≤ c ∧ c ≤ 65535) : ∀ i, i < tcSz t + t.bl → 0 ≤ segB t c i ∧ segB t c i ≤ 255 := by
  intro i hi
  unfold segB
  split
  · exact tcHead_byte hM hW (tcSz_le hM).2 hc i
  · exact hW.body _ (by omega)
theorem segSum_bd {src dst : Int} {t : Tc} (h1 : 0 ≤ src ∧ src ≤ 4294967295) (h2 : 0 ≤ dst ∧ dst ≤ 4294967295) (hM : TcMayP t) (hW : TcWf t) : 0 ≤ segSum src dst t ∧ segSum src dst t ≤ 65535 := by
  have hr := rawN_bd (segB t 0) (tcSz t + t.bl) (segB_byte hM hW (by omega))
  have hf := hM.fit
  have hp := pseudoN_bd (proto := 6) (size := ((tcSz t + t.bl : Nat) : Int)) h1 h2 (by omega) (by omega)
  have := foldI_bd (pseudoN src dst 6 ((tcSz t + t.bl : Nat) : Int) + rawN (segB t 0) (tcSz t + t.bl)) (by omega)
  unfold segSum tsumN
  omega
def byL (n : Nat) (xs : Nat → Int) : List Value := (List.range n).map fun i => Value.int .u8 (xs i)
def TPutM (w : World) (src dst : Int) (t : Tc) (e : Ending) (w' : World) : Prop :=
  ∃ (ob : Option Addr) (lb cb : Nat), e = .returned (.tuple #[.slice ob lb cb, .int .i64 (tcErr t)]) ∧ Junk w w' ∧ Bts w' ob lb cb (segOf src dst t) ∧
    ((tcMay t = true ∧ lb = tcSz t + t.bl ∧ Own w.heap.size w' 5 1 ob cb lb (byL lb (segOf src dst t))) ∨ (tcMay t = false ∧ lb = 0 ∧ cb = 0 ∧ ob = none))
theorem tputM_bad {w w' : World} {src dst : Int} {t : Tc} (h : tcMay t = false) (hj : Junk w w') : TPutM w src dst t (.returned (.tuple #[.slice none 0 0, .int .i64 1])) w' :=
  ⟨none, 0, 0, by simp [tcErr, h], hj, ⟨fun i hi => by omega, fun i hi => by omega, fun _ => ⟨rfl, rfl⟩, Nat.le_refl _, Nat.zero_le _⟩, .inr ⟨h, rfl, rfl, rfl⟩⟩
end Go.Proofs.Ytnefphinmjeacaa
