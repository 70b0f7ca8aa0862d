/- What NatOne says of an asking, without the program. -/
import Derived.Test.YtambpmbgfjefcaaNatL
set_option linter.unusedVariables false
set_option maxRecDepth 100000
set_option linter.unusedSimpArgs false
namespace Go.Proofs.Ytambpmbgfjefcaa
open Go.RowKit
/-- Ports that differ, in the span: as many fewer are free. -/
theorem poolFree_count {a b : Nat} {xs : Nat → Int} (hr : rightB a b = true) : ∀ (n : Nat), (∀ i, i < n → (a : Int) ≤ xs i ∧ xs i ≤ b) → (∀ i j, i < j → j < n → xs i ≠ xs j) → poolFree a b xs n + n = b + 1 - a
  | 0, _, _ => by rw [poolFree_nil hr]; rfl
  | n + 1, h1, h2 => by
    have ih := poolFree_count hr n (fun i hi => h1 i (by omega)) (fun i j hij hj => h2 i j hij (by omega))
    obtain ⟨p, hp⟩ : ∃ p : Nat, xs n = (p : Int) := ⟨(xs n).toNat, by have := h1 n (by omega); omega⟩
    have hpb := h1 n (by omega)
    have hF : takenB a b xs n p = false := by
      unfold takenB
      simp only [decide_eq_false_iff_not]
      rintro ⟨_, _, i, hi, hx⟩
      exact h2 i n hi (by omega) (by rw [hx, hp])
    have := poolFree_more (ys := xs) (l := n) (xs := xs) hr (by omega) (by omega) hF (fun i hi => rfl) hp
    omega
theorem takenL_get {L : List Ln} {proto : Int} {i : Nat} {p : Int} (h : (takenL L proto)[i]? = some p) : ∃ y, y ∈ L ∧ y.proto = proto ∧ y.port = p := by
  have := List.mem_of_getElem? h
  unfold takenL at this
  obtain ⟨y, hy, rfl⟩ := List.mem_map.1 this
  obtain ⟨h1, h2⟩ := List.mem_filter.1 hy
  exact ⟨y, h1, by simpa using h2, rfl⟩
theorem takenL_ne {lo hi : Int} {L : List Ln} {proto : Int} (h : RightL lo hi L) : (takenL L proto).Pairwise (· ≠ ·) := by
  unfold takenL
  rw [List.pairwise_map]
  have h2 := h.2.filter (fun x => x.proto == proto)
  refine List.Pairwise.imp_of_mem ?_ h2
  intro y x hy hx ⟨h3, _⟩ he
  have hy' := (List.mem_filter.1 hy).2
  have hx' := (List.mem_filter.1 hx).2
  simp only [beq_iff_eq] at hy' hx'
  unfold outerB at h3
  rw [hy', hx', he] at h3
  simp at h3
theorem whoP_unique {lo hi : Int} {L : List Ln} {y : Ln} (h : RightL lo hi L) (hy : y ∈ L) : whoP L y.proto y.port = (y, true) := by
  unfold whoP
  obtain ⟨k, hk⟩ := List.getElem?_of_mem hy
  have hlt := (List.getElem?_eq_some_iff.1 hk).1
  have he : L[k] = y := by rw [List.getElem?_eq_getElem hlt] at hk; simpa using hk
  have hf : L.findIdx? (outerB ⟨y.proto, 0, 0, y.port, 0⟩) = some k := by
    refine findIdx_at (fun j hj z hz => ?_) hk (by simp [outerB])
    have h2 := List.pairwise_iff_getElem.1 h.2 j k (by omega) hlt hj
    have hz' : L[j] = z := by rw [List.getElem?_eq_getElem (by omega)] at hz; simpa using hz
    rw [he, hz'] at h2
    exact h2.1
  rw [hf]
  show ((L[k]?.getD Ln.zero, true) : Ln × Bool) = _
  rw [hk]
  rfl
theorem inner_later (x y : Ln) (t : Int) : innerB x (later t y) = innerB x y ∧ outerB x (later t y) = outerB x y ∧ innerB (later t y) x = innerB y x ∧ outerB (later t y) x = outerB y x := ⟨rfl, rfl, rfl, rfl⟩
theorem right_later {lo hi : Int} {L : List Ln} {k : Nat} {y : Ln} {t : Int} (h : RightL lo hi L) (hy : L[k]? = some y) (ht : withinB t 0 1099511627776 = true) : RightL lo hi (L.set k (later t y)) := by
  have hk := (List.getElem?_eq_some_iff.1 hy).1
  have hye : L[k] = y := by rw [List.getElem?_eq_getElem hk] at hy; simpa using hy
  have hmy := List.mem_of_getElem? hy
  refine ⟨fun z hz => ?_, ?_⟩
  · rcases List.mem_or_eq_of_mem_set hz with hz | rfl
    · exact h.1 z hz
    · obtain ⟨h1, h2⟩ := h.1 y hmy
      refine ⟨?_, h2⟩
      unfold namedB at h1 ⊢
      simp only [Bool.and_eq_true] at h1 ⊢
      refine ⟨h1.1, ?_⟩
      show withinB (if y.till < t then t else y.till) 0 1099511627776 = true
      split
      · exact ht
      · exact h1.2
  · rw [List.pairwise_iff_getElem]
    intro i j hi hj hij
    have hp := List.pairwise_iff_getElem.1 h.2 i j (by simpa using hi) (by simpa using hj) hij
    rw [List.getElem_set, List.getElem_set]
    by_cases h1 : k = i
    · subst h1
      rw [if_pos rfl, if_neg (by omega)]
      rw [hye] at hp
      exact ⟨(inner_later _ _ _).2.1.trans hp.1, (inner_later _ _ _).1.trans hp.2⟩
    · rw [if_neg h1]
      by_cases h2 : k = j
      · subst h2
        rw [if_pos rfl]
        rw [hye] at hp
        exact ⟨(inner_later _ _ _).2.2.2.trans hp.1, (inner_later _ _ _).2.2.1.trans hp.2⟩
      · rw [if_neg h2]
        exact hp
theorem right_snoc {lo hi : Int} {L : List Ln} {x : Ln} (h : RightL lo hi L) (h1 : namedB x = true) (h2 : withinB x.port lo hi = true) (h3 : ∀ y ∈ L, outerB x y = false ∧ innerB x y = false) : RightL lo hi (L ++ [x]) := by
  refine ⟨fun z hz => ?_, ?_⟩
  · rcases List.mem_append.1 hz with hz | hz
    · exact h.1 z hz
    · simp only [List.mem_cons, List.not_mem_nil, or_false] at hz; subst hz; exact ⟨h1, h2⟩
  · rw [List.pairwise_append]
    refine ⟨h.2, by simp, fun y hy z hz => ?_⟩
    simp only [List.mem_cons, List.not_mem_nil, or_false] at hz
    subst hz
    exact h3 y hy
/-- What NatOne asks of an answer. -/
def AskOk (a b : Nat) (L : List Ln) (x : Ln) (R : List Ln × Int × Int) : Prop :=
  natRight a b R.1 = true ∧ R.1.length ≤ L.length + 1 ∧
  ((R.2.2 = 1 ∧ R.1 = L ∧ R.2.1 = 0) ∨
   (R.2.2 = 8 ∧ R.1 = L ∧ R.2.1 = 0 ∧ (whoseP L x.proto x.inn x.inport).2 = false ∧ (takenL L x.proto).length = b + 1 - a) ∨
   (R.2.2 = 0 ∧ ∃ y : Ln, whoP R.1 x.proto R.2.1 = (y, true) ∧ y.inn = x.inn ∧ y.inport = x.inport ∧ x.till ≤ y.till ∧ (a : Int) ≤ R.2.1 ∧ R.2.1 ≤ b ∧ ((whoseP L x.proto x.inn x.inport).2 = false ∨ (R.2.1 = (whoseP L x.proto x.inn x.inport).1.port ∧ (whoseP L x.proto x.inn x.inport).1.till ≤ y.till))))
theorem ask_ok {a b : Nat} {L : List Ln} (x : Ln) (D : Nat) (h : natRight a b L = true) : AskOk a b L x (askP a b L x D) := by
  have hh := natRight_iff.1 h
  obtain ⟨hr, hR⟩ := hh
  have hr2 : 1 ≤ (a : Int) ∧ (a : Int) ≤ b ∧ (b : Int) ≤ 65535 := by simpa [rightB] using hr
  unfold askP
  cases hn : namedB x with
  | false =>
    rw [if_pos (by rw [h]; rfl)]
    exact ⟨h, Nat.le_succ _, .inl ⟨rfl, rfl, rfl⟩⟩
  | true =>
    rw [if_neg (by rw [h]; simp)]
    have ht : withinB x.till 0 1099511627776 = true := by unfold namedB at hn; simp only [Bool.and_eq_true] at hn; exact hn.2
    cases hf : L.findIdx? (innerB x) with
    | some k =>
      have hlt := findIdx_lt k hf
      have hy : L[k]? = some L[k] := List.getElem?_eq_getElem hlt
      simp only [hy]
      generalize L[k] = y at hy
      have hin : innerB x y = true := by
        obtain ⟨hk, hp, _⟩ := List.findIdx?_eq_some_iff_getElem.1 hf
        rw [List.getElem?_eq_getElem hk] at hy
        cases hy
        exact hp
      have hi2 : x.proto = y.proto ∧ x.inn = y.inn ∧ x.inport = y.inport := by
        unfold innerB at hin
        simp only [Bool.and_eq_true, beq_iff_eq] at hin
        exact ⟨hin.1.1, hin.1.2, hin.2⟩
      obtain ⟨i1, i2, i3⟩ := hi2
      have hR2 := right_later (t := x.till) hR hy ht
      have hmem : later x.till y ∈ L.set k (later x.till y) := List.mem_of_getElem? (i := k) (by rw [List.getElem?_set_self hlt])
      have hw := whoP_unique hR2 hmem
      have hwh : whoseP L x.proto x.inn x.inport = (y, true) := by
        unfold whoseP
        rw [show innerB ⟨x.proto, x.inn, x.inport, 0, 0⟩ = innerB x from rfl, hf]
        show ((L[k]?.getD Ln.zero, true) : Ln × Bool) = _
        rw [hy]
        rfl
      have hport := (hR.1 y (List.mem_of_getElem? hy)).2
      have hport2 : (a : Int) ≤ y.port ∧ y.port ≤ b := by simpa [withinB] using hport
      refine ⟨natRight_iff.2 ⟨hr, hR2⟩, by simp, .inr (.inr ⟨rfl, later x.till y, ?_, i2.symm, i3.symm, ?_, hport2.1, hport2.2, .inr ⟨by rw [hwh], ?_⟩⟩)⟩
      · rw [i1]; exact hw
      · show x.till ≤ if y.till < x.till then x.till else y.till
        split <;> omega
      · rw [hwh]
        show y.till ≤ if y.till < x.till then x.till else y.till
        split <;> omega
    | none =>
      have hnone : ∀ y ∈ L, innerB x y = false := fun y hy => List.findIdx?_eq_none_iff.1 hf y hy
      have hwh : (whoseP L x.proto x.inn x.inport).2 = false := by
        unfold whoseP
        rw [show innerB ⟨x.proto, x.inn, x.inport, 0, 0⟩ = innerB x from rfl, hf]
        rfl
      simp only
      cases hok : (poolChoose a b (fun i => (takenL L x.proto)[i]?.getD 0) (takenL L x.proto).length x.inport D).2 with
      | true =>
        rw [if_pos rfl]
        obtain ⟨p, hp1, hp2, hp3, hp4⟩ := choose_free hr hok
        simp only [hp1]
        have hnot : ∀ y ∈ L, outerB ⟨x.proto, x.inn, x.inport, (p : Int), x.till⟩ y = false := by
          intro y hy
          unfold outerB
          simp only [Bool.and_eq_false_iff, beq_eq_false_iff_ne]
          by_cases hpr : x.proto = y.proto
          · right
            intro he
            have hm : y.port ∈ takenL L x.proto := List.mem_map.2 ⟨y, List.mem_filter.2 ⟨hy, by simp [hpr]⟩, rfl⟩
            obtain ⟨i, hi⟩ := List.getElem?_of_mem hm
            have := taken_none hp2 hp3 hp4 i (List.getElem?_eq_some_iff.1 hi).1
            apply this
            simp only [hi]
            exact he.symm
          · exact .inl hpr
        have hR2 : RightL a b (L ++ [⟨x.proto, x.inn, x.inport, (p : Int), x.till⟩]) := right_snoc hR hn (by simp [withinB]; omega) (fun y hy => ⟨hnot y hy, hnone y hy⟩)
        have hw := whoP_unique (y := ⟨x.proto, x.inn, x.inport, (p : Int), x.till⟩) hR2 (by simp)
        exact ⟨natRight_iff.2 ⟨hr, hR2⟩, by simp, .inr (.inr ⟨rfl, _, hw, rfl, rfl, Int.le_refl _, by show (a : Int) ≤ (p : Int); omega, by show (p : Int) ≤ b; omega, .inl hwh⟩)⟩
      | false =>
        rw [if_neg (by simp)]
        refine ⟨h, Nat.le_succ _, .inr (.inl ⟨rfl, rfl, rfl, hwh, ?_⟩)⟩
        have hfree : poolFree a b (fun i => (takenL L x.proto)[i]?.getD 0) (takenL L x.proto).length = 0 := by
          have := choose_ok (D := D) (l := (takenL L x.proto).length) (xs := fun i => (takenL L x.proto)[i]?.getD 0) (wish := x.inport) hr
          rw [hok] at this
          simpa using this.symm
        have hc := poolFree_count (xs := fun i => (takenL L x.proto)[i]?.getD 0) hr (takenL L x.proto).length
          (fun i hi => by
            obtain ⟨y, h1, h2, h3⟩ := takenL_get (List.getElem?_eq_getElem hi)
            have := (hR.1 y h1).2
            simp only [List.getElem?_eq_getElem hi, Option.getD_some]
            rw [← h3]
            simpa [withinB] using this)
          (fun i j hij hj => by
            have := List.pairwise_iff_getElem.1 (takenL_ne (proto := x.proto) hR) i j (by omega) hj hij
            simp only [List.getElem?_eq_getElem hj, List.getElem?_eq_getElem (show i < (takenL L x.proto).length by omega), Option.getD_some]
            exact this)
        show (takenL L x.proto).length = b + 1 - a
        omega
theorem own_none2 {B : Nat} {w : World} {e : TypeId} {size : Nat} {oa : Option Addr} {cap n : Nat} {xs : List Value} (h : Own B w e size oa cap n xs) (hn : oa = none) : n = 0 ∧ cap = 0 := by
  rcases h.form with ⟨_, h1, h2⟩ | ⟨g, cur, h0, _⟩
  · exact ⟨h1, h2⟩
  · rw [hn] at h0; cases h0
theorem tick_right {lo hi : Int} {L : List Ln} (now : Int) (h : natRight lo hi L = true) : natRight lo hi (tickL L now) = true := by
  rw [natRight_iff] at h ⊢
  exact ⟨h.1, fun y hy => h.2.1 y (List.mem_filter.1 hy).1, h.2.2.filter _⟩
end Go.Proofs.Ytambpmbgfjefcaa
