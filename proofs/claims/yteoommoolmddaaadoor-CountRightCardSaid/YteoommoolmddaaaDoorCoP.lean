/- Plain laws about counts: a tally more; counts are the same whatever the order. -/
import Derived.Test.YteoommoolmddaaaDoorCoA
set_option linter.unusedVariables false
set_option maxRecDepth 100000
set_option linter.unusedSimpArgs false
namespace Go.Proofs.YteoommoolmddaaaDoor
open Go.RowKit
def tlBig (x t : Tl) : Bool := decide (1099511627776 - t.n < x.n) || decide (1099511627776 - t.b < x.b)
def tlSum (x t : Tl) : Tl := ⟨x.zone, x.ver, x.n + t.n, x.b + t.b⟩
/-- A tally more. -/
def tlPlus : List Tl → Tl → Option (List Tl)
  | [], t => some [t]
  | x :: L, t => if tlLess x t = true then (tlPlus L t).map (x :: ·) else if tlLess t x = true then some (t :: x :: L) else if tlBig x t = true then none else some (tlSum x t :: L)
/-- Where a tally stands, or would. -/
structure TlPos (L : List Tl) (t : Tl) (k : Nat) : Prop where
  le : k ≤ L.length
  lo : ∀ m, m < k → ∀ x, L[m]? = some x → tlLess x t = true
  hi : ∀ m, k ≤ m → ∀ x, L[m]? = some x → tlLess x t = false
theorem TlPos.tail {x : Tl} {L : List Tl} {t : Tl} {k : Nat} (h : TlPos (x :: L) t (k + 1)) : TlPos L t k :=
  ⟨by have := h.le; simp at this; omega, fun m hm y hy => h.lo (m + 1) (by omega) y (by simpa using hy), fun m hm y hy => h.hi (m + 1) (by omega) y (by simpa using hy)⟩
theorem plus_end : ∀ {L : List Tl} {t : Tl}, TlPos L t L.length → tlPlus L t = some (L ++ [t])
  | [], t, _ => rfl
  | x :: L, t, h => by
    rw [tlPlus, if_pos (h.lo 0 (by simp) x rfl), plus_end h.tail]
    rfl
theorem plus_in : ∀ {L : List Tl} {t x : Tl} {k : Nat}, TlPos L t k → L[k]? = some x → tlLess t x = true → tlPlus L t = some (L.take k ++ t :: L.drop k)
  | [], t, x, k, _, hx, _ => by simp at hx
  | y :: L, t, x, 0, h, hx, hl => by
    simp only [List.getElem?_cons_zero, Option.some.injEq] at hx
    subst hx
    rw [tlPlus, if_neg (by rw [h.hi 0 (by omega) y rfl]; decide), if_pos hl]
    rfl
  | y :: L, t, x, k + 1, h, hx, hl => by
    rw [tlPlus, if_pos (h.lo 0 (by omega) y rfl), plus_in h.tail (by simpa using hx) hl]
    rfl
theorem plus_big : ∀ {L : List Tl} {t x : Tl} {k : Nat}, TlPos L t k → L[k]? = some x → tlLess t x = false → tlBig x t = true → tlPlus L t = none
  | [], t, x, k, _, hx, _, _ => by simp at hx
  | y :: L, t, x, 0, h, hx, hl, hb => by
    simp only [List.getElem?_cons_zero, Option.some.injEq] at hx
    subst hx
    rw [tlPlus, if_neg (by rw [h.hi 0 (by omega) y rfl]; decide), if_neg (by rw [hl]; decide), if_pos hb]
  | y :: L, t, x, k + 1, h, hx, hl, hb => by
    rw [tlPlus, if_pos (h.lo 0 (by omega) y rfl), plus_big h.tail (by simpa using hx) hl hb]
    rfl
theorem plus_set : ∀ {L : List Tl} {t x : Tl} {k : Nat}, TlPos L t k → L[k]? = some x → tlLess t x = false → tlBig x t = false → tlPlus L t = some (L.set k (tlSum x t))
  | [], t, x, k, _, hx, _, _ => by simp at hx
  | y :: L, t, x, 0, h, hx, hl, hb => by
    simp only [List.getElem?_cons_zero, Option.some.injEq] at hx
    subst hx
    rw [tlPlus, if_neg (by rw [h.hi 0 (by omega) y rfl]; decide), if_neg (by rw [hl]; decide), if_neg (by rw [hb]; decide)]
    rfl
  | y :: L, t, x, k + 1, h, hx, hl, hb => by
    rw [tlPlus, if_pos (h.lo 0 (by omega) y rfl), plus_set h.tail (by simpa using hx) hl hb]
    rfl
theorem same_key {a b : Tl} (h1 : tlLess a b = false) (h2 : tlLess b a = false) : a.zone = b.zone ∧ a.ver = b.ver := by
  unfold tlLess at h1 h2
  rw [decide_eq_false_iff_not] at h1 h2
  omega
/-- Order and bounds, by recursion. -/
def TlR : List Tl → Prop
  | [] => True
  | x :: L => tlOk x = true ∧ (∀ y ∈ L, tlLess x y = true) ∧ TlR L
theorem tlr_of : ∀ {L : List Tl}, (∀ x ∈ L, tlOk x = true) → TlSorted L → TlR L
  | [], _, _ => trivial
  | x :: L, h1, h2 => ⟨h1 x (by simp), fun y hy => by
      obtain ⟨j, hj, rfl⟩ := List.getElem_of_mem hy
      exact h2 0 (j + 1) x _ (by omega) rfl (by simp [hj]), tlr_of (fun y hy => h1 y (by simp [hy])) (fun i j a b hij ha hb => h2 (i + 1) (j + 1) a b (by omega) (by simpa using ha) (by simpa using hb))⟩
theorem TlR.ok : ∀ {L : List Tl}, TlR L → ∀ x ∈ L, tlOk x = true
  | [], _, x, hx => by simp at hx
  | y :: L, h, x, hx => by
    rcases List.mem_cons.1 hx with rfl | hx
    · exact h.1
    · exact h.2.2.ok x hx
theorem TlR.sorted : ∀ {L : List Tl}, TlR L → TlSorted L
  | [], _ => fun i j x y _ hx _ => by simp at hx
  | z :: L, h => fun i j x y hij hx hy => by
    rcases i with _ | i
    · rcases j with _ | j
      · omega
      · simp only [List.getElem?_cons_zero, Option.some.injEq] at hx
        subst hx
        exact h.2.1 y (List.mem_of_getElem? (by simpa using hy))
    · rcases j with _ | j
      · omega
      · exact h.2.2.sorted i j x y (by omega) (by simpa using hx) (by simpa using hy)
theorem right_tlr {L : List Tl} : tlRight L = true ↔ TlR L := by
  constructor
  · intro h
    refine tlr_of (fun x hx => ?_) (sorted_of h)
    unfold tlRight at h
    rw [decide_eq_true_eq] at h
    obtain ⟨j, hj, rfl⟩ := List.getElem_of_mem hx
    exact (h j hj _ (List.getElem?_eq_getElem hj)).1
  · intro h
    unfold tlRight
    rw [decide_eq_true_eq]
    intro i hi x hx
    exact ⟨h.ok x (List.mem_of_getElem? hx), fun h0 y hy => h.sorted (i - 1) i y x (by omega) hy hx⟩
theorem plus_mem : ∀ {L M : List Tl} {t : Tl}, tlPlus L t = some M → ∀ y ∈ M, y = t ∨ y ∈ L ∨ ∃ x ∈ L, y = tlSum x t ∧ tlLess x t = false ∧ tlLess t x = false ∧ tlBig x t = false
  | [], M, t, h, y, hy => by
    rw [tlPlus] at h
    cases h
    simp at hy
    exact .inl hy
  | x :: L, M, t, h, y, hy => by
    rw [tlPlus] at h
    split at h
    · rename_i c1
      cases hp : tlPlus L t with
      | none => rw [hp] at h; cases h
      | some N =>
        rw [hp] at h
        cases h
        rcases List.mem_cons.1 hy with rfl | hy
        · exact .inr (.inl (by simp))
        · rcases plus_mem hp y hy with h | h | ⟨z, hz, h⟩
          · exact .inl h
          · exact .inr (.inl (by simp [h]))
          · exact .inr (.inr ⟨z, by simp [hz], h⟩)
    · rename_i c1
      split at h
      · cases h
        rcases List.mem_cons.1 hy with rfl | hy
        · exact .inl rfl
        · exact .inr (.inl hy)
      · rename_i c2
        split at h
        · cases h
        · rename_i c3
          cases h
          rcases List.mem_cons.1 hy with rfl | hy
          · exact .inr (.inr ⟨x, by simp, rfl, by simpa using c1, by simpa using c2, by simpa using c3⟩)
          · exact .inr (.inl (by simp [hy]))
theorem sum_ok {x t : Tl} (hx : tlOk x = true) (ht : tlOk t = true) (hb : tlBig x t = false) : tlOk (tlSum x t) = true := by
  simp only [tlOk, tlBig, Bool.and_eq_true, Bool.or_eq_false_iff, decide_eq_true_eq, decide_eq_false_iff_not] at hx ht hb
  show (decide (1 ≤ x.n + t.n) && decide (x.n + t.n ≤ 1099511627776) && decide (0 ≤ x.b + t.b) && decide (x.b + t.b ≤ 1099511627776)) = true
  simp only [Bool.and_eq_true, decide_eq_true_eq]
  omega
theorem less_congr {a b c : Tl} (h : a.zone = b.zone ∧ a.ver = b.ver) : tlLess a c = tlLess b c := by unfold tlLess; rw [h.1, h.2]
theorem less_congr2 {a b c : Tl} (h : a.zone = b.zone ∧ a.ver = b.ver) : tlLess c a = tlLess c b := by unfold tlLess; rw [h.1, h.2]
/-- A right count with a tally more is right. -/
theorem plus_right : ∀ {L M : List Tl} {t : Tl}, TlR L → tlOk t = true → tlPlus L t = some M → TlR M
  | [], M, t, _, ht, h => by
    rw [tlPlus] at h
    cases h
    exact ⟨ht, by simp, trivial⟩
  | x :: L, M, t, hR, ht, h => by
    obtain ⟨hx, hs, hR⟩ := hR
    rw [tlPlus] at h
    split at h
    · rename_i c1
      cases hp : tlPlus L t with
      | none => rw [hp] at h; cases h
      | some N =>
        rw [hp] at h
        cases h
        refine ⟨hx, fun y hy => ?_, plus_right hR ht hp⟩
        rcases plus_mem hp y hy with rfl | h | ⟨z, hz, rfl, _⟩
        · exact c1
        · exact hs y h
        · rw [show tlLess x (tlSum z t) = tlLess x z from less_congr2 ⟨rfl, rfl⟩]; exact hs z hz
    · rename_i c1
      split at h
      · rename_i c2
        cases h
        refine ⟨ht, fun y hy => ?_, hx, hs, hR⟩
        rcases List.mem_cons.1 hy with rfl | hy
        · exact c2
        · exact tlLess_trans c2 (hs y hy)
      · rename_i c2
        split at h
        · cases h
        · rename_i c3
          cases h
          exact ⟨sum_ok hx ht (by simpa using c3), fun y hy => by rw [show tlLess (tlSum x t) y = tlLess x y from less_congr ⟨rfl, rfl⟩]; exact hs y hy, hR⟩
/-! ### What a count says of a key. -/
def tlN : List Tl → Int → Int → Int
  | [], _, _ => 0
  | x :: L, z, v => (if x.zone = z ∧ x.ver = v then x.n else 0) + tlN L z v
def tlB : List Tl → Int → Int → Int
  | [], _, _ => 0
  | x :: L, z, v => (if x.zone = z ∧ x.ver = v then x.b else 0) + tlB L z v
theorem plus_n : ∀ {L M : List Tl} {t : Tl}, tlPlus L t = some M → ∀ z v, tlN M z v = tlN L z v + if t.zone = z ∧ t.ver = v then t.n else 0
  | [], M, t, h, z, v => by
    rw [tlPlus] at h
    cases h
    simp [tlN]
  | x :: L, M, t, h, z, v => by
    rw [tlPlus] at h
    split at h
    · cases hp : tlPlus L t with
      | none => rw [hp] at h; cases h
      | some N =>
        rw [hp] at h
        cases h
        have := plus_n hp z v
        simp only [tlN]
        rw [this]
        omega
    · rename_i c1
      split at h
      · cases h
        simp only [tlN]
        omega
      · rename_i c2
        split at h
        · cases h
        · cases h
          obtain ⟨k1, k2⟩ := same_key (by simpa using c1) (by simpa using c2)
          have e : (t.zone = z ∧ t.ver = v) ↔ (x.zone = z ∧ x.ver = v) := by rw [k1, k2]
          show (if x.zone = z ∧ x.ver = v then x.n + t.n else 0) + tlN L z v = ((if x.zone = z ∧ x.ver = v then x.n else 0) + tlN L z v) + _
          by_cases h : x.zone = z ∧ x.ver = v
          · rw [if_pos h, if_pos h, if_pos (e.2 h)]; omega
          · rw [if_neg h, if_neg h, if_neg (fun hc => h (e.1 hc))]; omega
theorem plus_b : ∀ {L M : List Tl} {t : Tl}, tlPlus L t = some M → ∀ z v, tlB M z v = tlB L z v + if t.zone = z ∧ t.ver = v then t.b else 0
  | [], M, t, h, z, v => by
    rw [tlPlus] at h
    cases h
    simp [tlB]
  | x :: L, M, t, h, z, v => by
    rw [tlPlus] at h
    split at h
    · cases hp : tlPlus L t with
      | none => rw [hp] at h; cases h
      | some N =>
        rw [hp] at h
        cases h
        have := plus_b hp z v
        simp only [tlB]
        rw [this]
        omega
    · rename_i c1
      split at h
      · cases h
        simp only [tlB]
        omega
      · rename_i c2
        split at h
        · cases h
        · cases h
          obtain ⟨k1, k2⟩ := same_key (by simpa using c1) (by simpa using c2)
          have e : (t.zone = z ∧ t.ver = v) ↔ (x.zone = z ∧ x.ver = v) := by rw [k1, k2]
          show (if x.zone = z ∧ x.ver = v then x.b + t.b else 0) + tlB L z v = ((if x.zone = z ∧ x.ver = v then x.b else 0) + tlB L z v) + _
          by_cases h : x.zone = z ∧ x.ver = v
          · rw [if_pos h, if_pos h, if_pos (e.2 h)]; omega
          · rw [if_neg h, if_neg h, if_neg (fun hc => h (e.1 hc))]; omega
theorem tlN_none : ∀ {L : List Tl} {z v : Int}, (∀ y ∈ L, ¬ (y.zone = z ∧ y.ver = v)) → tlN L z v = 0
  | [], _, _, _ => rfl
  | x :: L, z, v, h => by rw [tlN, if_neg (h x (by simp)), tlN_none (fun y hy => h y (by simp [hy]))]; rfl
theorem tlB_none : ∀ {L : List Tl} {z v : Int}, (∀ y ∈ L, ¬ (y.zone = z ∧ y.ver = v)) → tlB L z v = 0
  | [], _, _, _ => rfl
  | x :: L, z, v, h => by rw [tlB, if_neg (h x (by simp)), tlB_none (fun y hy => h y (by simp [hy]))]; rfl
theorem ok_n {x : Tl} (h : tlOk x = true) : 1 ≤ x.n ∧ x.n ≤ 1099511627776 ∧ 0 ≤ x.b ∧ x.b ≤ 1099511627776 := by
  simp only [tlOk, Bool.and_eq_true, decide_eq_true_eq] at h
  omega
theorem less_key {a b : Tl} (h : tlLess a b = true) : ¬ (b.zone = a.zone ∧ b.ver = a.ver) := by
  unfold tlLess at h
  rw [decide_eq_true_eq] at h
  omega
/-- A right count is told by what it says of the keys. -/
theorem tlr_ext : ∀ {L M : List Tl}, TlR L → TlR M → (∀ z v, tlN L z v = tlN M z v) → (∀ z v, tlB L z v = tlB M z v) → L = M
  | [], [], _, _, _, _ => rfl
  | [], y :: M, _, hM, hn, _ => by
    have := hn y.zone y.ver
    have h1 := ok_n hM.1
    rw [tlN, tlN, if_pos ⟨rfl, rfl⟩, tlN_none (fun z hz => less_key (hM.2.1 z hz))] at this
    omega
  | x :: L, [], hL, _, hn, _ => by
    have := hn x.zone x.ver
    have h1 := ok_n hL.1
    rw [tlN, tlN, if_pos ⟨rfl, rfl⟩, tlN_none (fun z hz => less_key (hL.2.1 z hz))] at this
    omega
  | x :: L, y :: M, hL, hM, hn, hb => by
    have lx := ok_n hL.1
    have ly := ok_n hM.1
    have nx : tlN (x :: L) x.zone x.ver = x.n := by rw [tlN, if_pos ⟨rfl, rfl⟩, tlN_none (fun z hz => less_key (hL.2.1 z hz))]; omega
    have ny : tlN (y :: M) y.zone y.ver = y.n := by rw [tlN, if_pos ⟨rfl, rfl⟩, tlN_none (fun z hz => less_key (hM.2.1 z hz))]; omega
    have h1 : tlLess x y = false := by
      cases hc : tlLess x y with
      | false => rfl
      | true =>
        exfalso
        have := hn x.zone x.ver
        rw [nx, tlN, if_neg (less_key hc), tlN_none (fun z hz => less_key (tlLess_trans hc (hM.2.1 z hz)))] at this
        omega
    have h2 : tlLess y x = false := by
      cases hc : tlLess y x with
      | false => rfl
      | true =>
        exfalso
        have := hn y.zone y.ver
        rw [ny, tlN, if_neg (less_key hc), tlN_none (fun z hz => less_key (tlLess_trans hc (hL.2.1 z hz)))] at this
        omega
    obtain ⟨k1, k2⟩ := same_key h1 h2
    have bx : tlB (x :: L) x.zone x.ver = x.b := by rw [tlB, if_pos ⟨rfl, rfl⟩, tlB_none (fun z hz => less_key (hL.2.1 z hz))]; omega
    have by' : tlB (y :: M) y.zone y.ver = y.b := by rw [tlB, if_pos ⟨rfl, rfl⟩, tlB_none (fun z hz => less_key (hM.2.1 z hz))]; omega
    have en : x.n = y.n := by rw [← nx, ← ny, ← k1, ← k2]; exact hn _ _
    have eb : x.b = y.b := by rw [← bx, ← by', ← k1, ← k2]; exact hb _ _
    have exy : x = y := by
      obtain ⟨_, _, _, _⟩ := x
      obtain ⟨_, _, _, _⟩ := y
      simp only at k1 k2 en eb
      subst k1 k2 en eb
      rfl
    subst exy
    rw [tlr_ext hL.2.2 hM.2.2 (fun z v => by have := hn z v; simp only [tlN] at this; omega) (fun z v => by have := hb z v; simp only [tlB] at this; omega)]
/-! ### All together. -/
def totN (L : List Tl) : Int := (L.map (·.n)).sum
def totB (L : List Tl) : Int := (L.map (·.b)).sum
theorem plus_tot : ∀ {L M : List Tl} {t : Tl}, tlPlus L t = some M → totN M = totN L + t.n ∧ totB M = totB L + t.b
  | [], M, t, h => by
    rw [tlPlus] at h
    cases h
    simp [totN, totB]
  | x :: L, M, t, h => by
    rw [tlPlus] at h
    split at h
    · cases hp : tlPlus L t with
      | none => rw [hp] at h; cases h
      | some N =>
        rw [hp] at h
        cases h
        have := plus_tot hp
        simp only [totN, totB, List.map_cons, List.sum_cons] at this ⊢
        omega
    · split at h
      · cases h
        simp only [totN, totB, List.map_cons, List.sum_cons]
        omega
      · split at h
        · cases h
        · cases h
          simp only [totN, totB, List.map_cons, List.sum_cons, tlSum]
          omega
theorem tot_le : ∀ {L : List Tl}, TlR L → ∀ x ∈ L, x.n ≤ totN L ∧ x.b ≤ totB L
  | [], _, x, hx => by simp at hx
  | y :: L, h, x, hx => by
    have h0 : ∀ {L : List Tl}, TlR L → 0 ≤ totN L ∧ 0 ≤ totB L := fun {L} => by
      induction L with
      | nil => intro _; simp [totN, totB]
      | cons z L ih =>
        intro hz
        have := ih hz.2.2
        have := ok_n hz.1
        simp only [totN, totB, List.map_cons, List.sum_cons] at *
        omega
    have hl := h0 h.2.2
    have hy := ok_n h.1
    simp only [totN, totB, List.map_cons, List.sum_cons] at hl ⊢
    rcases List.mem_cons.1 hx with rfl | hx
    · omega
    · have := tot_le h.2.2 x hx
      simp only [totN, totB] at this
      omega
theorem plus_some : ∀ {L : List Tl} {t : Tl}, (∀ x ∈ L, x.n + t.n ≤ 1099511627776 ∧ x.b + t.b ≤ 1099511627776) → ∃ M, tlPlus L t = some M
  | [], t, _ => ⟨_, rfl⟩
  | x :: L, t, h => by
    rw [tlPlus]
    split
    · obtain ⟨M, hM⟩ := plus_some (L := L) (t := t) (fun y hy => h y (by simp [hy]))
      rw [hM]
      exact ⟨_, rfl⟩
    · split
      · exact ⟨_, rfl⟩
      · have hb : tlBig x t = false := by
          have := h x (by simp)
          simp only [tlBig, Bool.or_eq_false_iff, decide_eq_false_iff_not]
          omega
        rw [if_neg (by rw [hb]; decide)]
        exact ⟨_, rfl⟩
/-- Many tallies more. -/
def tlFold : List Tl → List Tl → Option (List Tl)
  | L, [] => some L
  | L, t :: T => (tlPlus L t).bind fun M => tlFold M T
theorem fold_ok : ∀ {T L : List Tl}, TlR L → (∀ t ∈ T, tlOk t = true) → totN L + totN T ≤ 1099511627776 → totB L + totB T ≤ 1099511627776 →
    ∃ M, tlFold L T = some M ∧ TlR M ∧ (∀ z v, tlN M z v = tlN L z v + tlN T z v) ∧ (∀ z v, tlB M z v = tlB L z v + tlB T z v) ∧ totN M = totN L + totN T ∧ totB M = totB L + totB T
  | [], L, hL, _, _, _ => ⟨L, rfl, hL, fun z v => by simp [tlN], fun z v => by simp [tlB], by simp [totN], by simp [totB]⟩
  | t :: T, L, hL, hT, hn, hb => by
    have ht := ok_n (hT t (by simp))
    have h0 : ∀ {T : List Tl}, (∀ t ∈ T, tlOk t = true) → 0 ≤ totN T ∧ 0 ≤ totB T := fun {T} => by
      induction T with
      | nil => intro _; simp [totN, totB]
      | cons z L ih =>
        intro hz
        have := ih (fun t ht => hz t (by simp [ht]))
        have := ok_n (hz z (by simp))
        simp only [totN, totB, List.map_cons, List.sum_cons] at *
        omega
    have hT0 := h0 (fun t ht => hT t (by simp [ht]) : ∀ t ∈ T, tlOk t = true)
    have e1 : totN (t :: T) = t.n + totN T := by simp [totN]
    have e2 : totB (t :: T) = t.b + totB T := by simp [totB]
    obtain ⟨M, hM⟩ := plus_some (L := L) (t := t) (fun x hx => by have := tot_le hL x hx; omega)
    have hMR := plus_right hL (hT t (by simp)) hM
    obtain ⟨q1, q2⟩ := plus_tot hM
    obtain ⟨Z, z0, z1, z2, z3, z4, z5⟩ := fold_ok (T := T) (L := M) hMR (fun t ht => hT t (by simp [ht])) (by omega) (by omega)
    refine ⟨Z, by rw [tlFold, hM]; exact z0, z1, fun z v => ?_, fun z v => ?_, by omega, by omega⟩
    · rw [z2, plus_n hM]
      simp only [tlN]
      omega
    · rw [z3, plus_b hM]
      simp only [tlB]
      omega
theorem fold_app : ∀ {T U L M : List Tl}, tlFold L T = some M → tlFold L (T ++ U) = tlFold M U
  | [], U, L, M, h => by rw [tlFold] at h; cases h; rfl
  | t :: T, U, L, M, h => by
    rw [tlFold] at h
    rw [List.cons_append, tlFold]
    cases hp : tlPlus L t with
    | none => rw [hp] at h; cases h
    | some N =>
      rw [hp] at h
      exact fold_app h
theorem tlN_app : ∀ (L M : List Tl) (z v : Int), tlN (L ++ M) z v = tlN L z v + tlN M z v
  | [], M, z, v => by simp [tlN]
  | x :: L, M, z, v => by rw [List.cons_append, tlN, tlN, tlN_app]; omega
theorem tlB_app : ∀ (L M : List Tl) (z v : Int), tlB (L ++ M) z v = tlB L z v + tlB M z v
  | [], M, z, v => by simp [tlB]
  | x :: L, M, z, v => by rw [List.cons_append, tlB, tlB, tlB_app]; omega
end Go.Proofs.YteoommoolmddaaaDoor
