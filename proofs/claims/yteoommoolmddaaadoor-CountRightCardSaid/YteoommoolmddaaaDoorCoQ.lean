/- Plain laws about sums of a count. -/
import Derived.Test.YteoommoolmddaaaDoorCoP
set_option linter.unusedVariables false
set_option maxRecDepth 100000
set_option linter.unusedSimpArgs false
namespace Go.Proofs.YteoommoolmddaaaDoor
open Go.RowKit
/-- Sums over the tallies that are so. -/
def suN (pr : Tl → Bool) : List Tl → Int
  | [] => 0
  | x :: L => (if pr x = true then x.n else 0) + suN pr L
def suB (pr : Tl → Bool) : List Tl → Int
  | [] => 0
  | x :: L => (if pr x = true then x.b else 0) + suB pr L
theorem suN_app (pr : Tl → Bool) : ∀ L M : List Tl, suN pr (L ++ M) = suN pr L + suN pr M
  | [], M => by simp [suN]
  | x :: L, M => by rw [List.cons_append, suN, suN, suN_app pr L M]; omega
theorem suB_app (pr : Tl → Bool) : ∀ L M : List Tl, suB pr (L ++ M) = suB pr L + suB pr M
  | [], M => by simp [suB]
  | x :: L, M => by rw [List.cons_append, suB, suB, suB_app pr L M]; omega
theorem take_one {α : Type} {L : List α} {k : Nat} {x : α} (h : L[k]? = some x) : L.take (k + 1) = L.take k ++ [x] := by
  rw [List.take_add_one, h]; rfl
theorem suN_take {pr : Tl → Bool} {L : List Tl} {k : Nat} {x : Tl} (h : L[k]? = some x) : suN pr (L.take (k + 1)) = suN pr (L.take k) + if pr x = true then x.n else 0 := by
  rw [take_one h, suN_app]; simp [suN]
theorem suB_take {pr : Tl → Bool} {L : List Tl} {k : Nat} {x : Tl} (h : L[k]? = some x) : suB pr (L.take (k + 1)) = suB pr (L.take k) + if pr x = true then x.b else 0 := by
  rw [take_one h, suB_app]; simp [suB]
def w64 (n : Int) : Int := IntKind.i64.wrap n
theorem w64_add (a b : Int) : w64 (w64 a + b) = w64 (a + b) := by unfold w64; rw [IntKind.wrap_i64, IntKind.wrap_i64, IntKind.wrap_i64]; omega
theorem w64_add2 (a b : Int) : w64 (w64 a + w64 b) = w64 (a + b) := by unfold w64; rw [IntKind.wrap_i64, IntKind.wrap_i64, IntKind.wrap_i64, IntKind.wrap_i64]; omega
theorem w64_zero : w64 0 = 0 := by unfold w64; rw [IntKind.wrap_i64]; omega
theorem w64_small {n : Int} (h0 : 0 ≤ n) (h1 : n ≤ 9223372036854775807) : w64 n = n := by unfold w64; rw [IntKind.wrap_i64]; omega
/-- What is of a verdict, and what is not. -/
theorem suN_parts (pr : Tl → Bool) : ∀ L : List Tl, suN pr L + suN (fun _ => true) (L.filter fun x => !pr x) = suN (fun _ => true) L
  | [] => by simp [suN]
  | x :: L => by
    have := suN_parts pr L
    rw [List.filter_cons]
    simp only [suN]
    cases h : pr x with
    | true => simp; omega
    | false => simp [suN]; omega
theorem suB_parts (pr : Tl → Bool) : ∀ L : List Tl, suB pr L + suB (fun _ => true) (L.filter fun x => !pr x) = suB (fun _ => true) L
  | [] => by simp [suB]
  | x :: L => by
    have := suB_parts pr L
    rw [List.filter_cons]
    simp only [suB]
    cases h : pr x with
    | true => simp; omega
    | false => simp [suB]; omega
theorem su_none (pr : Tl → Bool) : ∀ L : List Tl, (∀ x ∈ L, pr x = false) → suN pr L = 0 ∧ suB pr L = 0
  | [], _ => ⟨rfl, rfl⟩
  | x :: L, h => by
    obtain ⟨a, b⟩ := su_none pr L (fun y hy => h y (by simp [hy]))
    rw [suN, suB, h x (by simp), a, b]
    exact ⟨rfl, rfl⟩
/-- Zones below k. -/
theorem zone_step (L : List Tl) (k : Int) : suN (fun x => decide (x.zone < k + 1)) L = suN (fun x => decide (x.zone < k)) L + suN (fun x => x.zone == k) L ∧
    suB (fun x => decide (x.zone < k + 1)) L = suB (fun x => decide (x.zone < k)) L + suB (fun x => x.zone == k) L := by
  induction L with
  | nil => exact ⟨rfl, rfl⟩
  | cons x L ih =>
    simp only [suN, suB, decide_eq_true_eq, beq_iff_eq]
    obtain ⟨a, b⟩ := ih
    constructor
    · rw [a]
      repeat' split
      all_goals omega
    · rw [b]
      repeat' split
      all_goals omega
theorem zone_zero (L : List Tl) (h : ∀ x ∈ L, 0 ≤ x.zone) : suN (fun x => decide (x.zone < 0)) L = 0 ∧ suB (fun x => decide (x.zone < 0)) L = 0 :=
  su_none _ L (fun x hx => by have := h x hx; simp; omega)
theorem zone_all : ∀ (L : List Tl), (∀ x ∈ L, x.zone ≤ 255) → suN (fun x => decide (x.zone < 256)) L = totN L ∧ suB (fun x => decide (x.zone < 256)) L = totB L
  | [], _ => by simp [suN, suB, totN, totB]
  | x :: L, h => by
    obtain ⟨a, b⟩ := zone_all L (fun y hy => h y (by simp [hy]))
    have := h x (by simp)
    simp only [suN, suB, decide_eq_true_eq, totN, totB, List.map_cons, List.sum_cons] at *
    rw [if_pos (by omega), if_pos (by omega), a, b]
    exact ⟨rfl, rfl⟩
theorem su_le {pr : Tl → Bool} : ∀ {L : List Tl}, TlR L → 0 ≤ suN pr L ∧ suN pr L ≤ totN L ∧ 0 ≤ suB pr L ∧ suB pr L ≤ totB L
  | [], _ => by simp [suN, suB, totN, totB]
  | x :: L, h => by
    have hx := ok_n h.1
    have := su_le (pr := pr) h.2.2
    simp only [suN, suB, totN, totB, List.map_cons, List.sum_cons] at *
    split <;> omega
theorem plus_zone {L M : List Tl} {t : Tl} (h : tlPlus L t = some M) (hL : ∀ x ∈ L, 0 ≤ x.zone ∧ x.zone ≤ 255) (ht : 0 ≤ t.zone ∧ t.zone ≤ 255) : ∀ x ∈ M, 0 ≤ x.zone ∧ x.zone ≤ 255 := by
  intro y hy
  rcases plus_mem h y hy with rfl | h | ⟨z, hz, rfl, _⟩
  · exact ht
  · exact hL y h
  · exact hL z hz
theorem fold_zone : ∀ {T L M : List Tl}, tlFold L T = some M → (∀ x ∈ L, 0 ≤ x.zone ∧ x.zone ≤ 255) → (∀ x ∈ T, 0 ≤ x.zone ∧ x.zone ≤ 255) → ∀ x ∈ M, 0 ≤ x.zone ∧ x.zone ≤ 255
  | [], L, M, h, hL, _ => by rw [tlFold] at h; cases h; exact hL
  | t :: T, L, M, h, hL, hT => by
    rw [tlFold] at h
    cases hp : tlPlus L t with
    | none => rw [hp] at h; cases h
    | some N =>
      rw [hp] at h
      exact fold_zone h (plus_zone hp hL (hT t (by simp))) (fun x hx => hT x (by simp [hx]))
/-- Frames, turned by some places. -/
def rot (T : List Tl) (s : Nat) : List Tl := T.drop (s % T.length) ++ T.take (s % T.length)
theorem rot_len (T : List Tl) (s : Nat) : (rot T s).length = T.length := by
  unfold rot
  rw [List.length_append, List.length_drop, List.length_take]
  have : T.length = 0 ∨ s % T.length < T.length := by
    rcases Nat.eq_zero_or_pos T.length with h | h
    · exact .inl h
    · exact .inr (Nat.mod_lt _ h)
  omega
theorem rot_get (T : List Tl) (s i : Nat) (hi : i < T.length) : (rot T s)[i]? = T[(i + s) % T.length]? := by
  have hm : s % T.length < T.length := Nat.mod_lt _ (by omega)
  have e : (i + s) % T.length = (i + s % T.length) % T.length := by rw [Nat.add_mod, Nat.add_mod i (s % T.length), Nat.mod_mod]
  unfold rot
  rw [e]
  generalize s % T.length = m at hm
  by_cases h : i < T.length - m
  · rw [List.getElem?_append_left (by rw [List.length_drop]; exact h), List.getElem?_drop, Nat.mod_eq_of_lt (show i + m < T.length by omega), Nat.add_comm]
  · rw [List.getElem?_append_right (by rw [List.length_drop]; omega), List.length_drop, List.getElem?_take, if_pos (by omega)]
    rw [Nat.mod_eq_sub_mod (by omega), Nat.mod_eq_of_lt (by omega)]
    congr 1
    omega
theorem rot_n (T : List Tl) (s : Nat) (z v : Int) : tlN (rot T s) z v = tlN T z v ∧ tlB (rot T s) z v = tlB T z v := by
  unfold rot
  constructor
  · rw [tlN_app]
    conv => rhs; rw [← List.take_append_drop (s % T.length) T, tlN_app]
    omega
  · rw [tlB_app]
    conv => rhs; rw [← List.take_append_drop (s % T.length) T, tlB_app]
    omega
theorem tot_app (L M : List Tl) : totN (L ++ M) = totN L + totN M ∧ totB (L ++ M) = totB L + totB M := by
  simp [totN, totB, List.sum_append]
theorem rot_tot (T : List Tl) (s : Nat) : totN (rot T s) = totN T ∧ totB (rot T s) = totB T := by
  have h1 := tot_app (T.drop (s % T.length)) (T.take (s % T.length))
  have h2 := tot_app (T.take (s % T.length)) (T.drop (s % T.length))
  rw [List.take_append_drop] at h2
  unfold rot
  omega
theorem rot_mem {T : List Tl} {s : Nat} {x : Tl} (h : x ∈ rot T s) : x ∈ T := by
  unfold rot at h
  rcases List.mem_append.1 h with h | h
  · exact List.mem_of_mem_drop h
  · exact List.mem_of_mem_take h
/-- The law: all, both, other, turned are the same. -/
theorem count_all {T : List Tl} {n c s : Nat} (hT : ∀ t ∈ T, tlOk t = true ∧ 0 ≤ t.zone ∧ t.zone ≤ 255) (hn : totN T = n) (hn2 : n ≤ 200) (hb : totB T ≤ 20000000) :
    ∃ A L R, tlFold [] T = some A ∧ tlFold [] (T.take c) = some L ∧ tlFold [] (T.drop c) = some R ∧ tlFold [] (rot T s) = some A ∧ tlFold L R = some A ∧ tlFold R L = some A ∧ TlR A ∧ TlR L ∧ TlR R ∧ totN A = n ∧ totB A = totB T ∧ (∀ x ∈ A, 0 ≤ x.zone ∧ x.zone ≤ 255) := by
  have ht0 := tot_app (T.take c) (T.drop c)
  rw [List.take_append_drop] at ht0
  have nn : ∀ {T : List Tl}, (∀ t ∈ T, tlOk t = true) → 0 ≤ totN T ∧ 0 ≤ totB T := fun {T} => by
    induction T with
    | nil => intro _; simp [totN, totB]
    | cons z L ih =>
      intro hz
      have := ih (fun t ht => hz t (by simp [ht]))
      have := ok_n (hz z (by simp))
      simp only [totN, totB, List.map_cons, List.sum_cons] at *
      omega
  have p1 := nn (fun t ht => (hT t (List.mem_of_mem_take ht)).1 : ∀ t ∈ T.take c, tlOk t = true)
  have p2 := nn (fun t ht => (hT t (List.mem_of_mem_drop ht)).1 : ∀ t ∈ T.drop c, tlOk t = true)
  have z0 : totN ([] : List Tl) = 0 ∧ totB ([] : List Tl) = 0 := by simp [totN, totB]
  obtain ⟨A, a0, a1, a2, a3, a4, a5⟩ := fold_ok (T := T) (L := []) trivial (fun t ht => (hT t ht).1) (by omega) (by omega)
  obtain ⟨L, l0, l1, l2, l3, l4, l5⟩ := fold_ok (T := T.take c) (L := []) trivial (fun t ht => (hT t (List.mem_of_mem_take ht)).1) (by omega) (by omega)
  obtain ⟨R, r0, r1, r2, r3, r4, r5⟩ := fold_ok (T := T.drop c) (L := []) trivial (fun t ht => (hT t (List.mem_of_mem_drop ht)).1) (by omega) (by omega)
  have hro := rot_tot T s
  obtain ⟨D, d0, d1, d2, d3, d4, d5⟩ := fold_ok (T := rot T s) (L := []) trivial (fun t ht => (hT t (rot_mem ht)).1) (by omega) (by omega)
  obtain ⟨X, x0, x1, x2, x3, x4, x5⟩ := fold_ok (T := R) (L := L) l1 r1.ok (by omega) (by omega)
  obtain ⟨Y, y0, y1, y2, y3, y4, y5⟩ := fold_ok (T := L) (L := R) r1 l1.ok (by omega) (by omega)
  have en : ∀ z v, tlN T z v = tlN (T.take c) z v + tlN (T.drop c) z v := fun z v => by rw [← tlN_app, List.take_append_drop]
  have eb : ∀ z v, tlB T z v = tlB (T.take c) z v + tlB (T.drop c) z v := fun z v => by rw [← tlB_app, List.take_append_drop]
  have eD : D = A := tlr_ext d1 a1 (fun z v => by rw [d2, a2, (rot_n T s z v).1]) (fun z v => by rw [d3, a3, (rot_n T s z v).2])
  have eX : X = A := tlr_ext x1 a1 (fun z v => by rw [x2, a2, l2, r2, en]; simp [tlN]) (fun z v => by rw [x3, a3, l3, r3, eb]; simp [tlB])
  have eY : Y = A := tlr_ext y1 a1 (fun z v => by rw [y2, a2, l2, r2, en]; simp [tlN]; omega) (fun z v => by rw [y3, a3, l3, r3, eb]; simp [tlB]; omega)
  subst eD eX eY
  exact ⟨_, L, R, a0, l0, r0, d0, x0, y0, a1, l1, r1, by omega, by omega, fold_zone a0 (by simp) (fun x hx => (hT x hx).2)⟩
end Go.Proofs.YteoommoolmddaaaDoor
