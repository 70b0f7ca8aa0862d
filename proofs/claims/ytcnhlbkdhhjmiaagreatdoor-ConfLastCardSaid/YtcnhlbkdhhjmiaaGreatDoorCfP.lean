/- Texts that are cut at a byte, words between blanks, numbers read back: plain laws, of no program. -/
import Derived.Lib.SplitLaws
import Derived.Lib.Split
import Derived.Lib.FieldsP
import Derived.Lib.IndexBytes
import Derived.Lib.IndexLaws
import Derived.Lib.CountLaws
import Derived.Lib.ParseIntB
import Derived.Lib.ItoaMem
import Derived.Lib.ItoaLen
import Derived.Laws.RangeString
set_option linter.unusedVariables false
set_option maxRecDepth 100000
set_option linter.unusedSimpArgs false
namespace Go.Proofs.YtcnhlbkdhhjmiaaGreatDoor
open Go Go.Lib
/-- A text cut at each c. -/
def cutsL (c : UInt8) : List UInt8 → List UInt8 → List (List UInt8)
  | acc, [] => [acc]
  | acc, b :: r => if b = c then acc :: cutsL c [] r else cutsL c (acc ++ [b]) r
theorem cutsL_none (c : UInt8) : ∀ (l acc : List UInt8), c ∉ l → cutsL c acc l = [acc ++ l]
  | [], acc, _ => by simp [cutsL]
  | b :: r, acc, h => by
    have hb : b ≠ c := fun e => h (by simp [e])
    rw [cutsL, if_neg hb, cutsL_none c r _ (fun e => h (by simp [e]))]
    simp
theorem cutsL_some (c : UInt8) : ∀ (l acc r : List UInt8), c ∉ l → cutsL c acc (l ++ c :: r) = (acc ++ l) :: cutsL c [] r
  | [], acc, r, _ => by simp [cutsL]
  | b :: l, acc, r, h => by
    have hb : b ≠ c := fun e => h (by simp [e])
    rw [List.cons_append, cutsL, if_neg hb, cutsL_some c l _ r (fun e => h (by simp [e]))]
    simp
theorem index_absent {l : List UInt8} {c : UInt8} (h : index l [c] = -1) : c ∉ l := by
  rw [index_one] at h
  intro hm
  obtain ⟨k, hk⟩ := List.mem_iff_getElem?.1 hm
  exact indexByte_none h k hk
theorem index_at {l : List UInt8} {c : UInt8} {o : Nat} (h : index l [c] = o) : c ∉ l.take o ∧ l = l.take o ++ c :: l.drop (o + 1) := by
  rw [index_one] at h
  obtain ⟨h1, h2⟩ := indexByte_some h
  constructor
  · intro hm
    obtain ⟨k, hk⟩ := List.mem_iff_getElem?.1 hm
    have hko : k < o := by
      have := (List.getElem?_eq_some_iff.1 hk).1
      rw [List.length_take] at this
      omega
    rw [List.getElem?_take_of_lt hko] at hk
    exact h2 k hko hk
  · have hlt := (List.getElem?_eq_some_iff.1 h1).1
    have hc : l[o] = c := (List.getElem?_eq_some_iff.1 h1).2
    conv => lhs; rw [← List.take_append_drop o l]
    rw [List.drop_eq_getElem_cons hlt, hc]
theorem index_ge (l : List UInt8) (c : UInt8) : index l [c] = -1 ∨ ∃ o : Nat, index l [c] = o := by
  rw [index_one]
  have := indexByte_ge l c
  by_cases h : indexByte l c = -1
  · exact .inl h
  · exact .inr ⟨(indexByte l c).toNat, by omega⟩
theorem splitK_one (c : UInt8) : ∀ (k : Nat) (s : List UInt8), s.count c ≤ k → splitK [c] 0 k s = cutsL c [] s
  | 0, s, h => by
    rw [cutsL_none c s [] (by intro hm; have := List.count_pos_iff.2 hm; omega)]
    rfl
  | k + 1, s, h => by
    rcases index_ge s c with hi | ⟨o, hi⟩
    · rw [splitK, if_pos (by rw [hi]; decide), cutsL_none c s [] (index_absent hi)]
      rfl
    · obtain ⟨h1, h2⟩ := index_at hi
      have ho : (Int.ofNat o).toNat = o := rfl
      rw [splitK, if_neg (by rw [hi]; intro e; have := beq_iff_eq.1 e; omega), hi, show ((o : Int)).toNat = o from rfl, Nat.add_zero, List.length_singleton]
      conv => rhs; rw [h2, cutsL_some c _ _ _ h1, List.nil_append]
      rw [splitK_one c k]
      have h3 := congrArg (List.count c) h2
      rw [List.count_append, List.count_cons_self, List.count_eq_zero.2 h1] at h3
      omega
theorem splitB_one (c : UInt8) (s : ByteArray) : (splitB ⟨#[c]⟩ 0 (countB s ⟨#[c]⟩) s).map (·.data.toList) = cutsL c [] s.data.toList := by
  rw [splitB_data]
  exact splitK_one c _ _ (by show _ ≤ count _ [c]; rw [count_one]; exact Nat.le_refl _)
/-- The words of a text, blanks between them. -/
def wdsL : List UInt8 → List UInt8 → List (List UInt8)
  | acc, [] => if acc = [] then [] else [acc]
  | acc, b :: r => if b = 32 then (if acc = [] then wdsL [] r else acc :: wdsL [] r) else wdsL (acc ++ [b]) r
theorem wdsL_end : ∀ (l acc : List UInt8), (32 : UInt8) ∉ l → acc ++ l ≠ [] → wdsL acc l = [acc ++ l]
  | [], acc, _, h => by rw [List.append_nil] at h ⊢; simp [wdsL, h]
  | b :: r, acc, hm, h => by
    have hb : b ≠ 32 := fun e => hm (by simp [e])
    rw [wdsL, if_neg hb, wdsL_end r _ (fun e => hm (by simp [e])) (by simp)]
    simp
theorem wdsL_step : ∀ (l acc r : List UInt8), (32 : UInt8) ∉ l → acc ++ l ≠ [] → wdsL acc (l ++ 32 :: r) = (acc ++ l) :: wdsL [] r
  | [], acc, r, _, h => by rw [List.append_nil] at h ⊢; simp [wdsL, h]
  | b :: l, acc, r, hm, h => by
    have hb : b ≠ 32 := fun e => hm (by simp [e])
    rw [List.cons_append, wdsL, if_neg hb, wdsL_step l _ r (fun e => hm (by simp [e])) (by simp)]
    simp
theorem wdsL_blank (r : List UInt8) : wdsL [] (32 :: r) = wdsL [] r := by simp [wdsL]
/-- Is a sign a blank? -/
def blankP : Nat → Bool := fun r => decide (r = 32)
def Ascii (s : ByteArray) : Prop := ∀ b ∈ s.data.toList, b.toNat < 128
theorem ext_list (s : ByteArray) (a b : Nat) : (s.extract a b).data.toList = (s.data.toList.drop a).take (b - a) := by
  rw [extract_data, List.take_drop]
theorem spans_words (s : ByteArray) (ha : Ascii s) : ∀ (f pos : Nat) (st : Option Nat) (acc : List (Nat × Nat)), s.size ≤ pos + f → pos ≤ s.size → (∀ a, st = some a → a < pos) →
    (closeSpans s (spansFromP blankP s f pos st acc)).map (fun x => (s.extract x.1 x.2).data.toList) =
      acc.map (fun x => (s.extract x.1 x.2).data.toList) ++ wdsL (match st with | some a => (s.extract a pos).data.toList | none => []) (s.data.toList.drop pos) := by
  have hsz : s.data.toList.length = s.size := by simp
  have hne : ∀ a b, a < b → b ≤ s.size → (s.extract a b).data.toList ≠ [] := fun a b h1 h2 e => by
    have := congrArg List.length e
    rw [ext_list, List.length_take, List.length_drop, hsz, List.length_nil] at this
    omega
  intro f
  induction f with
  | zero =>
    intro pos st acc h1 h2 h3
    have hp : pos = s.size := by omega
    subst hp
    rw [List.drop_eq_nil_of_le (by rw [hsz]; exact Nat.le_refl _)]
    cases st with
    | none => simp [spansFromP, closeSpans, wdsL]
    | some a => have := h3 a rfl; simp [spansFromP, closeSpans, wdsL]; omega
  | succ f ih =>
    intro pos st acc h1 h2 h3
    by_cases hlt : pos < s.size
    · have hb : (s[pos]'hlt).toNat < 128 := ha _ (by
        have : s[pos]'hlt = s.data.toList[pos]'(by rw [hsz]; exact hlt) := by simp [ByteArray.getElem_eq_getElem_data]
        rw [this]; exact List.getElem_mem _)
      have hd := decode_ascii s pos hlt hb
      have hdrop : s.data.toList.drop pos = (s[pos]'hlt) :: s.data.toList.drop (pos + 1) := by
        rw [List.drop_eq_getElem_cons (by rw [hsz]; exact hlt)]
        simp [ByteArray.getElem_eq_getElem_data]
      have hs : spansFromP blankP s (f + 1) pos st acc = (if blankP ((s[pos]'hlt).toNat) then (match st with | some a => spansFromP blankP s f (pos + 1) none (acc ++ [(a, pos)]) | none => spansFromP blankP s f (pos + 1) none acc) else (match st with | some a => spansFromP blankP s f (pos + 1) (some a) acc | none => spansFromP blankP s f (pos + 1) (some pos) acc)) := by
        conv => lhs; unfold spansFromP
        rw [if_pos hlt, hd]
        cases st <;> rfl
      rw [hs, hdrop]
      by_cases hc : (s[pos]'hlt) = 32
      · have hp : blankP ((s[pos]'hlt).toNat) = true := by rw [hc]; rfl
        rw [if_pos hp]
        cases st with
        | none =>
          show List.map _ (closeSpans s (spansFromP blankP s f (pos + 1) none acc)) = _
          rw [ih (pos + 1) none acc (by omega) hlt (fun a h => by cases h)]
          simp [wdsL, hc]
        | some a =>
          show List.map _ (closeSpans s (spansFromP blankP s f (pos + 1) none (acc ++ [(a, pos)]))) = _
          rw [ih (pos + 1) none _ (by omega) hlt (fun a h => by cases h)]
          have := h3 a rfl
          simp [wdsL, hc]
          omega
      · have hp : ¬ blankP ((s[pos]'hlt).toNat) = true := by
          unfold blankP
          rw [decide_eq_true_eq]
          intro e
          exact hc (UInt8.toNat_inj.1 e)
        rw [if_neg hp]
        have hext : ∀ a, a ≤ pos → (s.extract a (pos + 1)).data.toList = (s.extract a pos).data.toList ++ [s[pos]'hlt] := fun a ha' => by
          rw [ext_list, ext_list, show pos + 1 - a = (pos - a) + 1 by omega, List.take_add_one, List.getElem?_drop, show a + (pos - a) = pos by omega]
          rw [List.getElem?_eq_getElem (by rw [hsz]; exact hlt)]
          simp [ByteArray.getElem_eq_getElem_data]
        cases st with
        | none =>
          show List.map _ (closeSpans s (spansFromP blankP s f (pos + 1) (some pos) acc)) = _
          rw [ih (pos + 1) (some pos) acc (by omega) hlt (fun a h => by cases h; omega)]
          have he : (s.extract pos (pos + 1)).data.toList = [s[pos]'hlt] := by
            rw [hext pos (Nat.le_refl _), ext_list, Nat.sub_self, List.take_zero, List.nil_append]
          simp only [he]
          simp [wdsL, hc]
        | some a =>
          show List.map _ (closeSpans s (spansFromP blankP s f (pos + 1) (some a) acc)) = _
          rw [ih (pos + 1) (some a) acc (by omega) hlt (fun b h => by cases h; have := h3 a rfl; omega)]
          simp only [hext a (Nat.le_of_lt (h3 a rfl))]
          simp [wdsL, hc]
    · have hp : pos = s.size := by omega
      subst hp
      rw [spansFromP_end _ _ _ _ _ _ hlt, List.drop_eq_nil_of_le (by rw [hsz]; exact Nat.le_refl _)]
      cases st with
      | none => simp [closeSpans, wdsL]
      | some a => have := h3 a rfl; simp [closeSpans, wdsL]; omega
theorem fields_words (s : ByteArray) (ha : Ascii s) : (goFieldsP blankP s).map (·.data.toList) = wdsL [] s.data.toList := by
  have h := spans_words s ha s.size 0 none [] (by omega) (Nat.zero_le _) (fun a h => by cases h)
  unfold goFieldsP spansOfP
  rw [List.map_map]
  rw [List.map_nil, List.nil_append, List.drop_zero] at h
  exact h
/-- A digit's number is read as it was written. -/
theorem parse_digits (M : Nat) (hM : M < 1844674407370955162) : ∀ (u : Nat), u ≤ M → ∀ (r : List UInt8) , parseUintM M 0 (decDigits u ++ r) = parseUintM M u r := by
  intro u
  induction u using Nat.strongRecOn with
  | _ u ih =>
    intro hu r
    rw [decDigits]
    by_cases h : u < 10
    · rw [dif_pos h, List.singleton_append, parseUintM]
      have e : (UInt8.ofNat (48 + u)).toNat = 48 + u := by rw [UInt8.toNat_ofNat']; omega
      rw [e, if_pos (by omega), if_neg (by omega), if_neg (by omega)]
      congr 1
      omega
    · rw [dif_neg h, List.append_assoc, List.singleton_append, ih (u / 10) (by omega) (by omega), parseUintM]
      have e : (UInt8.ofNat (48 + u % 10)).toNat = 48 + u % 10 := by rw [UInt8.toNat_ofNat']; omega
      rw [e, if_pos (by omega), if_neg (by omega), if_neg (by omega)]
      congr 1
      omega
theorem digits_head (u : Nat) : ∃ d r, decDigits u = d :: r ∧ 48 ≤ d.toNat ∧ d.toNat ≤ 57 := by
  induction u using Nat.strongRecOn with
  | _ u ih =>
    rw [decDigits]
    by_cases h : u < 10
    · rw [dif_pos h]
      exact ⟨_, [], rfl, by rw [UInt8.toNat_ofNat']; omega, by rw [UInt8.toNat_ofNat']; omega⟩
    · rw [dif_neg h]
      obtain ⟨d, r, h1, h2⟩ := ih (u / 10) (by omega)
      exact ⟨d, r ++ _, by rw [h1, List.cons_append], h2⟩
theorem digits_all (u : Nat) : ∀ b ∈ decDigits u, 48 ≤ b.toNat ∧ b.toNat ≤ 57 := by
  induction u using Nat.strongRecOn with
  | _ u ih =>
    intro b hb
    rw [decDigits] at hb
    by_cases h : u < 10
    · rw [dif_pos h, List.mem_singleton] at hb
      subst hb
      rw [UInt8.toNat_ofNat']; omega
    · rw [dif_neg h, List.mem_append, List.mem_singleton] at hb
      rcases hb with hb | hb
      · exact ih (u / 10) (by omega) b hb
      · subst hb
        rw [UInt8.toNat_ofNat']; omega
theorem parse_itoa (n : Int) (h0 : -2147483648 ≤ n) (h1 : n ≤ 2147483647) : parseIntB 32 (itoa n) = .ok n := by
  unfold itoa
  by_cases h : n < 0
  · rw [if_pos h]
    obtain ⟨d, r, he, hd⟩ := digits_head n.natAbs
    have hp : parseUintB 32 (decDigits n.natAbs) = .ok n.natAbs := by
      unfold parseUintB
      rw [if_neg (by rw [he]; simp)]
      have := parse_digits (2 ^ 32 - 1) (by decide) n.natAbs (by omega) []
      rw [List.append_nil] at this
      rw [this]
      rfl
    simp only [parseIntB]
    rw [if_pos (.inr rfl), hp]
    simp only [show (45 : UInt8).toNat = 45 from rfl, not_true_eq_false, false_and, if_false, true_and, if_true]
    rw [if_neg (by omega)]
    congr 1
    omega
  · rw [if_neg h]
    obtain ⟨d, r, he, hd⟩ := digits_head n.toNat
    have hp : parseUintB 32 (decDigits n.toNat) = .ok n.toNat := by
      unfold parseUintB
      rw [if_neg (by rw [he]; simp)]
      have := parse_digits (2 ^ 32 - 1) (by decide) n.toNat (by omega) []
      rw [List.append_nil] at this
      rw [this]
      rfl
    have hn : ¬ (d.toNat = 43 ∨ d.toNat = 45) := by omega
    have hn5 : ¬ d.toNat = 45 := by omega
    rw [he] at hp ⊢
    simp only [parseIntB]
    rw [if_neg hn, hp]
    simp only [hn5, not_false_eq_true, true_and, false_and, if_false]
    rw [if_neg (by omega)]
    congr 1
    omega
end Go.Proofs.YtcnhlbkdhhjmiaaGreatDoor
