/- Whole texts: what is shown is read as it was; remarks and blanks change nothing, and the last line of a kind counts. -/
import Derived.Test.YtcnhlbkdhhjmiaaGreatDoorCfR
set_option linter.unusedVariables false
set_option maxRecDepth 100000
set_option linter.unusedSimpArgs false
namespace Go.Proofs.YtcnhlbkdhhjmiaaGreatDoor
open Go Go.Lib
def nl : ByteArray := ⟨#[10]⟩
/-- A text's lines. -/
def linesB (t : ByteArray) : List ByteArray := splitB nl 0 (countB t nl) t
theorem lines_list (l : W8) : linesB (mkS l) = (cutsL 10 [] l).map mkS := eq_mkSs (splitB_one 10 (mkS l))
/-- What is there ahead of the first line. -/
def cf0 : Cf := ⟨[], [], 0, 0, 1024, 65535, [], 1000, 100, 10⟩
def readsT (t : ByteArray) : Option Cf := parseL 0 (linesB t) cf0
theorem routeL_wd (r : Ro) : ∀ w ∈ routeL r, Wd w := by
  intro w hw
  unfold routeL at hw
  simp only [List.mem_cons, List.mem_nil_iff, or_false] at hw
  rcases hw with rfl | rfl | rfl | rfl
  · exact wd_lit (by decide)
  · exact netT_wd _ _
  · exact itoa_wd _
  · exact itoa_wd _
theorem ruleL_wd (r : Ru) : ∀ w ∈ ruleL r, Wd w := by
  intro w hw
  unfold ruleL at hw
  simp only [List.mem_cons, List.mem_nil_iff, or_false] at hw
  rcases hw with rfl | rfl | rfl | rfl | rfl | rfl | rfl | rfl | rfl
  · exact wd_lit (by decide)
  · exact itoa_wd _
  · exact itoa_wd _
  · exact itoa_wd _
  · exact netT_wd _ _
  · exact netT_wd _ _
  · exact itoa_wd _
  · exact itoa_wd _
  · exact actT_wd _
theorem fwdL_wd (f : Fo) : ∀ w ∈ fwdL f, Wd w := by
  intro w hw
  obtain ⟨pr, po, ad, tt, px⟩ := f
  unfold fwdL at hw
  cases px with
  | false =>
    simp only [List.mem_append, List.mem_cons, List.mem_nil_iff, or_false, if_false, Bool.false_eq_true] at hw
    rcases hw with rfl | rfl | rfl | rfl | rfl
    · exact wd_lit (by decide)
    · exact itoa_wd _
    · exact itoa_wd _
    · exact dotW_wd _
    · exact itoa_wd _
  | true =>
    simp only [List.mem_append, List.mem_cons, List.mem_nil_iff, or_false, if_true] at hw
    rcases hw with (rfl | rfl | rfl | rfl | rfl) | rfl
    · exact wd_lit (by decide)
    · exact itoa_wd _
    · exact itoa_wd _
    · exact dotW_wd _
    · exact itoa_wd _
    · exact wd_lit (by decide)
theorem showL_wd (a : Cf) : ∀ l ∈ showL a, ∀ w ∈ l, Wd w := by
  intro l hl
  unfold showL at hl
  simp only [List.mem_append, List.mem_map, List.mem_cons, List.mem_nil_iff, or_false] at hl
  rcases hl with ⟨r, _, rfl⟩ | ⟨r, _, rfl⟩ | (rfl | rfl) | ⟨f, _, rfl⟩ | rfl | rfl
  · exact routeL_wd r
  · exact ruleL_wd r
  · intro w hw
    unfold outL at hw
    simp only [List.mem_cons, List.mem_nil_iff, or_false] at hw
    rcases hw with rfl | rfl
    · exact wd_lit (by decide)
    · exact itoa_wd _
  · intro w hw
    unfold pubL at hw
    simp only [List.mem_cons, List.mem_nil_iff, or_false] at hw
    rcases hw with rfl | rfl | rfl | rfl
    · exact wd_lit (by decide)
    · exact dotW_wd _
    · exact itoa_wd _
    · exact itoa_wd _
  · exact fwdL_wd f
  · intro w hw
    unfold lifeL at hw
    simp only [List.mem_cons, List.mem_nil_iff, or_false] at hw
    rcases hw with rfl | rfl | rfl
    · exact wd_lit (by decide)
    · exact itoa_wd _
    · exact itoa_wd _
  · intro w hw
    unfold budL at hw
    simp only [List.mem_cons, List.mem_nil_iff, or_false] at hw
    rcases hw with rfl | rfl
    · exact wd_lit (by decide)
    · exact itoa_wd _
theorem cuts_lines : ∀ (L : List (List W8)) (r : W8), (∀ l ∈ L, ∀ w ∈ l, Wd w) → cutsL 10 [] (L.flatMap lineT ++ r) = L.map jn ++ cutsL 10 [] r
  | [], r, _ => rfl
  | l :: t, r, h => by
    have hl : (10 : UInt8) ∉ jn l := fun e => by have := (jn_bytes l (h l (by simp)) 10 e).1; revert this; decide
    rw [List.flatMap_cons, List.append_assoc, show lineT l ++ (t.flatMap lineT ++ r) = jn l ++ 10 :: (t.flatMap lineT ++ r) by simp [lineT],
      cutsL_some 10 _ [] _ hl, cuts_lines t r (fun x hx => h x (by simp [hx]))]
    rfl
theorem words_mk (l : W8) (h : ∀ b ∈ l, b.toNat < 128) : wordsOfLine (mkS l) = wdsL [] l := fields_words (mkS l) h
theorem step_nil (i : Nat) (l : W8) (c : Cf) (hi : i < 512) (hs : l.length ≤ 256) (h : ∀ b ∈ l, b.toNat < 128) (hw : wdsL [] l = []) : stepW i (mkS l) c = some c := by
  unfold stepW
  rw [if_neg (by rw [mkS_size]; omega), words_mk l h, hw]
/-- What is shown is read as it was. -/
theorem reads_show (a : Cf) (hr : rightC a) (ht : tyC a) : readsT (mkS (showT a)) = some a := by
  unfold readsT
  have h := cuts_lines (showL a) [] (showL_wd a)
  rw [List.append_nil] at h
  rw [lines_list, show showT a = (showL a).flatMap lineT from rfl, h, show cutsL 10 [] [] = [[]] from rfl, List.map_append, parseL_app, List.map_map,
    show (mkS ∘ jn) = (fun x => mkS (jn x)) from rfl, parse_show a cf0 0 (by omega) hr ht ⟨rfl, rfl, rfl⟩, Option.bind_some, List.map_cons, List.map_nil, parseL,
    step_nil _ [] a (by
      obtain ⟨⟨r1, _⟩, ⟨r3, _⟩, _, _, ⟨r7, _⟩, _⟩ := hr
      simp only [List.length_map, showL, List.length_append, List.length_cons, List.length_nil]
      omega) (by decide) (fun b hb => by cases hb) rfl]
  rfl
/-- "# x", an empty line, "  budget  7": each with its end. -/
def preT : W8 := [35, 32, 120, 10, 10, 32, 32, 98, 117, 100, 103, 101, 116, 32, 32, 55, 10]
/-- "   ", and " budget N  ". -/
def postT (n : Int) : W8 := [32, 32, 32, 10, 32, 98, 117, 100, 103, 101, 116, 32] ++ itoa n ++ [32, 32]
theorem itoa_seven : ([55] : W8) = itoa 7 := by
  unfold itoa
  rw [if_neg (by decide), decDigits, dif_pos (by decide)]
  rfl
theorem cuts_pre (r : W8) : cutsL 10 [] (preT ++ r) = [35, 32, 120] :: [] :: [32, 32, 98, 117, 100, 103, 101, 116, 32, 32, 55] :: cutsL 10 [] r := by
  have e : preT ++ r = [35, 32, 120] ++ 10 :: ([] ++ 10 :: ([32, 32, 98, 117, 100, 103, 101, 116, 32, 32, 55] ++ 10 :: r)) := rfl
  rw [e, cutsL_some 10 _ [] _ (by decide), cutsL_some 10 _ [] _ (by decide), cutsL_some 10 _ [] _ (by decide)]
  rfl
theorem cuts_post (n : Int) : cutsL 10 [] (postT n) = [[32, 32, 32], [32, 98, 117, 100, 103, 101, 116, 32] ++ itoa n ++ [32, 32]] := by
  have e : postT n = [32, 32, 32] ++ 10 :: ([32, 98, 117, 100, 103, 101, 116, 32] ++ itoa n ++ [32, 32]) := rfl
  have h10 : (10 : UInt8) ∉ itoa n := (itoa_wd n).no (by decide)
  rw [e, cutsL_some 10 _ [] _ (by decide), cutsL_none 10 _ [] (by
    intro hm
    simp only [List.mem_append, List.mem_cons, List.mem_nil_iff, or_false] at hm
    rcases hm with (hm | hm) | hm
    · revert hm; decide
    · exact h10 hm
    · revert hm; decide)]
  rfl
theorem words_post (n : Int) : wdsL [] ([32, 98, 117, 100, 103, 101, 116, 32] ++ itoa n ++ [32, 32]) = [wBudget, itoa n] := by
  have h32 : (32 : UInt8) ∉ itoa n := (itoa_wd n).no (by decide)
  have e : ([32, 98, 117, 100, 103, 101, 116, 32] ++ itoa n ++ [32, 32] : W8) = 32 :: (wBudget ++ 32 :: (itoa n ++ 32 :: [32])) := by simp [wBudget]
  rw [e, wdsL_blank, wdsL_step wBudget [] _ (by decide) (by decide), wdsL_step (itoa n) [] _ h32 (by simpa using (itoa_wd n).1)]
  rfl
theorem step_pre7 (i : Nat) (c : Cf) (hi : i < 512) : stepW i (mkS [32, 32, 98, 117, 100, 103, 101, 116, 32, 32, 55]) c = some { c with budget := 7 } := by
  unfold stepW
  have hw : wdsL [] [32, 32, 98, 117, 100, 103, 101, 116, 32, 32, 55] = [wBudget, itoa 7] := by rw [← itoa_seven]; rfl
  rw [if_neg (by rw [mkS_size]; simp; omega), words_mk _ (by decide), hw]
  simp only []
  rw [if_neg (by decide)]
  exact lineW_bud c 7 (by omega)
theorem step_rem (i : Nat) (c : Cf) (hi : i < 512) : stepW i (mkS [35, 32, 120]) c = some c := by
  unfold stepW
  rw [if_neg (by rw [mkS_size]; simp; omega), words_mk _ (by decide), show wdsL [] [35, 32, 120] = [[35], [120]] from rfl]
  simp only []
  rw [if_pos (by rfl)]
theorem step_post (i : Nat) (n : Int) (c : Cf) (hi : i < 512) (h : 0 ≤ n ∧ n ≤ 255) : stepW i (mkS ([32, 98, 117, 100, 103, 101, 116, 32] ++ itoa n ++ [32, 32])) c = some { c with budget := n } := by
  unfold stepW
  have hl := itoa_len n 5 (by omega)
  rw [if_neg (by rw [mkS_size]; simp only [List.length_append, List.length_cons, List.length_nil]; omega), words_mk _ (by
    intro b hm
    simp only [List.mem_append, List.mem_cons, List.mem_nil_iff, or_false] at hm
    rcases hm with (hm | hm) | hm
    · rcases hm with rfl | rfl | rfl | rfl | rfl | rfl | rfl | rfl <;> decide
    · exact ((itoa_wd n).2 b hm).2
    · rcases hm with rfl | rfl <;> decide), words_post]
  simp only []
  rw [if_neg (by decide)]
  exact lineW_bud c n (by omega)
/-- Remarks, blanks, and lines that come again. -/
theorem reads_last (a : Cf) (n : Int) (hr : rightC a) (ht : tyC a) (hn : 0 ≤ n ∧ n ≤ 255) : readsT (mkS (preT ++ showT a ++ postT n)) = some { a with budget := n } := by
  unfold readsT
  have hl : (showL a).length ≤ 200 := by
    obtain ⟨⟨r1, _⟩, ⟨r3, _⟩, _, _, ⟨r7, _⟩, _⟩ := hr
    simp only [List.length_map, showL, List.length_append, List.length_cons, List.length_nil]
    omega
  rw [lines_list, List.append_assoc, cuts_pre, show showT a = (showL a).flatMap lineT from rfl, cuts_lines _ _ (showL_wd a), cuts_post, List.map_cons, List.map_cons, List.map_cons,
    parseL, step_rem _ _ (by omega), Option.bind_some, parseL, step_nil _ [] _ (by omega) (by decide) (fun b hb => by cases hb) rfl, Option.bind_some, parseL, step_pre7 _ _ (by omega), Option.bind_some,
    List.map_append, parseL_app, List.map_map, show (mkS ∘ jn) = (fun x => mkS (jn x)) from rfl, parse_show a _ _ (by omega) hr ht ⟨rfl, rfl, rfl⟩, Option.bind_some, List.map_cons, List.map_cons, List.map_nil,
    parseL, step_nil _ [32, 32, 32] _ (by rw [List.length_map]; omega) (by decide) (by decide) rfl, Option.bind_some, parseL, step_post _ n _ (by rw [List.length_map]; omega) hn, Option.bind_some, parseL]
theorem right_bud (a : Cf) (n : Int) (hr : rightC a) (hn : 0 ≤ n ∧ n ≤ 255) : rightC { a with budget := n } := by
  obtain ⟨h1, h2, h3, h4, h5, h6, h7, h8⟩ := hr
  exact ⟨h1, h2, h3, h4, h5, h6, h7, by show 0 ≤ n ∧ n ≤ 1000; omega⟩
end Go.Proofs.YtcnhlbkdhhjmiaaGreatDoor
