/- Configurations as lines: what is read of words, what is shown, and that what is shown is read as it was. -/
import Derived.Test.YtcnhlbkdhhjmiaaGreatDoorCfP
set_option linter.unusedVariables false
set_option maxRecDepth 100000
set_option linter.unusedSimpArgs false
namespace Go.Proofs.YtcnhlbkdhhjmiaaGreatDoor
open Go Go.Lib
abbrev W8 := List UInt8
structure Ro where
  net : Nat
  bits : Int
  zone : Int
  mtu : Int
deriving DecidableEq
structure Ru where
  fr : Int
  tt : Int
  proto : Int
  src : Nat
  dst : Nat
  srcBits : Int
  dstBits : Int
  lo : Int
  hi : Int
  action : Int
deriving DecidableEq
structure Fo where
  proto : Int
  port : Int
  addr : Nat
  tt : Int
  proxy : Bool
deriving DecidableEq
structure Cf where
  routes : List Ro
  rules : List Ru
  outside : Int
  pub : Nat
  lo : Int
  hi : Int
  fwds : List Fo
  tcp : Int
  other : Int
  budget : Int
deriving DecidableEq
def wRoute : W8 := [114, 111, 117, 116, 101]
def wRule : W8 := [114, 117, 108, 101]
def wOutside : W8 := [111, 117, 116, 115, 105, 100, 101]
def wPublic : W8 := [112, 117, 98, 108, 105, 99]
def wForward : W8 := [102, 111, 114, 119, 97, 114, 100]
def wLife : W8 := [108, 105, 102, 101]
def wBudget : W8 := [98, 117, 100, 103, 101, 116]
def wAllow : W8 := [97, 108, 108, 111, 119]
def wDeny : W8 := [100, 101, 110, 121]
def wProxy : W8 := [112, 114, 111, 120, 121]
/-- A word's number: written as it would be. -/
def numW (w : W8) : Option Int :=
  match parseIntB 32 w with
  | .ok n => if itoa n = w then some n else none
  | _ => none
def byteW (w : W8) : Option Nat :=
  match numW w with
  | some n => if 0 ≤ n ∧ n ≤ 255 then some n.toNat else none
  | none => none
def addrW (w : W8) : Option Nat :=
  match cutsL 46 [] w with
  | [a, b, c, d] =>
    match byteW a, byteW b, byteW c, byteW d with
    | some a, some b, some c, some d => some (((a * 256 + b) * 256 + c) * 256 + d)
    | _, _, _, _ => none
  | _ => none
def netW (w : W8) : Option (Nat × Int) :=
  if (cut w [47]).2.2 then
    match addrW (cut w [47]).1, numW (cut w [47]).2.1 with
    | some a, some n => some (a, n)
    | _, _ => none
  else none
def actW (w : W8) : Option Int := if w = wAllow then some 2 else if w = wDeny then some 1 else none
def routeW (l : List W8) : Option Ro :=
  match netW (l.getD 0 []), numW (l.getD 1 []), numW (l.getD 2 []) with
  | some n, some z, some m => some ⟨n.1, n.2, z, m⟩
  | _, _, _ => none
def ruleW (l : List W8) : Option Ru :=
  match numW (l.getD 0 []), numW (l.getD 1 []), numW (l.getD 2 []), netW (l.getD 3 []), netW (l.getD 4 []), numW (l.getD 5 []), numW (l.getD 6 []), actW (l.getD 7 []) with
  | some f, some t, some p, some s, some d, some lo, some hi, some a => some ⟨f, t, p, s.1, d.1, s.2, d.2, lo, hi, a⟩
  | _, _, _, _, _, _, _, _ => none
def fwdW (l : List W8) : Option Fo :=
  match numW (l.getD 0 []), numW (l.getD 1 []), addrW (l.getD 2 []), numW (l.getD 3 []) with
  | some p, some q, some a, some t => some ⟨p, q, a, t, decide (l.getD 4 [] = wProxy)⟩
  | _, _, _, _ => none
/-- A line's words, behind its first one: the configuration with them. -/
def lineW (c : Cf) (k : W8) (l : List W8) : Option Cf :=
  if k = wRoute then (if l.drop 3 = [] then (routeW l).map fun x => { c with routes := c.routes ++ [x] } else none)
  else if k = wRule then (if l.drop 8 = [] then (ruleW l).map fun x => { c with rules := c.rules ++ [x] } else none)
  else if k = wOutside then (if l.drop 1 = [] then (numW (l.getD 0 [])).map fun x => { c with outside := x } else none)
  else if k = wPublic then (if l.drop 3 = [] then
      (match addrW (l.getD 0 []), numW (l.getD 1 []), numW (l.getD 2 []) with
       | some a, some x, some y => some { c with pub := a, lo := x, hi := y }
       | _, _, _ => none) else none)
  else if k = wForward then (if l.drop 4 = [] ∨ (l.getD 4 [] = wProxy ∧ l.drop 5 = []) then (fwdW l).map fun x => { c with fwds := c.fwds ++ [x] } else none)
  else if k = wLife then (if l.drop 2 = [] then
      (match numW (l.getD 0 []), numW (l.getD 1 []) with
       | some x, some y => some { c with tcp := x, other := y }
       | _, _ => none) else none)
  else if k = wBudget then (if l.drop 1 = [] then (numW (l.getD 0 [])).map fun x => { c with budget := x } else none)
  else none
/-- A line's words, all of them. -/
def wordsOfLine (s : ByteArray) : List W8 := (goFieldsP blankP s).map (·.data.toList)
/-- One line. -/
def stepW (i : Nat) (s : ByteArray) (c : Cf) : Option Cf :=
  if 512 ≤ i ∨ 256 < s.size then none
  else match wordsOfLine s with
    | [] => some c
    | k :: l => if k.head? = some 35 then some c else lineW c k l
def parseL : Nat → List ByteArray → Cf → Option Cf
  | _, [], c => some c
  | i, s :: t, c => (stepW i s c).bind (parseL (i + 1) t)
theorem parseL_app : ∀ (A B : List ByteArray) (i : Nat) (c : Cf), parseL i (A ++ B) c = (parseL i A c).bind (parseL (i + A.length) B)
  | [], B, i, c => by simp [parseL]
  | s :: t, B, i, c => by
    rw [List.cons_append, parseL, parseL]
    cases stepW i s c with
    | none => rfl
    | some d =>
      rw [Option.bind_some, Option.bind_some, parseL_app t B (i + 1) d, List.length_cons, show i + 1 + t.length = i + (t.length + 1) by omega]
/-- Words with a blank between them. -/
def jn : List W8 → W8
  | [] => []
  | [w] => w
  | w :: t => w ++ 32 :: jn t
def Wd (w : W8) : Prop := w ≠ [] ∧ ∀ b ∈ w, 32 < b.toNat ∧ b.toNat < 128
theorem Wd.no {w : W8} (h : Wd w) {c : UInt8} (hc : c.toNat ≤ 32) : c ∉ w := fun e => by have := (h.2 c e).1; omega
theorem words_jn : ∀ (l : List W8), (∀ w ∈ l, Wd w) → wdsL [] (jn l) = l
  | [], _ => rfl
  | [w], h => by
    have hw := h w (by simp)
    exact wdsL_end w [] (hw.no (by decide)) (by simpa using hw.1)
  | w :: v :: t, h => by
    have hw := h w (by simp)
    show wdsL [] (w ++ 32 :: jn (v :: t)) = _
    rw [wdsL_step w [] _ (hw.no (by decide)) (by simpa using hw.1), words_jn (v :: t) (fun x hx => h x (by simp [hx]))]
    rfl
theorem jn_bytes : ∀ (l : List W8), (∀ w ∈ l, Wd w) → ∀ b ∈ jn l, 32 ≤ b.toNat ∧ b.toNat < 128
  | [], _, b, hb => by cases hb
  | [w], h, b, hb => by have := (h w (by simp)).2 b hb; omega
  | w :: v :: t, h, b, hb => by
    have hb' : b ∈ w ++ 32 :: jn (v :: t) := hb
    rw [List.mem_append, List.mem_cons] at hb'
    rcases hb' with hb' | rfl | hb'
    · have := (h w (by simp)).2 b hb'; omega
    · decide
    · exact jn_bytes (v :: t) (fun x hx => h x (by simp [hx])) b hb'
/-- How long the words are together, with a blank each. -/
def lensW (l : List W8) : Nat := (l.map fun w => w.length + 1).sum
theorem jn_len : ∀ (l : List W8), (jn l).length ≤ lensW l
  | [] => Nat.le_refl _
  | [w] => by simp [jn, lensW]
  | w :: v :: t => by
    have := jn_len (v :: t)
    show (w ++ 32 :: jn (v :: t)).length ≤ _
    simp only [List.length_append, List.length_cons, lensW, List.map_cons, List.sum_cons] at this ⊢
    omega
theorem digits_len : ∀ (k u : Nat), u < 10 ^ (k + 1) → (decDigits u).length ≤ k + 1
  | 0, u, h => by rw [decDigits, dif_pos (by simpa using h)]; simp
  | k + 1, u, h => by
    rw [decDigits]
    by_cases h10 : u < 10
    · rw [dif_pos h10]; simp
    · rw [dif_neg h10, List.length_append, List.length_singleton]
      have := digits_len k (u / 10) (by rw [Nat.pow_succ] at h; omega)
      omega
theorem itoa_len (n : Int) (k : Nat) (h : n.natAbs < 10 ^ (k + 1)) : (itoa n).length ≤ k + 2 := by
  unfold itoa
  have hd := digits_len k n.natAbs h
  by_cases h0 : n < 0
  · rw [if_pos h0, List.length_cons]; omega
  · rw [if_neg h0, show n.toNat = n.natAbs by omega]; omega
theorem itoa_wd (n : Int) : Wd (itoa n) := by
  unfold itoa
  by_cases h0 : n < 0
  · rw [if_pos h0]
    refine ⟨by simp, fun b hb => ?_⟩
    rcases List.mem_cons.1 hb with rfl | hb
    · decide
    · have := digits_all _ b hb; omega
  · rw [if_neg h0]
    obtain ⟨d, r, he, _⟩ := digits_head n.toNat
    exact ⟨by rw [he]; simp, fun b hb => by have := digits_all _ b hb; omega⟩
theorem numW_itoa (n : Int) (h : -2147483648 ≤ n ∧ n ≤ 2147483647) : numW (itoa n) = some n := by
  unfold numW
  rw [parse_itoa n h.1 h.2]
  simp
theorem byteW_itoa (n : Nat) (h : n < 256) : byteW (itoa (n : Int)) = some n := by
  unfold byteW
  rw [numW_itoa n (by omega)]
  simp only []
  rw [if_pos (by omega)]
  simp
/-- An address with dots. -/
def dotW (a : Nat) : W8 := itoa ((a / 16777216 : Nat) : Int) ++ 46 :: (itoa ((a / 65536 % 256 : Nat) : Int) ++ 46 :: (itoa ((a / 256 % 256 : Nat) : Int) ++ 46 :: itoa ((a % 256 : Nat) : Int)))
theorem itoa_digits (n : Nat) : ∀ b ∈ itoa (n : Int), 48 ≤ b.toNat ∧ b.toNat ≤ 57 := by
  rw [itoa_nonneg]
  exact digits_all n
theorem itoa_no (n : Nat) {c : UInt8} (h : c.toNat < 48) : c ∉ itoa (n : Int) := fun e => by have := itoa_digits n c e; omega
theorem addrW_dot (a : Nat) (h : a < 4294967296) : addrW (dotW a) = some a := by
  have hc : cutsL 46 [] (dotW a) = [itoa ((a / 16777216 : Nat) : Int), itoa ((a / 65536 % 256 : Nat) : Int), itoa ((a / 256 % 256 : Nat) : Int), itoa ((a % 256 : Nat) : Int)] := by
    unfold dotW
    rw [cutsL_some _ _ _ _ (itoa_no _ (by decide)), cutsL_some _ _ _ _ (itoa_no _ (by decide)), cutsL_some _ _ _ _ (itoa_no _ (by decide)), cutsL_none _ _ _ (itoa_no _ (by decide))]
    simp
  unfold addrW
  rw [hc]
  simp only []
  rw [byteW_itoa _ (by omega), byteW_itoa _ (by omega), byteW_itoa _ (by omega), byteW_itoa _ (by omega)]
  simp only [Option.some.injEq]
  omega
theorem dotW_bytes (a : Nat) : ∀ b ∈ dotW a, 46 ≤ b.toNat ∧ b.toNat ≤ 57 ∧ b.toNat ≠ 47 := by
  intro b hb
  unfold dotW at hb
  simp only [List.mem_append, List.mem_cons] at hb
  have h1 := itoa_digits
  rcases hb with hb | rfl | hb | rfl | hb | rfl | hb
  all_goals first | decide | (have := itoa_digits _ b hb; omega)
theorem dotW_ne (a : Nat) : dotW a ≠ [] := by unfold dotW; simp
theorem dotW_wd (a : Nat) : Wd (dotW a) := ⟨dotW_ne a, fun b hb => by have := dotW_bytes a b hb; omega⟩
theorem dotW_len (a : Nat) (h : a < 4294967296) : (dotW a).length ≤ 19 := by
  unfold dotW
  have h1 := itoa_len ((a / 16777216 : Nat) : Int) 2 (by omega)
  have h2 := itoa_len ((a / 65536 % 256 : Nat) : Int) 2 (by omega)
  have h3 := itoa_len ((a / 256 % 256 : Nat) : Int) 2 (by omega)
  have h4 := itoa_len ((a % 256 : Nat) : Int) 2 (by omega)
  simp only [List.length_append, List.length_cons]
  omega
def netT (a : Nat) (n : Int) : W8 := dotW a ++ 47 :: itoa n
theorem index_of {p q : List UInt8} {c : UInt8} (h : c ∉ p) : index (p ++ c :: q) [c] = (p.length : Int) := by
  rw [index_one]
  induction p with
  | nil => simp [indexByte]
  | cons b p ih =>
    have hb : ¬ (b == c) = true := fun e => h (by simp [beq_iff_eq.1 e])
    have ih' := ih (fun e => h (by simp [e]))
    rw [List.cons_append, indexByte, if_neg hb, ih', if_neg (by intro e; have := beq_iff_eq.1 e; omega), List.length_cons]
    omega
theorem cut_of {p q : List UInt8} {c : UInt8} (h : c ∉ p) : cut (p ++ c :: q) [c] = (p, q, true) := by
  unfold cut
  rw [index_of h, if_pos (by omega)]
  simp
theorem netW_net (a : Nat) (n : Int) (h : a < 4294967296) (hn : -2147483648 ≤ n ∧ n ≤ 2147483647) : netW (netT a n) = some (a, n) := by
  unfold netW netT
  rw [cut_of (fun e => by have := dotW_bytes a _ e; exact this.2.2 rfl)]
  simp only [if_true]
  rw [addrW_dot a h, numW_itoa n hn]
theorem netT_wd (a : Nat) (n : Int) : Wd (netT a n) := by
  refine ⟨by unfold netT; simp, fun b hb => ?_⟩
  unfold netT at hb
  simp only [List.mem_append, List.mem_cons] at hb
  rcases hb with hb | rfl | hb
  · exact (dotW_wd a).2 b hb
  · decide
  · exact (itoa_wd n).2 b hb
theorem netT_len (a : Nat) (n : Int) (h : a < 4294967296) (hn : 0 ≤ n ∧ n ≤ 32) : (netT a n).length ≤ 23 := by
  have h1 := dotW_len a h
  have h2 := itoa_len n 1 (by omega)
  unfold netT
  simp only [List.length_append, List.length_cons]
  omega
end Go.Proofs.YtcnhlbkdhhjmiaaGreatDoor
