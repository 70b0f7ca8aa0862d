/- How long lines are; what a line's writer needs. -/
import Derived.Test.YtcnhlbkdhhjmiaaGreatDoorCfY
import Derived.Test.YtcnhlbkdhhjmiaaGreatDoorCfW
import Derived.Test.YtcnhlbkdhhjmiaaGreatDoorMix6
set_option linter.unusedVariables false
set_option maxRecDepth 100000
set_option linter.unusedSimpArgs false
namespace Go.Proofs.YtcnhlbkdhhjmiaaGreatDoor
open Go.RowKit
variable {L L' : Nat → Prop} {w w' w'' : World}
theorem route_len (r : Ro) (hr : rtMay r = true) (hn : r.net < 4294967296) : (jn (routeL r)).length ≤ 250 := by
  unfold rtMay at hr
  simp only [decide_eq_true_eq] at hr
  have h1 := netT_len r.net r.bits hn (by omega)
  have h2 := itoa_len r.zone 18 (by omega)
  have h3 := itoa_len r.mtu 18 (by omega)
  refine Nat.le_trans (jn_len _) ?_
  simp only [routeL, lensW, List.map_cons, List.map_nil, List.sum_cons, List.sum_nil, show wRoute.length = 5 from rfl]
  omega
theorem rule_len (r : Ru) (hr : ruMay r = true) (hn : r.src < 4294967296 ∧ r.dst < 4294967296) : (jn (ruleL r)).length ≤ 250 := by
  unfold ruMay at hr
  simp only [decide_eq_true_eq] at hr
  have h1 := netT_len r.src r.srcBits hn.1 (by omega)
  have h2 := netT_len r.dst r.dstBits hn.2 (by omega)
  have h3 := itoa_len r.fr 5 (by omega)
  have h4 := itoa_len r.tt 5 (by omega)
  have h5 := itoa_len r.proto 5 (by omega)
  have h6 := itoa_len r.lo 5 (by omega)
  have h7 := itoa_len r.hi 5 (by omega)
  have h8 := actT_len r.action
  refine Nat.le_trans (jn_len _) ?_
  simp only [ruleL, lensW, List.map_cons, List.map_nil, List.sum_cons, List.sum_nil, show wRule.length = 4 from rfl]
  omega
theorem fwd_len (lo hi : Int) (f : Fo) (hr : fwMay lo hi f = true) (hn : f.addr < 4294967296) : (jn (fwdL f)).length ≤ 250 := by
  unfold fwMay at hr
  simp only [decide_eq_true_eq] at hr
  have h1 := dotW_len f.addr hn
  have h2 := itoa_len f.proto 5 (by omega)
  have h3 := itoa_len f.port 5 (by omega)
  have h4 := itoa_len f.tt 5 (by omega)
  refine Nat.le_trans (jn_len _) ?_
  unfold fwdL
  cases f.proxy
  · simp only [lensW, List.map_append, List.sum_append, List.map_cons, List.map_nil, List.sum_cons, List.sum_nil, show wForward.length = 7 from rfl, if_false, Bool.false_eq_true]
    omega
  · simp only [lensW, List.map_append, List.sum_append, List.map_cons, List.map_nil, List.sum_cons, List.sum_nil, show wForward.length = 7 from rfl, show wProxy.length = 5 from rfl, if_true]
    omega
/-- Lines one behind the other. -/
theorem lines_len {α : Type} (ln : α → List W8) : ∀ (l : List α), (∀ x ∈ l, (jn (ln x)).length ≤ 250) → ((l.map ln).flatMap lineT).length ≤ 251 * l.length
  | [], _ => Nat.le_refl _
  | x :: t, h => by
    have h1 := lines_len ln t (fun y hy => h y (by simp [hy]))
    have h2 := h x (by simp)
    rw [List.map_cons, List.flatMap_cons, List.length_append, List.length_cons]
    unfold lineT at *
    rw [List.length_append]
    simp only [List.length_singleton]
    omega
theorem lines_step {α : Type} (ln : α → List W8) (l : List α) (i : Nat) (x : α) (hx : l[i]? = some x) (T : W8) : T ++ ((l.take i).map ln).flatMap lineT ++ lineT (ln x) = T ++ ((l.take (i + 1)).map ln).flatMap lineT := by
  rw [List.take_add_one, hx, List.map_append, List.flatMap_append, List.append_assoc]
  simp
/-- The words of a line as strings. -/
theorem w8s_mk (l : List W8) : w8s (l.map mkS) = l := by
  unfold w8s mkS
  rw [List.map_map]
  conv => rhs; rw [← List.map_id l]
  apply List.map_congr_left
  intro x _
  rfl
/-- Words with numbers in one word, a blank between them, are the same line. -/
theorem jn_app : ∀ (A B : List W8), A ≠ [] → B ≠ [] → jn (A ++ B) = jn A ++ 32 :: jn B
  | [], _, h, _ => absurd rfl h
  | [x], B, _, hB => by
    cases B with
    | nil => exact absurd rfl hB
    | cons y t => rfl
  | x :: y :: t, B, _, hB => by
    have ih := jn_app (y :: t) B (by simp) hB
    show x ++ 32 :: jn (y :: t ++ B) = (x ++ 32 :: jn (y :: t)) ++ 32 :: jn B
    rw [ih]
    simp
/-- What writes a line, whatever was made behind. -/
def LineK (b : Nat) (T : W8) (W : World) : Prop := ∀ w1, Junk W w1 → ∀ (oa : Option Addr) (c n : Nat) (L : List ByteArray) (B' : Nat), Own B' w1 9 1 oa c n (L.map Value.string) → L.length = n → L ≠ [] → n ≤ 100 → ∀ l : W8, jn (w8s L) = l → l.length ≤ 250 →
    Calls Tryz.prog 12 #[.pointer (some ⟨b, 0, none⟩), .slice oa n c] w1 fun e w' => e = .returned (.tuple #[]) ∧ Bld b b (Lib.byteCells (T ++ (l ++ [10]))) w' ∧ Below b w1 w'
theorem linek {b : Nat} {T : W8} {W : World} (h : Bld b b (Lib.byteCells T) W) (hb : b ≤ W.heap.size) (hT : T.length ≤ 1000000) : LineK b T W := by
  intro w1 hj oa c n L B' hO hn h0 h1 l hl hl2
  subst hl
  exact line_any b b T oa c n L B' w1 (bld_on h hj) (Nat.le_trans hb hj.size) hO hn h0 h1 hT (by omega)
/-- The way from W to w changed nothing ahead of b. -/
theorem Below.tch {b : Nat} (h : Below b w w') : Tch (fun k => b ≤ k) w w' := ⟨h.os, h.tape, h.output, h.size, fun k hk hn => h.block k (by omega)⟩
theorem box_below {a b : Nat} {e : TypeId} {cs : List Value} (h : Box w a e cs) (t : Below b w w') (hab : a < b) : Box w' a e cs := (t.block a hab).trans h
theorem own_strs (w : World) (L : List ByteArray) (cs : Array Value) (hc : cs = (L.map Value.string).toArray) (n m : Nat) (hn : n = w.heap.size) (hm : L.length = m) (h1 : m ≤ 100) : Own 0 (w.alloc (.cells cs 9)) 9 1 (some ⟨n, 0, none⟩) m m (L.map Value.string) := by
  subst hc
  have h := own_lit (B := 0) w 9 n m (L.map Value.string).toArray hn (Nat.zero_le _) (by simp [hm]) (by unfold maxLen; omega)
  simpa using h
theorem nums_at (V : World) (l : List Int) (hE : ∀ w1, Junk V w1 → Env w1) (n : Nat) (hn : l.length = n) (h0 : 0 < n) (h1 : n ≤ 100) (hr : ∀ x ∈ l, -9223372036854775808 ≤ x ∧ x ≤ 9223372036854775807) : ∀ w1, Junk V w1 → ∀ g, NumsAt w1 g l →
    Calls Tryz.prog 14 #[.slice (some ⟨g, 0, none⟩) n n] w1 fun e w' => e = .returned (.string (mkS (jn (l.map Lib.itoa)))) ∧ Junk w1 w' :=
  fun w1 hj g hN => nums_any l g n w1 (hE w1 hj) hN hn h0 h1 hr
theorem bld_low {B b : Nat} {bs : List Value} (h : Bld B b bs w) : B ≤ b := by rcases h with h | h <;> exact h.1
/-- What a list of numbers, or of words, that was just made holds. -/
theorem with_nums {K : World → Prop} {w : World} {cs : Array Value} (l : List Int) (hc : cs.toList = l.map (Value.int .i64)) (h : (∀ n, n = w.heap.size → NumsAt (w.alloc (.cells cs 3)) n l) → K (w.alloc (.cells cs 3))) : K (w.alloc (.cells cs 3)) :=
  h fun n hn => nums_lit w l cs hc n hn
theorem with_strs {K : World → Prop} {w : World} {cs : Array Value} (L : List ByteArray) (hc : cs = (L.map Value.string).toArray) (h1 : L.length ≤ 100) (h : (∀ n, n = w.heap.size → Own 0 (w.alloc (.cells cs 9)) 9 1 (some ⟨n, 0, none⟩) L.length L.length (L.map Value.string)) → K (w.alloc (.cells cs 9))) : K (w.alloc (.cells cs 9)) :=
  h fun n hn => own_strs w L cs hc n _ hn rfl h1
theorem with_strb {K : World → Prop} {w : World} {cs : Array Value} (L : List ByteArray) (hc : cs = (L.map Value.string).toArray) (h1 : L.length ≤ 100) (h : (∀ n B, n = w.heap.size → B ≤ w.heap.size → Own B (w.alloc (.cells cs 9)) 9 1 (some ⟨n, 0, none⟩) L.length L.length (L.map Value.string)) → K (w.alloc (.cells cs 9))) : K (w.alloc (.cells cs 9)) :=
  h fun n B hn hB => by
    subst hc
    have h := own_lit (B := B) w 9 n L.length (L.map Value.string).toArray hn hB (by simp) (by unfold maxLen; omega)
    simpa using h
end Go.Proofs.YtcnhlbkdhhjmiaaGreatDoor
