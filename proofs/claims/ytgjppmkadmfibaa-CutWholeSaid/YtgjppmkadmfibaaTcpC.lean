/- Lists of options; what a head's options say; tcp.options. -/
import Derived.Test.YtgjppmkadmfibaaCsum
import Derived.Test.YtgjppmkadmfibaaOwn
import Derived.Shelf.Bytes.SlEqualAll
import Derived.Laws.CopyOwn
import Derived.LoopN
import Derived.Test.YtgjppmkadmfibaaMix
import Derived.Lib.AppendZeros
import Derived.Deep.DeepCutAuto
set_option linter.unusedVariables false
set_option maxRecDepth 100000
set_option linter.unusedSimpArgs false
namespace Go.Proofs.Ytgjppmkadmfibaa
open Go.RowKit
def joinI (a b : Int) : Int := if 65535 < a + b then a + b - 65535 else a + b
theorem joinI_bd {a b : Int} (ha : 0 ≤ a ∧ a ≤ 65535) (hb : 0 ≤ b ∧ b ≤ 65535) : 0 ≤ joinI a b ∧ joinI a b ≤ 65535 := by unfold joinI; split <;> omega
theorem joinI_fold {n b : Int} (hn : 0 ≤ n) (hb : 0 ≤ b ∧ b ≤ 65535) : joinI (foldI n) b = foldI (n + b) := by
  unfold joinI foldI
  by_cases h0 : n = 0
  · subst h0
    simp only [if_true]
    by_cases h1 : b = 0
    · subst h1; rfl
    · rw [if_neg (by omega : ¬ (65535 < 0 + b)), if_neg (by omega : ¬ (0 + b = 0))]; omega
  · rw [if_neg h0, if_neg (by omega : ¬ (n + b = 0))]
    split <;> omega
/-- The word at a place. -/
def wordAt (xs : Nat → Int) (l : Nat) (j : Nat) : Int := xs (2 * j) * 256 + if 2 * j + 1 < l then xs (2 * j + 1) else 0
def wordsL (xs : Nat → Int) (l k : Nat) : List Value := (List.range k).map fun j => Value.int .u16 (wordAt xs l j)
theorem wordsL_succ (xs : Nat → Int) (l k : Nat) : wordsL xs l k ++ [Value.int .u16 (wordAt xs l k)] = wordsL xs l (k + 1) := by
  simp [wordsL, List.range_succ]
theorem words_end (W0 : World) (xs : Nat → Int) (l k : Nat) (t : TypeId) (oa : Option Addr) (cap : Nat) (w : World) (v : Int) (hv : v = wordAt xs l k)
    (h : Own W0.heap.size w t 1 oa cap (k + 1) (wordsL xs l k ++ [Value.int .u16 v])) : Own W0.heap.size w t 1 oa cap (k + 1) (wordsL xs l (k + 1)) := by
  subst hv; rw [wordsL_succ] at h; exact h
def WordsPost (w : World) (xs : Nat → Int) (l : Nat) (e : Ending) (w' : World) : Prop :=
  ∃ oa cap, e = .returned (.slice oa ((l + 1) / 2) cap) ∧ Junk w w' ∧ Own w.heap.size w' 47 1 oa cap ((l + 1) / 2) (wordsL xs l ((l + 1) / 2))
/-- The reference adds word by word. -/
theorem rawN_even (xs : Nat → Int) (l : Nat) : ∀ k, 2 * k ≤ l → rawN xs (2 * k) = ((List.range k).map (wordAt xs l)).sum
  | 0, _ => rfl
  | k + 1, h => by
    have h1 := rawN_even xs l k (by omega)
    rw [List.range_succ, List.map_append, List.sum_append, ← h1]
    have e : rawN xs (2 * (k + 1)) = rawN xs (2 * k) + xs (2 * k) * 256 + xs (2 * k + 1) := by
      show rawN xs (2 * k + 1 + 1) = _
      simp only [rawN]
      rw [if_pos (by omega), if_neg (by omega)]
    rw [e]
    simp [wordAt]
    rw [if_pos (by omega)]
    omega
def partSum (xs : Nat → Int) (l k : Nat) : Int := ((List.range k).map (wordAt xs l)).sum
theorem partSum_succ (xs : Nat → Int) (l k : Nat) : partSum xs l (k + 1) = partSum xs l k + wordAt xs l k := by
  unfold partSum; rw [List.range_succ, List.map_append, List.sum_append]; simp
theorem partSum_end (xs : Nat → Int) (l : Nat) : partSum xs l ((l + 1) / 2) = rawN xs l := by
  by_cases he : l % 2 = 0
  · have : (l + 1) / 2 = l / 2 := by omega
    rw [this]
    have h := rawN_even xs l (l / 2) (by omega)
    rw [show 2 * (l / 2) = l from by omega] at h
    exact h.symm
  · have : (l + 1) / 2 = l / 2 + 1 := by omega
    rw [this, partSum_succ]
    have h := rawN_even xs l (l / 2) (by omega)
    have e : rawN xs l = rawN xs (2 * (l / 2)) + xs (2 * (l / 2)) * 256 := by
      have : l = 2 * (l / 2) + 1 := by omega
      rw [this]
      simp only [rawN]
      rw [if_pos (by omega), show (2 * (l / 2) + 1) / 2 = l / 2 from by omega]
    rw [e, h]
    unfold partSum wordAt
    rw [if_neg (by omega : ¬ (2 * (l / 2) + 1 < l))]
    omega
theorem wordAt_bd (xs : Nat → Int) (l j : Nat) (hx : ∀ i, i < l → 0 ≤ xs i ∧ xs i ≤ 255) (hj : 2 * j < l) : 0 ≤ wordAt xs l j ∧ wordAt xs l j ≤ 65535 := by
  have h1 := hx _ hj
  unfold wordAt
  split
  · have := hx _ ‹_›; omega
  · omega
theorem partSum_bd (xs : Nat → Int) (l : Nat) (hx : ∀ i, i < l → 0 ≤ xs i ∧ xs i ≤ 255) : ∀ k, 2 * k ≤ l + 1 → 0 ≤ partSum xs l k
  | 0, _ => by simp [partSum]
  | k + 1, h => by
    have h1 := partSum_bd xs l hx k (by omega)
    have h2 := wordAt_bd xs l k hx (by omega)
    rw [partSum_succ]; omega
theorem wordsL_ints (xs : Nat → Int) (l k : Nat) : wordsL xs l k = ((List.range k).map (wordAt xs l)).map (Value.int .u16) := by simp [wordsL]
/-- Same: are two lists of bytes the same? -/
def sameN (xs ys : Nat → Int) (l m : Nat) : Bool := decide (l = m ∧ ∀ i, i < l → xs i = ys i)
set_option maxHeartbeats 1000000 in
theorem rsame_any (oa ob : Option Addr) (l c m c2 : Nat) (xs ys : Nat → Int) (w : World) (hl : l ≤ 9223372036854775807) (hm : m ≤ 9223372036854775807) (hI : IntsAt w oa l .u8 xs) (hJ : IntsAt w ob m .u8 ys) :
    Calls Try.prog 33 #[.slice oa l c, .slice ob m c2] w fun e w' => e = .returned (.bool (sameN xs ys l m)) ∧ Junk w w' := by
  by_cases hlm : l = m
  · subst hlm
    go_enter Try.func33, Try.ntmps33
    go_wp2
    go_loopw [5] (fun i wr => ∃ k : Nat, k ≤ l ∧ i = .int .i64 k ∧ Junk w wr ∧ ∀ j, j < k → xs j = ys j) (fun i _ => l - (intOf i).toNat)
    case atStart => exact ⟨0, Nat.zero_le _, rfl, Junk.refl _, fun j hj => by omega⟩
    case round =>
      obtain ⟨k, hk, rfl, ⟨os, d, rfl⟩, hall⟩ := hrel
      have Hall := Lib.hid hall
      clear hall
      by_cases hlt : k < l
      · obtain ⟨b, off, rfl, hblk, hc⟩ := hI k hlt
        obtain ⟨b', off', rfl, hblk', hc'⟩ := hJ k hlt
        clear hI hJ
        by_cases hxy : xs k = ys k
        · have hxy2 : (xs k != ys k) = false := by simp [hxy]
          have Hxy := Lib.hid hxy
          clear hxy
          go_wp2
          refine wp_region_junk (by kernel_rfl) (by kernel_rfl) ?_; (repeat (refine wpQuiet_step (fun K hK => ?_); go_simp; first | (refine hK _ ?_; clear hK K) | (apply Exists.intro; refine ⟨fun _ => ?_, hK _ ?_⟩; (first | fail); clear hK K))); refine wpQuiet_nil ?_; rintro _ ⟨⟨osq, dq⟩, rfl⟩
          go_wp2
          go_roundw
          case rel => exact ⟨k + 1, by omega, by go_num, by (exact jkc), fun j hj => by
            by_cases hjk : j = k
            · rw [hjk]; exact Hxy.out
            · exact Hall.out j (by omega)⟩
          case measure => simp [intOf]; omega
        · have hxy2 : (xs k != ys k) = true := by simp [hxy]
          go_wp2
          refine wp_region_junk (by kernel_rfl) (by kernel_rfl) ?_; (repeat (refine wpQuiet_step (fun K hK => ?_); go_simp; first | (refine hK _ ?_; clear hK K) | (apply Exists.intro; refine ⟨fun _ => ?_, hK _ ?_⟩; (first | fail); clear hK K))); refine wpQuiet_nil ?_; rintro _ ⟨⟨osq, dq⟩, rfl⟩
          go_wp2
          go_ret
          exact ⟨ret_bool (by simp [sameN]; exact ⟨k, hlt, hxy⟩), by (exact jkc)⟩
      · obtain rfl : k = l := by omega
        go_wp2
        go_ret
        exact ⟨ret_bool (by simp [sameN]; exact Hall.out), by (exact jkc)⟩
  · have h2 : (l != m) = true := by simp [hlm]
    have h3 : ((l : Int) != (m : Int)) = true := by simp; omega
    go_enter Try.func33, Try.ntmps33
    go_wp2
    go_ret
    exact ⟨ret_bool (by simp [sameN, hlm]), by (exact jkc)⟩
end Go.Proofs.Ytgjppmkadmfibaa
set_option linter.unusedVariables false
set_option maxRecDepth 100000
set_option linter.unusedSimpArgs false
namespace Go.Proofs.Ytgjppmkadmfibaa
open Go.RowKit
/-- Nil, or in a block from 'B' on. -/
def Fresh (B : Nat) (oa : Option Addr) : Prop := ∀ a, oa = some a → B ≤ a.block
theorem own_fresh {B : Nat} {w : World} {e : TypeId} {size : Nat} {oa : Option Addr} {cap n : Nat} {xs : List Value} (h : Own B w e size oa cap n xs) : Fresh B oa := fun a ha => by
  rcases h.form with ⟨h1, _⟩ | ⟨g, cur, h1, h2, _⟩
  · rw [h1] at ha; cases ha
  · rw [h1] at ha; cases ha; exact h2
theorem Fresh.lower {B B' : Nat} {oa : Option Addr} (h : Fresh B oa) (hB : B' ≤ B) : Fresh B' oa := fun a ha => Nat.le_trans hB (h a ha)
theorem Fresh.nil (B : Nat) : Fresh B none := fun a ha => by cases ha
/-- What lies in new memory stays when the call's own block before it is written. -/
theorem bts_over {w : World} {cur cur' : Array Value} {t : TypeId} {os os' : Array Obj} {d d' : Nat} {oa : Option Addr} {l c : Nat} {xs : Nat → Int}
    (h : Bts ((w.alloc (.cells cur t)).junk os d) oa l c xs) (hf : Fresh (w.heap.size + 1) oa) (ho : ∃ x, os' = os ++ x) : Bts ((w.alloc (.cells cur' t)).junk os' d') oa l c xs := by
  obtain ⟨x, rfl⟩ := ho
  refine ⟨fun i hi => ?_, h.byte, h.nil, h.le, h.cap⟩
  obtain ⟨b, off, he, hlt, hc⟩ := h.at_ i hi
  have hb := hf _ he
  simp only at hb
  refine ⟨b, off, he, by simp at hlt ⊢; omega, ?_⟩
  rw [← hc]
  apply World.cell?_of_block
  simp only [World.junk, World.alloc]
  rw [← Array.append_assoc, Array.getElem?_append_left (by simp at hlt ⊢; omega), Array.getElem?_append_right (by simp; omega), Array.getElem?_append_right (by simp; omega)]
  simp
/-- A copy: new memory that holds the same bytes. -/
def Cloned (w : World) (oa : Option Addr) (l : Nat) (xs : Nat → Int) (e : Ending) (w' : World) : Prop :=
  ∃ oc c, e = .returned (.slice oc l c) ∧ Junk w w' ∧ Bts w' oc l c xs ∧ (oc = none → oa = none) ∧ Fresh w.heap.size oc
/-- A part of a slice of bytes. -/
theorem bts_sub {w : World} {b off l c : Nat} {xs : Nat → Int} (h : Bts w (some ⟨b, off, none⟩) l c xs) (i j : Nat) (hij : i ≤ j) (hj : j ≤ l) :
    Bts w (if c = i then some ⟨b, off, none⟩ else some ⟨b, off + i, none⟩) (j - i) (c - i) (fun k => xs (i + k)) := by
  have hle := h.le
  have hcap := h.cap
  refine ⟨fun k hk => ?_, fun k hk => h.byte _ (by omega), fun hn => (by split at hn <;> cases hn), by omega, by omega⟩
  obtain ⟨b', off', he, hlt, hc⟩ := h.at_ (i + k) (by omega)
  cases he
  rw [if_neg (by omega)]
  exact ⟨b, off + i, rfl, hlt, by rw [Nat.add_assoc]; exact hc⟩
theorem own_bts {B : Nat} {w : World} {oa : Option Addr} {cap n : Nat} {xs : Nat → Int} (h : Own B w 5 1 oa cap n ((List.range n).map fun i => Value.int .u8 (xs i))) (hx : ∀ i, i < n → 0 ≤ xs i ∧ xs i ≤ 255) : Bts w oa n cap xs := by
  have h2 : Own B w 5 1 oa cap n (((List.range n).map xs).map (Value.int .u8)) := by rw [List.map_map]; exact h
  refine ⟨fun i hi => ?_, hx, ?_, h.capLe.1, h.capLe.2⟩
  · obtain ⟨b, off, h3, h4, h5⟩ := h2.ints i hi
    refine ⟨b, off, h3, h4, ?_⟩
    rw [h5]
    simp [List.getD, hi]
  · intro hn
    rcases h.form with ⟨_, h3, h4⟩ | ⟨g, cur, h3, _⟩
    · exact ⟨h3, h4⟩
    · rw [hn] at h3; cases h3
theorem range_ext {n m : Nat} {f : Nat → Value} : (List.range n).map f ++ ((List.range m).map fun i => f (n + i)) = (List.range (n + m)).map f := by
  rw [List.range_add, List.map_append, List.map_map]; rfl
set_option maxHeartbeats 400000 in
theorem clone_any (oa : Option Addr) (l c : Nat) (xs : Nat → Int) (w : World) (hl : l ≤ 100000000) (hB : Bts w oa l c xs) :
    Calls Try.prog 24 #[.slice oa l c] w (Cloned w oa l xs) := by
  cases oa with
  | none =>
    obtain ⟨rfl, rfl⟩ := hB.nil rfl
    have hnil := @Lib.run_eql_slice_nil Try.prog
    go_enter Try.func24, Try.ntmps24
    go_wp2
    go_ret
    exact ⟨_, _, rfl, Junk.refl _, hB, fun _ => rfl, Fresh.nil _⟩
  | some a =>
    have hB2 := Lib.hid hB
    clear hB
    have hne := fun (w : World) => Lib.run_eql_slice_nil (P := Try.prog) w 23 5 (some a) l c 0 0 Try.underlying23
    go_enter Try.func24, Try.ntmps24
    go_wp2_with (at_builtin; (refine ap_own (W0 := w) rfl _ _ 23 rfl 5 (.int .u8 0) 1 1 (by kernel_rfl) rfl (by decide) Try.underlying23 (by (exact jkc)) _ _ 0 [] rfl (World.ownsRow_made w _ 0 (Nat.le_refl _) (Nat.zero_le _) rfl) _ _ c rfl ((List.range l).map fun i => .int .u8 (xs i)) (by simp; try omega) (hB2.out.at_.on (by (exact jkc))).src (fun h => by cases h) (by simp [Value.oneCell']) (by simp only [maxLen]; omega) (by omega) ?_; intro ob' cap' os' d' hown' hnn))
    rw [List.nil_append, Nat.zero_add] at hown'
    go_ret
    exact ⟨_, _, rfl, by (exact jkc), own_bts hown' hB2.out.byte, fun h => (by cases (hnn h).1), own_fresh hown'⟩

end Go.Proofs.Ytgjppmkadmfibaa
set_option linter.unusedVariables false
set_option maxRecDepth 100000
set_option linter.unusedSimpArgs false
namespace Go.Proofs.Ytgjppmkadmfibaa
open Go.RowKit
theorem u8_inj {a b : Int} (ha : 0 ≤ a ∧ a ≤ 255) (hb : 0 ≤ b ∧ b ≤ 255) (h : UInt8.ofNat a.toNat = UInt8.ofNat b.toNat) : a = b := by
  have h2 := congrArg UInt8.toNat h
  simp only [UInt8.toNat_ofNat'] at h2
  omega
theorem str_same {xs ys : Nat → Int} {l m : Nat} (hx : ∀ i, i < l → 0 ≤ xs i ∧ xs i ≤ 255) (hy : ∀ i, i < m → 0 ≤ ys i ∧ ys i ≤ 255) :
    (strOfNums ((List.range l).map xs)).toList = (strOfNums ((List.range m).map ys)).toList ↔ (l = m ∧ ∀ i, i < l → xs i = ys i) := by
  rw [Lib.strOfNums_toList, Lib.strOfNums_toList]
  unfold Lib.bytesOf
  simp only [List.map_map]
  constructor
  · intro h
    have hl := congrArg List.length h
    simp at hl
    subst hl
    refine ⟨rfl, fun i hi => ?_⟩
    have := congrArg (fun l => l[i]?) h
    simp [hi] at this
    exact u8_inj (hx i hi) (hy i hi) this
  · rintro ⟨rfl, h⟩
    apply List.map_congr_left
    intro i hi
    simp [h i (by simpa using hi)]
theorem IntsAt.bytesIn {w : World} {oa : Option Addr} {l : Nat} {xs : Nat → Int} (h : IntsAt w oa l .u8 xs) : Lib.BytesIn w oa l ((List.range l).map xs) := by
  intro hl
  obtain ⟨b, off, rfl, _, _⟩ := h 0 hl
  refine ⟨b, off, rfl, fun i hi => ?_⟩
  obtain ⟨b', off', he, _, hc⟩ := h i hi
  cases he
  rw [hc]
  simp [List.getD, hi]
set_option maxHeartbeats 400000 in
theorem equal_any (oa ob : Option Addr) (l c m c2 : Nat) (xs ys : Nat → Int) (w : World) (hI : IntsAt w oa l .u8 xs) (hJ : IntsAt w ob m .u8 ys)
    (hx : ∀ i, i < l → 0 ≤ xs i ∧ xs i ≤ 255) (hy : ∀ i, i < m → 0 ≤ ys i ∧ ys i ≤ 255) :
    Calls Try.prog 41 #[.slice oa l c, .slice ob m c2] w fun e w' => e = .returned (.bool (sameN xs ys l m)) ∧ w = w' := by
  have h1 := (IntsAt.bytesIn hI).convert (P := Try.prog) (by simp) c _ _ _ Try.underlying23 Try.underlying5 Try.underlying9
  have h2 := (IntsAt.bytesIn hJ).convert (P := Try.prog) (by simp) c2 _ _ _ Try.underlying23 Try.underlying5 Try.underlying9
  have Hs := Lib.hid (str_same hx hy)
  clear hx hy hI hJ
  generalize hS : strOfNums (List.map xs (List.range l)) = S at *
  generalize hT : strOfNums (List.map ys (List.range m)) = T at *
  go_enter Try.func41, Try.ntmps41
  go_wp2
  go_ret
  refine ⟨ret_bool ?_, rfl⟩
  have hs := Hs.out
  unfold sameN
  simp only [← hs]
  rw [Bool.eq_iff_iff]
  simp
end Go.Proofs.Ytgjppmkadmfibaa
set_option linter.unusedVariables false
set_option maxRecDepth 100000
namespace Go.Proofs.Ytgjppmkadmfibaa
open Go.RowKit
instance : Inhabited Jk3 := ⟨⟨#[], #[], 0⟩⟩
theorem own_made {B : Nat} (w : World) (e : TypeId) (size cap n : Nat) (cur : Array Value) (hn : n = w.heap.size) (hb : B ≤ w.heap.size) (hm : cap ≤ maxLen) (hs : cur.size = cap * size) : Own B (w.alloc (.cells cur e)) e size (some ⟨n, 0, none⟩) cap 0 [] := by
  subst hn; exact World.ownsRow_made w cur cap hb hm hs
/-- The same, where more has come behind. -/
theorem own_made' {B : Nat} {w : World} {e : TypeId} {size cap n : Nat} {cur : Array Value} (os : Array Obj) (d : Nat) (hn : n = w.heap.size) (hb : B ≤ w.heap.size) (hm : cap ≤ maxLen) (hs : cur.size = cap * size) : Own B ((w.alloc (.cells cur e)).junk os d) e size (some ⟨n, 0, none⟩) cap 0 [] :=
  (own_made w e size cap n cur hn hb hm hs).on ⟨os, d, rfl⟩
theorem own_lit {B : Nat} (w : World) (e : TypeId) (n m : Nat) (cur : Array Value) (hn : n = w.heap.size) (hb : B ≤ w.heap.size) (hm : m = cur.size) (hmax : m ≤ maxLen) : Own B (w.alloc (.cells cur e)) e 1 (some ⟨n, 0, none⟩) m m cur.toList := by
  subst hn hm
  refine ⟨by simp, .inr ⟨w.heap.size, cur.size, cur, rfl, hb, heap_alloc_new w _, Nat.le_refl _, hmax, by simp, by rw [Nat.mul_one, ← Array.length_toList, List.take_length]⟩⟩
theorem own_lit' {B : Nat} {w : World} {e : TypeId} {n m : Nat} {cur : Array Value} (os : Array Obj) (d : Nat) (hn : n = w.heap.size) (hb : B ≤ w.heap.size) (hm : m = cur.size) (hmax : m ≤ maxLen) : Own B ((w.alloc (.cells cur e)).junk os d) e 1 (some ⟨n, 0, none⟩) m m cur.toList :=
  (own_lit w e n m cur hn hb hm hmax).on ⟨os, d, rfl⟩
theorem cell_over {w : World} {cur : Array Value} {t : TypeId} {os : Array Obj} {d g i : Nat} {v : Value} (hg : w.heap.size + 1 ≤ g) (hlt : g < ((w.alloc (.cells cur t)).junk os d).heap.size)
    (hc : ((w.alloc (.cells cur t)).junk os d).cell? ⟨g, i, none⟩ = some v) (cur' : Array Value) (os' : Array Obj) (d' : Nat) : ((w.alloc (.cells cur' t)).junk (os ++ os') d').cell? ⟨g, i, none⟩ = some v := by
  rw [← hc]
  apply World.cell?_of_block
  simp only [World.junk, World.alloc]
  rw [← Array.append_assoc, Array.getElem?_append_left (by simp at hlt ⊢; omega), Array.getElem?_append_right (by simp; omega), Array.getElem?_append_right (by simp; omega)]
  simp
end Go.Proofs.Ytgjppmkadmfibaa
set_option linter.unusedVariables false
set_option maxRecDepth 100000
set_option linter.unusedSimpArgs false
namespace Go
open Go.RowKit
/-- n bytes. -/
def rowArr (n : Nat) (xs : Nat → Int) : Array Value := ((List.range n).map fun i => Value.int .u8 (xs i)).toArray
def upd (xs : Nat → Int) (i : Nat) (v : Int) : Nat → Int := fun k => if k = i then v else xs k
def putAt (xs : Nat → Int) (off m : Nat) (ys : Nat → Int) : Nat → Int := fun k => if off ≤ k ∧ k < off + m then ys (k - off) else xs k
theorem upd_same (xs : Nat → Int) (i : Nat) (v : Int) : upd xs i v i = v := by simp [upd]
theorem upd_other (xs : Nat → Int) (i j : Nat) (v : Int) (h : j ≠ i) : upd xs i v j = xs j := by simp [upd, h]
@[simp, go_sem] theorem size_rowArr (n : Nat) (xs : Nat → Int) : (rowArr n xs).size = n := by simp [rowArr]
@[go_sem] theorem rowArr_get (n i : Nat) (xs : Nat → Int) (h : i < n) : (rowArr n xs)[i]? = some (.int .u8 (xs i)) := by simp [rowArr, h]
@[go_sem] theorem rowArr_set (n i : Nat) (xs : Nat → Int) (v : Int) : (rowArr n xs).setIfInBounds i (.int .u8 v) = rowArr n (upd xs i v) := by
  apply Array.ext_getElem?
  intro j
  simp only [rowArr, Array.getElem?_setIfInBounds, List.getElem?_toArray, List.getElem?_map, List.size_toArray, List.length_map, List.length_range]
  by_cases hj : j < n
  · by_cases hij : i = j
    · subst hij; simp [hj, upd]
    · simp [hj, upd, hij, Ne.symm hij]
  · by_cases hij : i = j
    · subst hij; simp [hj]
    · simp [hj, hij]
theorem rowArr_made (n : Nat) : madeCells #[.int .u8 0] n = rowArr n (fun _ => 0) := by
  apply Array.ext_getElem?
  intro j
  simp only [madeCells, rowArr]
  by_cases hj : j < n
  · simp [hj, Nat.mod_one]
  · simp [hj]
theorem rowArr_congr {n : Nat} {xs ys : Nat → Int} (h : ∀ i, i < n → xs i = ys i) : rowArr n xs = rowArr n ys := by
  unfold rowArr
  congr 1
  apply List.map_congr_left
  intro i hi
  rw [h i (by simpa using hi)]
theorem rowArr_splice {n off m : Nat} {xs ys : Nat → Int} (h : off + m ≤ n) :
    ((rowArr n xs).toList.take off ++ (((List.range m).map fun i => Value.int .u8 (ys i)) ++ (rowArr n xs).toList.drop (off + m))).toArray = rowArr n (putAt xs off m ys) := by
  unfold rowArr
  congr 1
  apply List.ext_getElem?
  intro j
  simp only [List.getElem?_append, List.length_take, List.length_map, List.length_range, List.getElem?_take, List.getElem?_map, List.getElem?_drop, putAt]
  have e : min off n = off := by omega
  rw [e]
  by_cases h1 : j < off
  · rw [if_pos h1, if_pos h1]
    by_cases hj : j < n
    · rw [List.getElem?_range hj]; simp; omega
    · omega
  · rw [if_neg h1]
    by_cases h2 : j - off < m
    · rw [if_pos h2, List.getElem?_range h2, List.getElem?_range (by omega : j < n)]
      simp
      omega
    · rw [if_neg h2, show off + m + (j - off - m) = j from by omega]
      by_cases hj : j < n
      · rw [List.getElem?_range hj]; simp; omega
      · simp [hj]
theorem putAt_nil (xs ys : Nat → Int) (off : Nat) : putAt xs off 0 ys = xs := by
  funext k; simp [putAt]; omega
theorem setRow_alloc (w : World) (c c' : Array Value) (t : TypeId) : (w.alloc (.cells c t)).setRow w.heap.size c' = w.alloc (.cells c' t) := by
  simp only [World.setRow, World.alloc]
  congr 1
  apply Array.ext_getElem?
  intro j
  simp only [Array.getElem?_modify, Array.getElem?_push]
  by_cases hj : w.heap.size = j
  · subst hj; simp
  · simp [hj, Ne.symm hj]
theorem setRow_allocj (w : World) (c c' : Array Value) (t : TypeId) (os : Array Obj) (d : Nat) : ((w.alloc (.cells c t)).junk os d).setRow w.heap.size c' = (w.alloc (.cells c' t)).junk os d := by
  simp only [World.setRow, World.alloc, World.junk]
  congr 1
  apply Array.ext_getElem?
  intro j
  simp only [Array.getElem?_modify, Array.getElem?_append, Array.getElem?_push, Array.size_push]
  by_cases hj : w.heap.size = j
  · subst hj; simp
  · simp [hj, Ne.symm hj]
/-- 'copy' of bytes into a block that is known whole. -/
theorem cp_bytes_wp {P : Program} {o : Oper} {a : Act} {K : Act → World → Prop} {Q : Exit → Act → World → Prop} {w : World} (d s : Operand) (dT sT : TypeId)
    (ho : o.op = .call { callee := .builtin .copy, args := #[d, s], argTypes := #[dT, sT] }) (elem : TypeId) (hu : P.underlying dT = some (.slice elem)) (hsz : (P.info? elem).map (·.size) = some 1)
    (dp sp : Option Addr) (dLen dCap sLen sCap : Nat) (hd : a.eval d = .slice dp dLen dCap) (hs : a.eval s = .slice sp sLen sCap)
    (w0 : World) (n : Nat) (xs : Nat → Int) (t : TypeId) (os : Array Obj) (dd : Nat) (hw : w = (w0.alloc (.cells (rowArr n xs) t)).junk os dd) (off m : Nat) (ys : Nat → Int) (hm : Nat.min sLen dLen = m)
    (hpos : 0 < m → dp = some ⟨w0.heap.size, off, none⟩) (hfit : off + m ≤ n) (hsrc : IntsAt w sp m .u8 ys)
    (h : K (a.put o.dst (goInt m)) ((w0.alloc (.cells (rowArr n (putAt xs off m ys)) t)).junk os dd)) : o.wp P a w K Q := by
  subst hw
  by_cases h0 : m = 0
  · subst h0
    rw [putAt_nil] at h
    have hrun := run_copy_none (P := P) ((w0.alloc (.cells (rowArr n xs) t)).junk os dd) dT sT o.type elem dp sp dLen dCap sLen sCap hu hsz hm
    unfold Oper.wp
    simp [execOp, ho, resolve, invoke, builtin, hd, hs, hrun, Result.andThen]
    exact h
  · obtain ⟨b, o', rfl, _, _⟩ := hsrc 0 (by omega)
    obtain rfl := hpos (by omega)
    have hl : ((List.range m).map fun i => Value.int .u8 (ys i)).length = m := by simp
    have hg : ((w0.alloc (.cells (rowArr n xs) t)).junk os dd).heap[w0.heap.size]? = some (.cells (rowArr n xs) t (0, 0)) := by
      rw [World.heap_junk _ _ _ (by simp)]; exact heap_alloc_new w0 _
    have hrun := run_copy_row (P := P) ((w0.alloc (.cells (rowArr n xs) t)).junk os dd) dT sT o.type elem w0.heap.size off dLen dCap ⟨b, o', none⟩ sLen sCap (rowArr n xs) t ((List.range m).map fun i => Value.int .u8 (ys i)) hu hsz hg (by rw [hl, hm]) (hsrc.src _ rfl) (by rw [hl]; simpa using hfit) (by simp [Value.oneCell'])
    rw [hl, setRow_allocj, List.append_assoc, rowArr_splice hfit] at hrun
    unfold Oper.wp
    simp [execOp, ho, resolve, invoke, builtin, hd, hs, hrun, Result.andThen]
    exact h
/-- 'copy' of bytes into the block that was made last. -/
theorem wpList_copy_bytes {P : Program} {w : World} {ops : Array Oper} {rest : List Oper} {o : Oper} {a : Act} {Q : Exit → Act → World → Prop} (hgd : o.guard = none) (d s : Operand) (dT sT : TypeId)
    (ho : o.op = .call { callee := .builtin .copy, args := #[d, s], argTypes := #[dT, sT] }) (elem : TypeId) (hu : P.underlying dT = some (.slice elem)) (hsz : (P.info? elem).map (·.size) = some 1)
    (dp sp : Option Addr) (dLen dCap sLen sCap : Nat) (hd : a.eval d = .slice dp dLen dCap) (hs : a.eval s = .slice sp sLen sCap)
    (w0 : World) (n : Nat) (xs : Nat → Int) (t : TypeId) (hw : w = w0.alloc (.cells (rowArr n xs) t)) (off m : Nat) (ys : Nat → Int) (hm : Nat.min sLen dLen = m)
    (hpos : 0 < m → dp = some ⟨w0.heap.size, off, none⟩) (hfit : off + m ≤ n) (hsrc : IntsAt w sp m .u8 ys)
    (h : wpList P ops Q rest (a.put o.dst (goInt m)) (w0.alloc (.cells (rowArr n (putAt xs off m ys)) t))) : wpList P ops Q (o :: rest) a w := by
  subst hw
  by_cases h0 : m = 0
  · subst h0
    rw [putAt_nil] at h
    exact wpList_copy_nothing hgd d s dT sT ho elem hu hsz dp sp dLen dCap sLen sCap hd hs hm h
  · obtain ⟨b, o', rfl, _, _⟩ := hsrc 0 (by omega)
    obtain rfl := hpos (by omega)
    have hl : ((List.range m).map fun i => Value.int .u8 (ys i)).length = m := by simp
    refine wpList_copy_own hgd d s dT sT ho elem hu hsz w0.heap.size off dLen dCap ⟨b, o', none⟩ sLen sCap hd hs (rowArr n xs) t (heap_alloc_new w0 _) ((List.range m).map fun i => Value.int .u8 (ys i)) (by rw [hl, hm]) (hsrc.src _ rfl) (by simpa using hfit) (by simp [Value.oneCell']) ?_
    rw [hl, setRow_alloc, rowArr_splice hfit]
    exact h
/-- What has come behind matters no more. -/
theorem then_gen {K : Act → World → Prop} {Q : Exit → Act → World → Prop} {x : Exit} {a : Act} {w : World} {os : Array Obj} {d : Nat} (h : ∀ os d, Exit.then K Q x a (w.junk os d)) : Exit.then K Q x a (w.junk os d) := h os d
/-- Reading the block. -/
theorem ints_row (w : World) (n : Nat) (xs : Nat → Int) (t : TypeId) (g off l : Nat) (hg : g = w.heap.size) (h : off + l ≤ n) : IntsAt (w.alloc (.cells (rowArr n xs) t)) (some ⟨g, off, none⟩) l .u8 (fun i => xs (off + i)) := by
  subst hg
  intro i hi
  refine ⟨w.heap.size, off, rfl, by simp, ?_⟩
  rw [World.cell?_alloc_new, rowArr_get _ _ _ (by omega)]
end Go
set_option linter.unusedVariables false
set_option maxRecDepth 100000
set_option linter.unusedSimpArgs false
namespace Go.Proofs.Ytgjppmkadmfibaa
open Go.RowKit
def t_withinB (n m : Int) : Bool := decide (0 ≤ n ∧ n ≤ m)
theorem t_withinB_true {n m : Int} (h : t_withinB n m = true) : 0 ≤ n ∧ n ≤ m := by simpa [t_withinB] using h
theorem t_ints_rowj (V : World) (n : Nat) (xs : Nat → Int) (t : TypeId) (os : Array Obj) (d g off l : Nat) (hg : g = V.heap.size) (h : off + l ≤ n) : IntsAt ((V.alloc (.cells (rowArr n xs) t)).junk os d) (some ⟨g, off, none⟩) l .u8 (fun i => xs (off + i)) :=
  (ints_row V n xs t g off l hg h).on ⟨os, d, rfl⟩
theorem t_bts_cell {w : World} {b off l c : Nat} {xs : Nat → Int} (h : Bts w (some ⟨b, off, none⟩) l c xs) (i : Nat) (hi : i < l) : b < w.heap.size ∧ w.cell? ⟨b, off + i, none⟩ = some (.int .u8 (xs i)) := by
  obtain ⟨b', off', he, h1, h2⟩ := h.at_ i hi
  cases he
  exact ⟨h1, h2⟩
def pseudoN (src dst proto size : Int) : Int := src / 65536 + src % 65536 + dst / 65536 + dst % 65536 + proto + size
theorem foldI_add {a b : Int} (ha : 0 ≤ a) (hb : 0 ≤ b) : foldI (foldI a + foldI b) = foldI (a + b) := by
  unfold foldI
  by_cases h0 : a = 0
  · subst h0
    by_cases h1 : b = 0
    · subst h1; rfl
    · simp only [if_true]
      rw [if_neg h1, if_neg (by omega), if_neg (by omega)]
      omega
  · by_cases h1 : b = 0
    · subst h1
      simp only [if_true]
      rw [if_neg h0, if_neg (by omega), if_neg (by omega)]
      omega
    · rw [if_neg h0, if_neg h1, if_neg (by omega), if_neg (by omega)]
      omega
/-- The sum of a segment with its pseudo head. -/
def tsumN (src dst : Int) (xs : Nat → Int) (l : Nat) : Int := foldI (pseudoN src dst 6 l + rawN xs l)
theorem pseudoN_bd {src dst proto size : Int} (h1 : 0 ≤ src ∧ src ≤ 4294967295) (h2 : 0 ≤ dst ∧ dst ≤ 4294967295) (h3 : 0 ≤ proto ∧ proto ≤ 65535) (h4 : 0 ≤ size ∧ size ≤ 65535) : 0 ≤ pseudoN src dst proto size := by unfold pseudoN; omega
end Go.Proofs.Ytgjppmkadmfibaa
set_option linter.unusedVariables false
set_option maxRecDepth 100000
set_option linter.unusedSimpArgs false
namespace Go.Proofs.Ytgjppmkadmfibaa
open Go.RowKit
def byteful (n : Int) : Bool := decide (0 ≤ n ∧ n ≤ 255)
def asksB (t : Int) : Bool := decide (t = 8 ∨ t = 13)
def answersB (t : Int) : Bool := decide (t = 0 ∨ t = 14)
def errorB (t : Int) : Bool := decide (t = 3 ∨ t = 4 ∨ t = 11 ∨ t = 12)
/-- Where a number first stands; -1 if nowhere. -/
def hasI (xs : Nat → Int) (l : Nat) (v : Int) : Bool := decide (∃ i, i < l ∧ xs i = v)
def FoundI (w : World) (xs : Nat → Int) (l : Nat) (v : Int) (e : Ending) (w' : World) : Prop :=
  ∃ n : Int, e = .returned (.int .i64 n) ∧ w = w' ∧ ((0 ≤ n ∧ ∃ i, i < l ∧ xs i = v) ∨ (n = -1 ∧ ∀ i, i < l → xs i ≠ v))
theorem ints_lit (w : World) (vs : List Value) (ns : List Int) (e : TypeId) (h : vs = ns.map (Value.int .i64)) : IntsAt (w.alloc (.cells vs.toArray e)) (some ⟨w.heap.size, 0, none⟩) ns.length .i64 (fun i => ns.getD i 0) := by
  intro i hi
  refine ⟨w.heap.size, 0, rfl, by rw [World.size_alloc]; omega, ?_⟩
  rw [Nat.zero_add, World.cell?_alloc_new, h]
  simp [List.getD, hi]
def nameI (t r : Int) : Int := if asksB t || answersB t then r / 65536 else 0
def msame (t c r t' c' r' : Int) (xs ys : Nat → Int) (l m : Nat) : Bool := (t == t') && (c == c') && (r == r') && sameN xs ys l m
end Go.Proofs.Ytgjppmkadmfibaa
set_option linter.unusedVariables false
set_option maxRecDepth 100000
set_option linter.unusedSimpArgs false
namespace Go.Proofs.Ytgjppmkadmfibaa
open Go.RowKit
theorem rpseudo_sum (a b c d e f : Int) (ha : 0 ≤ a ∧ a ≤ 65535) (hb : 0 ≤ b ∧ b ≤ 65535) (hc : 0 ≤ c ∧ c ≤ 65535) (hd : 0 ≤ d ∧ d ≤ 65535) (he : 0 ≤ e ∧ e ≤ 65535) (hf : 0 ≤ f ∧ f ≤ 65535) :
    joinI (joinI (joinI (joinI (joinI (joinI 0 a) b) c) d) e) f = foldI (a + b + c + d + e + f) := by
  rw [show (0 : Int) = foldI 0 from rfl, joinI_fold (by omega) ha, joinI_fold (by omega) hb, joinI_fold (by omega) hc, joinI_fold (by omega) hd, joinI_fold (by omega) he, joinI_fold (by omega) hf]
  congr 1
  omega
/-- An option, and where its data lies. -/
structure Ot where
  k : Int
  oa : Option Addr
  l : Nat
  c : Nat
  xs : Nat → Int
abbrev Ot.val (f : Ot) : Value := .agg #[.int .i64 f.k, .slice f.oa f.l f.c]
def Ot.cells (f : Ot) : List Value := [.int .i64 f.k, .slice f.oa f.l f.c]
/-- Options in memory. -/
def OsAt (w : World) (ob : Option Addr) (F : List Ot) : Prop := ∀ i f, F[i]? = some f → ∃ b off, ob = some ⟨b, off, none⟩ ∧ b < w.heap.size ∧
  w.cell? ⟨b, off + i * 2, none⟩ = some (.int .i64 f.k) ∧ w.cell? ⟨b, off + i * 2 + 1, none⟩ = some (.slice f.oa f.l f.c) ∧ Bts w f.oa f.l f.c f.xs
theorem OsAt.on {w w' : World} {ob : Option Addr} {F : List Ot} (h : OsAt w ob F) (hj : Junk w w') : OsAt w' ob F := fun i f hf => by
  obtain ⟨b, off, he, hlt, h0, h1, h2⟩ := h i f hf
  have hb := hj.below (Nat.le_refl _)
  exact ⟨b, off, he, Nat.lt_of_lt_of_le hlt hb.size, (hb.cell (p := ⟨b, _, none⟩) hlt).trans h0, (hb.cell (p := ⟨b, _, none⟩) hlt).trans h1, h2.on hj⟩
theorem OsAt.take {w : World} {ob : Option Addr} {F : List Ot} (h : OsAt w ob F) (k : Nat) : OsAt w ob (F.take k) := fun i f hf => h i f (by
  rw [List.getElem?_take] at hf
  split at hf
  · exact hf
  · cases hf)
theorem OsAt.nil (w : World) (ob : Option Addr) : OsAt w ob [] := fun i f hf => by simp at hf
def knownB (k : Int) : Bool := decide (k = 2 ∨ k = 3 ∨ k = 4 ∨ k = 5 ∨ k = 8)
def okSize (k : Int) (l : Nat) : Bool := decide ((k = 2 ∧ l = 2) ∨ (k = 3 ∧ l = 1) ∨ (k = 4 ∧ l = 0) ∨ (k = 5 ∧ (l = 8 ∨ l = 16 ∨ l = 24 ∨ l = 32)) ∨ (k = 8 ∧ l = 8))
def KnownM (w : World) (k : Int) (e : Ending) (w' : World) : Prop :=
  ∃ oa n vs, e = .returned (.tuple #[.slice oa n n, .bool (knownB k)]) ∧ Junk w w' ∧ n ≤ 10 ∧ IntsAt w' oa n .i64 vs ∧ (knownB k = true → ∀ l : Nat, hasI vs n (l : Int) = okSize k l)
theorem lits_at {w : World} {vs : List Value} {ns : List Int} {e : TypeId} (h : vs = ns.map (Value.int .i64)) : IntsAt (w.alloc (.cells vs.toArray e)) (some ⟨w.heap.size, 0, none⟩) ns.length .i64 (fun i => ns[i]?.getD 0) := fun i hi => by
  subst h
  refine ⟨w.heap.size, 0, rfl, by simp, ?_⟩
  rw [World.cell?_alloc_new]
  simp [List.getElem?_eq_getElem hi]
theorem has1 (v : Int) (l : Nat) : hasI (fun i => ([v] : List Int)[i]?.getD 0) 1 (l : Int) = decide ((l : Int) = v) := by
  unfold hasI
  rw [Bool.eq_iff_iff]
  simp only [decide_eq_true_eq]
  constructor
  · rintro ⟨i, hi, hx⟩
    obtain rfl : i = 0 := by omega
    simpa using hx.symm
  · intro h
    exact ⟨0, by omega, by simp [h]⟩
theorem has4 (a b c d : Int) (l : Nat) : hasI (fun i => ([a, b, c, d] : List Int)[i]?.getD 0) 4 (l : Int) = decide ((l : Int) = a ∨ (l : Int) = b ∨ (l : Int) = c ∨ (l : Int) = d) := by
  unfold hasI
  rw [Bool.eq_iff_iff]
  simp only [decide_eq_true_eq]
  constructor
  · rintro ⟨i, hi, hx⟩
    rcases (show i = 0 ∨ i = 1 ∨ i = 2 ∨ i = 3 by omega) with rfl | rfl | rfl | rfl <;> simp at hx <;> simp [hx]
  · rintro (h | h | h | h)
    · exact ⟨0, by omega, by simp [h]⟩
    · exact ⟨1, by omega, by simp [h]⟩
    · exact ⟨2, by omega, by simp [h]⟩
    · exact ⟨3, by omega, by simp [h]⟩
def idxI : Option Nat → Int
  | some i => (i : Int)
  | none => -1
theorem findIdx_at {α : Type} {L : List α} {pr : α → Bool} {k : Nat} {x : α} (h : ∀ j, j < k → ∀ y, L[j]? = some y → pr y = false) (hx : L[k]? = some x) (hp : pr x = true) : L.findIdx? pr = some k := by
  have hk : k < L.length := (List.getElem?_eq_some_iff.1 hx).1
  rw [List.findIdx?_eq_some_iff_getElem]
  refine ⟨hk, ?_, fun j hj => ?_⟩
  · rw [List.getElem?_eq_getElem hk] at hx
    cases hx
    exact hp
  · have := h j hj _ (List.getElem?_eq_getElem (by omega))
    simp [this]
theorem findIdx_no {α : Type} {L : List α} {pr : α → Bool} (h : ∀ j, j < L.length → ∀ y, L[j]? = some y → pr y = false) : L.findIdx? pr = none := by
  rw [List.findIdx?_eq_none_iff]
  intro x hx
  obtain ⟨j, hj, rfl⟩ := List.getElem_of_mem hx
  exact h j hj _ (List.getElem?_eq_getElem hj)
/-- May an option stand behind those? -/
def rightO (F : List Ot) (k : Int) (l : Nat) : Bool := decide (2 ≤ k ∧ k ≤ 255) && (!knownB k || (okSize k l && !(F.any fun f => f.k == k)))
end Go.Proofs.Ytgjppmkadmfibaa
set_option linter.unusedVariables false
set_option maxRecDepth 100000
namespace Go
theorem Junk.app2 (w : World) (a b x : Array Obj) (d d' : Nat) : Junk (w.junk (a ++ b) d) (w.junk (a ++ (b ++ x)) d') := by have := Junk.app w (a ++ b) x d d'; simpa using this
theorem Junk.app3 (w : World) (a b c x : Array Obj) (d d' : Nat) : Junk (w.junk (a ++ (b ++ c)) d) (w.junk (a ++ (b ++ (c ++ x))) d') := by have := Junk.app w (a ++ (b ++ c)) x d d'; simpa using this
theorem Junk.app4 (w : World) (a b c e x : Array Obj) (d d' : Nat) : Junk (w.junk (a ++ (b ++ (c ++ e))) d) (w.junk (a ++ (b ++ (c ++ (e ++ x)))) d') := by have := Junk.app w (a ++ (b ++ (c ++ e))) x d d'; simpa using this
theorem Junk.app5 (w : World) (a b c e f x : Array Obj) (d d' : Nat) : Junk (w.junk (a ++ (b ++ (c ++ (e ++ f)))) d) (w.junk (a ++ (b ++ (c ++ (e ++ (f ++ x))))) d') := by have := Junk.app w (a ++ (b ++ (c ++ (e ++ f)))) x d d'; simpa using this
/-- An order of our choice, with a fork where two effects may come up. -/
inductive MixT where
  | nil
  | q (k : Nat) (r : MixT)
  | e (k : Nat) (r : MixT)
  | two (k1 : Nat) (r1 : MixT) (k2 : Nat) (r2 : MixT)
def MixT.len : MixT → Nat
  | .nil => 0
  | .q _ r => r.len + 1
  | .e _ r => r.len + 1
  | .two _ r1 _ _ => r1.len + 1
section
variable {P : Program} {ops : Array Oper} {md : Region.Mode} {D : World → Prop}
def Region.mixTB (md : Region.Mode) (ops : Array Oper) : MixT → Array Bool → Bool
  | .nil, listed => (Region.ready md ops listed).isEmpty
  | .q k r, listed => ((Region.ready md ops listed).contains k && Region.free md ops listed k) && Region.mixTB md ops r (listed.setIfInBounds k true)
  | .e k r, listed => decide (Region.ready md ops listed = [k]) && Region.mixTB md ops r (listed.setIfInBounds k true)
  | .two k1 r1 k2 r2, listed => (decide (Region.ready md ops listed = [k1, k2]) && decide (r1.len = r2.len)) && (Region.mixTB md ops r1 (listed.setIfInBounds k1 true) && Region.mixTB md ops r2 (listed.setIfInBounds k2 true))
def wpMixT (P : Program) (ops : Array Oper) (D : World → Prop) (Q : Act → World → Prop) : MixT → Act → World → Prop
  | .nil, a, w => ∀ w', Junk w w' → Q a w'
  | .q k r, a, w => match ops[k]? with
    | none => False
    | some o => if Region.wanted o (yielded ops a.tmps) then ∃ v, (∀ w, D w → o.quietAt P a (Junk w) w v) ∧ wpMixT P ops D Q r (a.put o.dst v) w else wpMixT P ops D Q r (a.put o.dst undef) w
  | .e k r, a, w => ∀ w', Junk w w' → wpE P ops k (fun a' w'' => D w'' ∧ wpMixT P ops D Q r a' w'') a w'
  | .two k1 r1 k2 r2, a, w => (∀ w', Junk w w' → wpE P ops k1 (fun a' w'' => D w'' ∧ wpMixT P ops D Q r1 a' w'') a w') ∧ (∀ w', Junk w w' → wpE P ops k2 (fun a' w'' => D w'' ∧ wpMixT P ops D Q r2 a' w'') a w')
theorem wpMixT_q {Q : Act → World → Prop} {k : Nat} {r : MixT} {o : Oper} {a : Act} {w : World} (ho : ops[k]? = some o)
    (h : ∀ K : Act → Prop, (∀ a, wpMixT P ops D Q r a w → K a) → if Region.wanted o (yielded ops a.tmps) then ∃ v, (∀ w, D w → o.quietAt P a (Junk w) w v) ∧ K (a.put o.dst v) else K (a.put o.dst undef)) :
    wpMixT P ops D Q (.q k r) a w := by
  unfold wpMixT
  simp only [ho]
  exact h _ (fun _ h => h)
theorem wpE_of {Q : Act → World → Prop} {k : Nat} {o : Oper} {a : Act} {w : World} (ho : ops[k]? = some o)
    (h : ∀ os d, ∀ K : Act → World → Prop, (∀ a w', Q a w' → K a w') → if Region.wanted o (yielded ops a.tmps) then o.wp P a (w.junk os d) K NoExit else K (a.put o.dst undef) (w.junk os d)) :
    ∀ w', Junk w w' → wpE P ops k Q a w' := by
  rintro w' ⟨os, d, rfl⟩
  unfold wpE
  simp only [ho]
  exact h os d _ (fun _ _ h => h)
theorem wpMixT_e {Q : Act → World → Prop} {k : Nat} {r : MixT} {o : Oper} {a : Act} {w : World} (ho : ops[k]? = some o)
    (h : ∀ os d, ∀ K : Act → World → Prop, (∀ a w', D w' → wpMixT P ops D Q r a w' → K a w') → if Region.wanted o (yielded ops a.tmps) then o.wp P a (w.junk os d) K NoExit else K (a.put o.dst undef) (w.junk os d)) :
    wpMixT P ops D Q (.e k r) a w := by
  unfold wpMixT
  exact wpE_of ho fun os d K hK => h os d K fun a w' h1 h2 => hK a w' ⟨h1, h2⟩
theorem wpMixT_two {Q : Act → World → Prop} {k1 k2 : Nat} {r1 r2 : MixT} {a : Act} {w : World} (h1 : wpMixT P ops D Q (.e k1 r1) a w) (h2 : wpMixT P ops D Q (.e k2 r2) a w) : wpMixT P ops D Q (.two k1 r1 k2 r2) a w := by
  unfold wpMixT at h1 h2 ⊢
  exact ⟨h1, h2⟩
theorem wpMixT_nil {Q : Act → World → Prop} {a : Act} {w : World} (h : ∀ os d, Q a (w.junk os d)) : wpMixT P ops D Q .nil a w := by
  unfold wpMixT
  rintro w' ⟨os, d, rfl⟩
  exact h os d
theorem wpAnyD_mixT (hcl : ∀ w w', D w → Junk w w' → D w') {Q : Act → World → Prop} (hsel : Region.noSelect ops = true) : ∀ (π : MixT) (listed : Array Bool) (a : Act) (w : World),
    Region.mixTB md ops π listed = true → D w → wpMixT P ops D Q π a w → wpAnyD P md ops D Q π.len listed a w
  | .nil, _, _, _, hB, _, h => ⟨by simpa [Region.mixTB] using hB, by unfold wpMixT at h; exact h⟩
  | .q k r, listed, a, w, hB, hD, h => by
    simp only [Region.mixTB, Bool.and_eq_true] at hB
    obtain ⟨⟨hr, hf⟩, hB'⟩ := hB
    unfold wpMixT at h
    split at h
    · exact h.elim
    · rename_i o ho
      have hk : ∃ v, YieldsJ P ops D o v a ∧ wpMixT P ops D Q r (a.put o.dst v) w := by
        split at h
        · rename_i hw; obtain ⟨v, h1, h2⟩ := h; exact ⟨v, .inl ⟨hw, h1⟩, h2⟩
        · rename_i hw; exact ⟨undef, .inr ⟨by simpa using hw, rfl⟩, h⟩
      obtain ⟨v, hy, h2⟩ := hk
      exact wpAnyD_first hcl ho (Region.noSelect_spec hsel) r.len listed a w (Region.free_spec ho hf) (by simpa using hr) hy hD (wpAnyD_mixT hcl hsel r _ _ w hB' hD h2)
  | .e k r, listed, a, w, hB, hD, h => by
    simp only [Region.mixTB, Bool.and_eq_true, decide_eq_true_eq] at hB
    obtain ⟨hr, hB'⟩ := hB
    unfold wpMixT at h
    refine ⟨fun h0 => (by rw [hr] at h0; cases h0), fun i hi w' hw' => ?_⟩
    rw [hr] at hi
    obtain rfl : i = k := by simpa using hi
    exact wpE_mono (fun a' w'' h' => ⟨h'.1, wpAnyD_mixT hcl hsel r _ a' w'' hB' h'.1 h'.2⟩) (h w' hw')
  | .two k1 r1 k2 r2, listed, a, w, hB, hD, h => by
    simp only [Region.mixTB, Bool.and_eq_true, decide_eq_true_eq] at hB
    obtain ⟨⟨hr, hlen⟩, hB1, hB2⟩ := hB
    unfold wpMixT at h
    refine ⟨fun h0 => (by rw [hr] at h0; cases h0), fun i hi w' hw' => ?_⟩
    rw [hr] at hi
    rcases (show i = k1 ∨ i = k2 by simpa using hi) with rfl | rfl
    · exact wpE_mono (fun a' w'' h' => ⟨h'.1, wpAnyD_mixT hcl hsel r1 _ a' w'' hB1 h'.1 h'.2⟩) (h.1 w' hw')
    · refine wpE_mono (fun a' w'' h' => ⟨h'.1, ?_⟩) (h.2 w' hw')
      have := wpAnyD_mixT hcl hsel r2 _ a' w'' hB2 h'.1 h'.2
      rw [← hlen] at this
      exact this
theorem wp_region_mixTj {id : Nat} {Q : Exit → Act → World → Prop} {a : Act} {w : World} {l : List Oper} (W0 : World) (π : MixT) (hm : P.follows .mixedOrders = true)
    (hB : (Region.noSelect l.toArray && decide (π.len = l.length) && Region.mixTB .any l.toArray π (Array.replicate l.length false)) = true) (hj : Junk W0 w)
    (h : wpMixT P l.toArray (fun w' => ∃ x : Jk, w' = W0.junk x.os x.d) (fun a' w' => Q .normal a' w') π a w.drew) : (Code.region id l.toArray true).wp P Q a w := by
  simp only [Bool.and_eq_true, decide_eq_true_eq] at hB
  refine wp_region_any hm (wpAny_of_D (D := fun w' => ∃ x : Jk, w' = W0.junk x.os x.d) (Q := fun a' w' => Q .normal a' w') (fun _ _ h => h) _ _ _ _ ?_)
  have := wpAnyD_mixT (P := P) (md := .any) (D := fun w' => ∃ x : Jk, w' = W0.junk x.os x.d) (fun _ _ h1 h2 => InJunk.on (w := W0) h1 h2) hB.1.1 π _ a w.drew hB.2 hj.drew.pair h
  rw [hB.1.2] at this
  simpa using this
end
end Go
set_option linter.unusedVariables false
set_option maxRecDepth 100000
set_option linter.unusedSimpArgs false
namespace Go
open RowKit
section
variable {P : Program}
/-- 'append(s, x...)', s the call's own: and where the slice lies behind it. -/
theorem run_append_own2 (w : World) (base : Nat) (t ty e : TypeId) (i : TypeInfo) (z : Value) (size bytes : Nat) (ht : P.underlying t = some (.slice e)) (hi : P.info? e = some i) (hz : i.zero = some z)
    (hsize : i.size = size) (hby : i.bytes = bytes) (hzs : z.cells.size = size) (hsz : 0 < size)
    (v : Value) (n : Nat) (xs : List Value) (hown : w.ownsRow base e size v n xs)
    (a : Addr) (m c : Nat) (news : List Value) (hl : news.length = m * size) (hnews : ∀ j u, news[j]? = some u → w.cell? (a.add j) = some u) (h1 : ∀ u ∈ news, u.oneCell' = true)
    (h63 : n + m ≤ maxLen) (hbytes : (n + m) * bytes ≤ 140737488355328) (hbase : base ≤ w.heap.size) (hm0 : 0 < m) :
    ∃ v' w', (Builtin.append_ #[t, t] ty #[v, .slice (some a) m c]).run P w = .ok v' w' ∧ w'.ownsRow base e size v' (n + m) (xs ++ news) ∧ w.grownBy w' v.ownBlock ∧
      (v'.ownBlock = v.ownBlock ∨ v'.ownBlock = some w.heap.size) := by
  obtain ⟨v', w', hr, h2, h3, h4⟩ := run_append_own (P := P) w base t ty e i z size bytes ht hi hz hsize hby hzs hsz v n xs hown a m c news hl hnews h1 h63 hbytes hbase
  refine ⟨v', w', hr, h2, h3, ?_⟩
  have hsmall : n + m ≤ 9223372036854775807 := by simp only [maxLen] at h63; omega
  rcases hown.2 with ⟨rfl, rfl⟩ | ⟨g, cap, cur, rfl, hbg, hg, hnc, hcm, hcs, htake⟩
  · have hr2 := run_append_nil (P := P) w t ty e i z ht hi hz a m c news (by rw [hsize]; exact hl) hnews hm0 (by omega) (by rw [hby]; simp only [Nat.zero_add] at hbytes; omega)
    rw [hr2] at hr
    cases hr
    exact .inr rfl
  · by_cases hroom : n + m ≤ cap
    · have hfit : n * i.size + news.length ≤ cur.size := by rw [hl, hcs, hsize, ← Nat.add_mul]; exact Nat.mul_le_mul_right _ hroom
      have hr2 := run_append_room (P := P) w t ty e i ht hi g n cap cur hg a m c news (by rw [hsize]; exact hl) hnews h1 hroom hfit
      rw [hr2] at hr
      cases hr
      exact .inl rfl
    · have holds : ∀ j u, xs[j]? = some u → w.cell? ((⟨g, 0, none⟩ : Addr).add j) = some u := hown.cells (g := g) rfl
      have hr2 := run_append_grow (P := P) w t ty e i z ht hi hz ⟨g, 0, none⟩ n cap xs (by rw [hsize]; exact hown.1) holds a m c news (by rw [hsize]; exact hl) hnews (by omega) (by omega) (by rw [hby]; exact growslice_fits (by omega) hbytes)
      rw [hr2] at hr
      cases hr
      exact .inr rfl
end
/-- No cell of the slice lies in that block. -/
def Off (row : Option Nat) (oa : Option Addr) (l : Nat) : Prop := 0 < l → ∀ a, oa = some a → some a.block ≠ row
theorem Bts.grown {w w' : World} {oa : Option Addr} {l c : Nat} {xs : Nat → Int} {row : Option Nat} (h : Bts w oa l c xs) (hg : w.grownBy w' row) (ho : Off row oa l) : Bts w' oa l c xs := by
  refine ⟨fun i hi => ?_, h.byte, h.nil, h.le, h.cap⟩
  obtain ⟨b, off, he, hlt, hc⟩ := h.at_ i hi
  have hne := ho (by omega) _ he
  exact ⟨b, off, he, Nat.lt_of_lt_of_le hlt hg.size, by rw [← hc]; exact World.cell?_of_block (hg.block b hlt hne)⟩
theorem Bts.below {w : World} {oa : Option Addr} {l c : Nat} {xs : Nat → Int} (h : Bts w oa l c xs) : 0 < l → ∀ a, oa = some a → a.block < w.heap.size := by
  intro hl a ha
  obtain ⟨b, off, he, hlt, hc⟩ := h.at_ 0 hl
  rw [ha] at he
  cases he
  exact hlt
def rowOf (oa : Option Addr) : Option Nat := oa.map (·.block)
theorem ownBlock_slice (oa : Option Addr) (n c : Nat) : (Value.slice oa n c).ownBlock = rowOf oa := by cases oa <;> rfl
/-- The same, in a walk. -/
theorem ap_own2 {P : Program} {W0 w : World} {ops : Array Oper} {rest : List Oper} {o : Oper} {a : Act} {Q : Exit → Act → World → Prop} (hgd : o.guard = none) (s x : Operand) (t : TypeId)
    (ho : o.op = .call { callee := .builtin .append, args := #[s, x], argTypes := #[t, t] })
    (e : TypeId) (z : Value) (size bytes : Nat) (hinfo : (P.info? e).map (fun i => (i.zero, i.size, i.bytes)) = some (some z, size, bytes)) (hzs : z.cells.size = size) (hsz : 0 < size) (ht : P.underlying t = some (.slice e))
    (hj : Junk W0 w) (oa : Option Addr) (cap n : Nat) (xs : List Value) (hs : a.eval s = .slice oa n cap) (hown : Own W0.heap.size w e size oa cap n xs)
    (ad : Addr) (m c : Nat) (hx : a.eval x = .slice (some ad) m c) (news : List Value) (hl : news.length = m * size) (hnews : ∀ j u, news[j]? = some u → w.cell? (ad.add j) = some u)
    (h1 : ∀ u ∈ news, u.oneCell' = true) (hm : n + m ≤ maxLen) (hb : (n + m) * bytes ≤ 140737488355328) (hm0 : 0 < m)
    (h : ∀ oa' cap' os d, Own W0.heap.size (W0.junk os d) e size oa' cap' (n + m) (xs ++ news) → w.grownBy (W0.junk os d) (rowOf oa) → (rowOf oa' = rowOf oa ∨ rowOf oa' = some w.heap.size) → wpList P ops Q rest (a.put o.dst (.slice oa' (n + m) cap')) (W0.junk os d)) : wpList P ops Q (o :: rest) a w := by
  obtain ⟨i, hi, hz0, hz1, hz2⟩ := info_parts hinfo
  obtain ⟨v', w', hr, h2, h3, h4⟩ := run_append_own2 (P := P) w W0.heap.size t o.type e i z size bytes ht hi hz0 hz1 hz2 hzs hsz _ n xs hown ad m c news hl hnews h1 hm hb hj.size hm0
  refine Lib.wpList_append_run w hgd s x t t ho _ _ hs hx _ _ hr ?_
  obtain ⟨os, d, rfl⟩ := below_of_grown hj h3 (fun k hk => (World.ownsRow.lt hown k hk).1)
  rcases h2.2 with ⟨rfl, h0⟩ | ⟨g, cap', cur, rfl, _⟩
  · omega
  · rw [ownBlock_slice] at h3 h4
    rw [ownBlock_slice] at h4
    exact h _ _ os d h2 h3 h4
theorem own_litk {B : Nat} (w : World) (e : TypeId) (size n m : Nat) (cur : Array Value) (hn : n = w.heap.size) (hb : B ≤ w.heap.size) (hm : m * size = cur.size) (hmax : m ≤ maxLen) : Own B (w.alloc (.cells cur e)) e size (some ⟨n, 0, none⟩) m m cur.toList := by
  subst hn
  refine ⟨by simp [hm], .inr ⟨w.heap.size, m, cur, rfl, hb, heap_alloc_new w _, Nat.le_refl _, hmax, by simp [hm], by rw [hm, ← Array.length_toList, List.take_length]⟩⟩
end Go
set_option linter.unusedVariables false
set_option maxRecDepth 100000
set_option linter.unusedSimpArgs false
namespace Go.Proofs.Ytgjppmkadmfibaa
open Go.RowKit
def otsL (F : List Ot) : List Value := (F.map Ot.cells).flatten
theorem Ot.cells_len (f : Ot) : f.cells.length = 2 := rfl
theorem otsL_cons (f : Ot) (F : List Ot) : otsL (f :: F) = f.cells ++ otsL F := rfl
theorem otsL_len : ∀ F : List Ot, (otsL F).length = F.length * 2
  | [] => rfl
  | f :: F => by rw [otsL_cons, List.length_append, otsL_len F, Ot.cells_len, List.length_cons]; omega
theorem otsL_one (F : List Ot) (f : Ot) : otsL F ++ f.cells = otsL (F ++ [f]) := by unfold otsL; rw [List.map_append, List.flatten_append]; simp
theorem otsL_get : ∀ (F : List Ot) (i : Nat) (f : Ot), F[i]? = some f → ∀ j, j < 2 → (otsL F)[i * 2 + j]? = f.cells[j]?
  | [], i, f, h, _, _ => by simp at h
  | g :: F, 0, f, h, j, hj => by
    simp only [List.getElem?_cons_zero, Option.some.injEq] at h
    subst h
    rw [otsL_cons, Nat.zero_mul, Nat.zero_add, List.getElem?_append_left (by rw [Ot.cells_len]; exact hj)]
  | g :: F, i + 1, f, h, j, hj => by
    rw [List.getElem?_cons_succ] at h
    rw [otsL_cons, List.getElem?_append_right (by rw [Ot.cells_len]; omega), Ot.cells_len, show (i + 1) * 2 + j - 2 = i * 2 + j by omega]
    exact otsL_get F i f h j hj
theorem Ot.one (f : Ot) : ∀ u ∈ f.cells, u.oneCell' = true := by intro u hu; simp only [Ot.cells, List.mem_cons, List.not_mem_nil, or_false] at hu; rcases hu with rfl | rfl <;> rfl
def Ot.At (w : World) (f : Ot) : Prop := Bts w f.oa f.l f.c f.xs
def Ot.Off (row : Option Nat) (f : Ot) : Prop := Go.Off row f.oa f.l
theorem own_os {B : Nat} {w : World} {e : TypeId} {oa : Option Addr} {cap n : Nat} {F : List Ot} (h : Own B w e 2 oa cap n (otsL F)) (hA : ∀ f ∈ F, f.At w) : OsAt w oa F := fun i f hf => by
  have hk : ∀ k v, k < 2 → f.cells[k]? = some v → ∃ g, oa = some ⟨g, 0, none⟩ ∧ g < w.heap.size ∧ w.cell? ⟨g, 0 + i * 2 + k, none⟩ = some v := fun k v hk hv => by
    obtain ⟨g', h1, _, h3, h2, _⟩ := h.cells (i * 2 + k) v (by rw [otsL_get F i f hf k hk]; exact hv)
    exact ⟨g', h1, h3, by rw [Nat.zero_add]; exact h2⟩
  obtain ⟨g, h1, h2, c0⟩ := hk 0 _ (by decide) rfl
  obtain ⟨g1, e1, _, c1⟩ := hk 1 _ (by decide) rfl
  rw [h1] at e1
  cases e1
  exact ⟨g, 0, h1, h2, c0, c1, hA f (List.mem_of_getElem? hf)⟩
theorem own_row2 {B : Nat} {w : World} {e : TypeId} {size : Nat} {oa : Option Addr} {cap n : Nat} {l : List Value} (h : Own B w e size oa cap n l) : ∀ k, rowOf oa = some k → k < w.heap.size := by
  intro k hk
  rcases h.form with ⟨rfl, _⟩ | ⟨g, cur, rfl, _, hg, _⟩
  · cases hk
  · simp only [rowOf, Option.map_some, Option.some.injEq] at hk
    subst hk
    exact (Array.getElem?_eq_some_iff.1 hg).1
theorem keepO {w w' : World} {oa oa' : Option Addr} {L : List Ot} {fn : Ot} (hL : ∀ f ∈ L, f.At w ∧ f.Off (rowOf oa)) (hn : fn.At w) (hno : fn.Off (rowOf oa)) (hg : w.grownBy w' (rowOf oa)) (hrow : rowOf oa' = rowOf oa ∨ rowOf oa' = some w.heap.size) :
    ∀ f ∈ L ++ [fn], f.At w' ∧ f.Off (rowOf oa') := by
  have hall : ∀ f ∈ L ++ [fn], f.At w ∧ f.Off (rowOf oa) := by
    intro f hf
    rcases List.mem_append.1 hf with h | h
    · exact hL f h
    · simp only [List.mem_cons, List.not_mem_nil, or_false] at h; subst h; exact ⟨hn, hno⟩
  intro f hf
  obtain ⟨h1, h2⟩ := hall f hf
  refine ⟨Bts.grown h1 hg h2, ?_⟩
  rcases hrow with h | h
  · rw [h]; exact h2
  · rw [h]; exact fun hl a ha he => by have := Bts.below h1 hl a ha; injection he with he; omega
theorem fresh_off {B : Nat} {oa : Option Addr} {l : Nat} {row : Option Nat} (h : Fresh B oa) (hr : ∀ k, row = some k → k < B) : Go.Off row oa l := fun _ a ha he => by
  have h1 := h a ha
  have h2 := hr _ he.symm
  omega
/-- An option, as data. -/
structure Od where
  k : Int
  l : Nat
  xs : Nat → Int
def Ot.d (f : Ot) : Od := ⟨f.k, f.l, f.xs⟩
def rightD (F : List Od) (k : Int) (l : Nat) : Bool := decide (2 ≤ k ∧ k ≤ 255) && (!knownB k || (okSize k l && !(F.any fun f => f.k == k)))
theorem rightO_d (F : List Ot) (k : Int) (l : Nat) : rightO F k l = rightD (F.map Ot.d) k l := by unfold rightO rightD; rw [List.any_map]; rfl
/-- The options of a head's bytes. -/
def optP (xs : Nat → Int) (S : Nat) : Nat → Nat → List Od → Option (List Od)
  | 0, _, acc => some acc
  | n + 1, a, acc =>
    if S ≤ a ∨ xs a = 0 then some acc
    else if xs a = 1 then optP xs S n (a + 1) acc
    else if S ≤ a + 1 ∨ xs (a + 1) < 2 ∨ (S : Int) < a + xs (a + 1) then none
    else if rightD acc (xs a) (xs (a + 1) - 2).toNat then optP xs S n (a + (xs (a + 1)).toNat) (acc ++ [⟨xs a, (xs (a + 1) - 2).toNat, fun i => xs (a + 2 + i)⟩])
    else none
theorem optP_more (xs : Nat → Int) (S : Nat) : ∀ (n m a : Nat) (acc : List Od), S < n + a → S < m + a → optP xs S n a acc = optP xs S m a acc
  | 0, 0, _, _, _, _ => rfl
  | 0, m + 1, a, acc, h1, h2 => by rw [optP, optP, if_pos (.inl (by omega))]
  | n + 1, 0, a, acc, h1, h2 => by rw [optP, optP, if_pos (.inl (by omega))]
  | n + 1, m + 1, a, acc, h1, h2 => by
    rw [optP, optP]
    by_cases c1 : S ≤ a ∨ xs a = 0
    · rw [if_pos c1, if_pos c1]
    · rw [if_neg c1, if_neg c1, optP_more xs S n m (a + 1) acc (by omega) (by omega)]
      by_cases c2 : S ≤ a + 1 ∨ xs (a + 1) < 2 ∨ (S : Int) < a + xs (a + 1)
      · rw [if_pos c2, if_pos c2]
      · rw [if_neg c2, if_neg c2, optP_more xs S n m _ _ (by omega) (by omega)]
def optR (xs : Nat → Int) (S a : Nat) (acc : List Od) : Option (List Od) := optP xs S (S + 1) a acc
theorem optR_end {xs : Nat → Int} {S a : Nat} {acc : List Od} (h : S ≤ a ∨ xs a = 0) : optR xs S a acc = some acc := by unfold optR; rw [optP, if_pos h]
theorem optR_one {xs : Nat → Int} {S a : Nat} {acc : List Od} (h : ¬ S ≤ a) (h1 : xs a = 1) : optR xs S a acc = optR xs S (a + 1) acc := by
  unfold optR
  rw [optP, if_neg (by omega), if_pos h1]
  exact optP_more _ _ _ _ _ _ (by omega) (by omega)
theorem optR_bad {xs : Nat → Int} {S a : Nat} {acc : List Od} (h : ¬ S ≤ a) (h0 : xs a ≠ 0) (h1 : xs a ≠ 1) (h2 : S ≤ a + 1 ∨ xs (a + 1) < 2 ∨ (S : Int) < a + xs (a + 1)) : optR xs S a acc = none := by
  unfold optR
  rw [optP, if_neg (by omega), if_neg h1, if_pos h2]
theorem optR_wrong {xs : Nat → Int} {S a : Nat} {acc : List Od} (h : ¬ S ≤ a) (h0 : xs a ≠ 0) (h1 : xs a ≠ 1) (h2 : ¬ (S ≤ a + 1 ∨ xs (a + 1) < 2 ∨ (S : Int) < a + xs (a + 1))) (h3 : rightD acc (xs a) (xs (a + 1) - 2).toNat = false) : optR xs S a acc = none := by
  unfold optR
  rw [optP, if_neg (by omega), if_neg h1, if_neg h2, h3]
  rfl
theorem optR_good {xs : Nat → Int} {S a : Nat} {acc : List Od} (h : ¬ S ≤ a) (h0 : xs a ≠ 0) (h1 : xs a ≠ 1) (h2 : ¬ (S ≤ a + 1 ∨ xs (a + 1) < 2 ∨ (S : Int) < a + xs (a + 1))) (h3 : rightD acc (xs a) (xs (a + 1) - 2).toNat = true) :
    optR xs S a acc = optR xs S (a + (xs (a + 1)).toNat) (acc ++ [⟨xs a, (xs (a + 1) - 2).toNat, fun i => xs (a + 2 + i)⟩]) := by
  unfold optR
  rw [optP, if_neg (by omega), if_neg h1, if_neg h2, h3, if_pos rfl]
  exact optP_more _ _ _ _ _ _ (by omega) (by omega)
def lenOf : Value → Nat
  | .slice _ l _ => l
  | _ => 0
end Go.Proofs.Ytgjppmkadmfibaa
