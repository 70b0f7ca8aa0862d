/- The contract of icmp.Put. -/
import Derived.Test.YtfkhnhenemgcmaaDoorIcmpA
import Derived.Test.YtfkhnhenemgcmaaDoorOwn2
set_option linter.unusedVariables false
set_option maxRecDepth 100000
set_option linter.unusedSimpArgs false
namespace Go.Proofs.YtfkhnhenemgcmaaDoor
open Go.RowKit
theorem own_some {B : Nat} {w : World} {e : TypeId} {size : Nat} {oa : Option Addr} {cap n : Nat} {xs : List Value} (h : Own B w e size oa cap n xs) (hn : 0 < n) : ∃ g, oa = some ⟨g, 0, none⟩ ∧ B ≤ g ∧ g < w.heap.size ∧ ∀ j u, xs[j]? = some u → w.cell? ⟨g, j, none⟩ = some u ∧ w.frozen? ⟨g, j, none⟩ = false := by
  rcases h.form with ⟨_, h2, _⟩ | ⟨g, cur, h1, h2, h3, _⟩
  · omega
  · refine ⟨g, h1, h2, (Array.getElem?_eq_some_iff.1 h3).1, fun j u hu => ?_⟩
    obtain ⟨g', he, _, _, hc, hf⟩ := h.cells j u hu
    rw [h1] at he
    cases he
    exact ⟨hc, hf⟩
theorem bts_set {w : World} {g off n cap : Nat} {xs : Nat → Int} (h : Bts w (some ⟨g, off, none⟩) n cap xs) (i : Nat) (v : Int) (hv : 0 ≤ v ∧ v ≤ 255) :
    Bts (w.setCell ⟨g, off + i, none⟩ (.int .u8 v)) (some ⟨g, off, none⟩) n cap (fun k => if k = i then v else xs k) := by
  refine ⟨fun k hk => ?_, fun k hk => ?_, h.nil, h.le, h.cap⟩
  · obtain ⟨b, o, he, hlt, hc⟩ := h.at_ k hk
    cases he
    refine ⟨g, off, rfl, by simpa [World.setCell] using hlt, ?_⟩
    by_cases hki : k = i
    · subst hki
      rw [if_pos rfl]
      exact World.cell?_setCell_same _ _ _ hc
    · rw [if_neg hki, World.cell?_setCell_other _ _ _ _ (by intro he; simp only [Addr.mk.injEq, Nat.add_left_cancel_iff] at he; omega)]
      exact hc
  · by_cases hki : k = i
    · simp only [hki, if_true]; exact hv
    · simp only [hki, if_false]; exact h.byte k hk
theorem bts_set0 {w : World} {g n cap : Nat} {xs : Nat → Int} (h : Bts w (some ⟨g, 0, none⟩) n cap xs) (i : Nat) (v : Int) (hv : 0 ≤ v ∧ v ≤ 255) :
    Bts (w.setCell ⟨g, i, none⟩ (.int .u8 v)) (some ⟨g, 0, none⟩) n cap (fun k => if k = i then v else xs k) := by
  have := bts_set h i v hv
  rwa [Nat.zero_add] at this
/-- The bytes of a message, without the check sum. -/
def preB (t c r : Int) (xs : Nat → Int) : Nat → Int
  | 0 => t
  | 1 => c
  | 2 => 0
  | 3 => 0
  | 4 => r / 16777216
  | 5 => r / 65536 % 256
  | 6 => r / 256 % 256
  | 7 => r % 256
  | k + 8 => xs k
def putSum (t c r : Int) (xs : Nat → Int) (l : Nat) : Int := 65535 - sumN (preB t c r xs) (8 + l)
def putB (t c r : Int) (xs : Nat → Int) (l : Nat) : Nat → Int := fun k => if k = 3 then putSum t c r xs l % 256 else if k = 2 then putSum t c r xs l / 256 else preB t c r xs k
def putErr (t c : Int) (l : Nat) : Int := if byteful t && byteful c && decide (l ≤ 65527) then 0 else 1
def PutM (w : World) (t c r : Int) (xs : Nat → Int) (l : Nat) (e : Ending) (w' : World) : Prop :=
  ∃ (ob : Option Addr) (lb cb : Nat), e = .returned (.tuple #[.slice ob lb cb, .int .i64 (putErr t c l)]) ∧ Junk w w' ∧ Bts w' ob lb cb (putB t c r xs l) ∧
    ((putErr t c l = 0 ∧ lb = 8 + l) ∨ (putErr t c l ≠ 0 ∧ lb = 0 ∧ cb = 0 ∧ ob = none))
theorem preB_list (t c r : Int) (xs : Nat → Int) (l : Nat) :
    [Value.int .u8 t, .int .u8 c, .int .u8 0, .int .u8 0, .int .u8 (r / 16777216), .int .u8 (r / 65536 % 256), .int .u8 (r / 256 % 256), .int .u8 (r % 256)] ++ ((List.range l).map fun i => Value.int .u8 (xs i)) = (List.range (8 + l)).map fun i => Value.int .u8 (preB t c r xs i) := by
  have h := @range_ext 8 l (fun i => Value.int .u8 (preB t c r xs i))
  rw [← h]
  congr 1
  apply List.map_congr_left
  intro i _
  rw [Nat.add_comm]
  rfl
theorem preB_byte {t c r : Int} {xs : Nat → Int} {l : Nat} (ht : 0 ≤ t ∧ t ≤ 255) (hc : 0 ≤ c ∧ c ≤ 255) (hr : 0 ≤ r ∧ r ≤ 4294967295) (hx : ∀ i, i < l → 0 ≤ xs i ∧ xs i ≤ 255) : ∀ i, i < 8 + l → 0 ≤ preB t c r xs i ∧ preB t c r xs i ≤ 255 := by
  intro i hi
  match i, hi with
  | 0, _ => exact ht
  | 1, _ => exact hc
  | 2, _ => simp only [preB]; omega
  | 3, _ => simp only [preB]; omega
  | 4, _ => simp only [preB]; omega
  | 5, _ => simp only [preB]; omega
  | 6, _ => simp only [preB]; omega
  | 7, _ => simp only [preB]; omega
  | k + 8, h => simp only [preB]; exact hx k (by omega)
theorem putM_bad {w w' : World} {t c r : Int} {xs : Nat → Int} {l : Nat} (h : putErr t c l = 1) (hj : Junk w w') : PutM w t c r xs l (.returned (.tuple #[.slice none 0 0, .int .i64 1])) w' :=
  ⟨none, 0, 0, by rw [h], hj, ⟨fun i hi => by omega, fun i hi => by omega, fun _ => ⟨rfl, rfl⟩, Nat.le_refl _, Nat.zero_le _⟩, .inr ⟨by rw [h]; decide, rfl, rfl, rfl⟩⟩
theorem putM_ok {w w' : World} {t c r : Int} {xs : Nat → Int} {l cb : Nat} {ob : Option Addr} (he : putErr t c l = 0) (hj : Junk w w') (hb : Bts w' ob (8 + l) cb (putB t c r xs l)) : PutM w t c r xs l (.returned (.tuple #[.slice ob (8 + l) cb, .int .i64 0])) w' :=
  ⟨ob, 8 + l, cb, by rw [he], hj, hb, .inl ⟨he, rfl⟩⟩
end Go.Proofs.YtfkhnhenemgcmaaDoor
