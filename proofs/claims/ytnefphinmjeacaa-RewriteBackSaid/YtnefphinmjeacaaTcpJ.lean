/- tcp.Put. -/
import Derived.Test.YtnefphinmjeacaaTcpI
import Derived.Test.YtnefphinmjeacaaRowAp
import Derived.Test.YtnefphinmjeacaaIcmpPut
set_option linter.unusedVariables false
set_option maxRecDepth 100000
set_option linter.unusedSimpArgs false
namespace Go.Proofs.Ytnefphinmjeacaa
open Go.RowKit
theorem t_ints_congr {w : World} {oa : Option Addr} {l : Nat} {k : IntKind} {xs ys : Nat → Int} (h : IntsAt w oa l k xs) (he : ∀ i, i < l → xs i = ys i) : IntsAt w oa l k ys := fun i hi => by
  rw [← he i hi]; exact h i hi
theorem t_make (w : World) (n L : Nat) (hn : n ≤ L) (hL : L ≤ 100000) : (Instr.makeSlice 23 (.int .i64 (n : Int)) (.int .i64 (L : Int))).run Try.prog w = .ok (.slice (some ⟨w.heap.size, 0, none⟩) n L) (w.alloc (.cells (rowArr L (fun _ => 0)) 5)) := by
  obtain ⟨i, hi, hz0, hz1, hz2⟩ := info_parts (P := Try.prog) (e := 5) (z := .int .u8 0) (size := 1) (bytes := 1) (by kernel_rfl)
  have h := run_make (P := Try.prog) w 23 5 i (.int .u8 0) Try.underlying23 hi hz0 .i64 .i64 n L (by omega) (by omega) (by rw [hz2]; omega) (by omega)
  rw [hz1] at h
  rw [h]
  simp only [Int.toNat_natCast, Nat.mul_one]
  rw [← rowArr_made]
  rfl
/-- What the block holds ahead of the options. -/
def tPut0 (t : Tc) (S : Nat) : Nat → Int :=
  upd (upd (upd (upd (upd (upd (upd (upd (upd (upd (upd (upd (upd (upd (upd (upd (upd (upd (fun _ => 0) 0 (t.sport / 256)) (0 + 1) (t.sport % 256)) 2 (t.dport / 256)) (2 + 1) (t.dport % 256)) 4 (t.seq / 65536 / 256)) (4 + 1) (t.seq / 65536 % 256)) (4 + 2) (t.seq % 65536 / 256)) (4 + 2 + 1) (t.seq % 256))
    8 (t.ack / 65536 / 256)) (8 + 1) (t.ack / 65536 % 256)) (8 + 2) (t.ack % 65536 / 256)) (8 + 2 + 1) (t.ack % 256)) 12 ((S : Int) / 4 * 16)) 13 t.flags) 14 (t.win / 256)) (14 + 1) (t.win % 256)) 18 (t.urg / 256)) (18 + 1) (t.urg % 256)
/-- .. and behind some options. -/
def tPutI (t : Tc) (S : Nat) (F : List Od) : Nat → Int := fun k => if k < 20 then tcHead t S 0 k else optB F (k - 20)
theorem tPut0_eq {t : Tc} {S : Nat} : ∀ k, tPut0 t S k = tPutI t S [] k := by
  intro k
  rcases twenty4 k with rfl | rfl | rfl | rfl | rfl | rfl | rfl | rfl | rfl | rfl | rfl | rfl | rfl | rfl | rfl | rfl | rfl | rfl | rfl | rfl | ⟨k, rfl⟩
  all_goals simp [tPut0, tPutI, upd, tcHead, optB]
  all_goals (intro h; omega)
theorem tPutI_push {t : Tc} {S n : Nat} {F : List Od} {k : Int} {l : Nat} {ys : Nat → Int} (hn : n = optsND F) :
    putAt (putAt (tPutI t S F) (20 + n) 2 (fun j => if j = 0 then k else 2 + (l : Int))) (20 + (n + 2)) l ys = tPutI t S (F ++ [⟨k, l, ys⟩]) := by
  subst hn
  funext q
  unfold tPutI putAt
  dsimp only
  by_cases h0 : q < 20
  · rw [if_neg (by omega), if_neg (by omega), if_pos h0, if_pos h0]
  · rw [if_neg h0, if_neg h0, optB_push, optB_one]
    by_cases h1 : q - 20 < optsND F
    · rw [if_neg (by omega), if_neg (by omega), if_pos h1]
    · rw [if_neg h1]
      by_cases h2 : q - 20 - optsND F = 0
      · rw [if_neg (by omega), if_pos (by omega), if_pos (by omega), if_pos h2]
      · by_cases h3 : q - 20 - optsND F = 1
        · rw [if_neg (by omega), if_pos (by omega), if_neg (by omega), if_neg h2, if_pos h3]
        · rw [if_neg h2, if_neg h3]
          by_cases h4 : q - 20 - optsND F < 2 + l
          · rw [if_pos (by omega), if_pos h4]
            show ys _ = ys _
            congr 1
            omega
          · rw [if_neg (by omega), if_neg (by omega), if_neg h4]
            exact optB_out _ _ (by omega)
theorem tPutI_all {t : Tc} {S : Nat} (hS : S = tcSz t) : ∀ q, q < S + t.bl → putAt (tPutI t S t.os) S t.bl t.body q = segB t 0 q := by
  intro q hq
  unfold putAt segB
  by_cases h1 : S ≤ q
  · rw [if_pos ⟨h1, hq⟩, if_neg (by omega), hS]
  · rw [if_neg (by omega), if_pos (by omega)]
    unfold tPutI
    split
    · rw [hS]
    · obtain ⟨k, rfl⟩ : ∃ k, q = k + 20 := ⟨q - 20, by omega⟩
      rw [Nat.add_sub_cancel]
      rfl
theorem inb_eq {n : Nat} {Q : Exit → Act → World → Prop} {x : Exit} {a : Act} {w w' : World} (h : w = w') (hh : Exit.inBlock n Q x a w') : Exit.inBlock n Q x a w := by subst h; exact hh
theorem inb_gen {n : Nat} {Q : Exit → Act → World → Prop} {x : Exit} {a : Act} {w : World} {os : Array Obj} {d : Nat} (h : ∀ os d, Exit.inBlock n Q x a (w.junk os d)) : Exit.inBlock n Q x a (w.junk os d) := h os d
theorem then_eq {K : Act → World → Prop} {Q : Exit → Act → World → Prop} {x : Exit} {a : Act} {w w' : World} (h : w = w') (hh : Exit.then K Q x a w') : Exit.then K Q x a w := by subst h; exact hh
theorem segB_sum {t : Tc} {c : Int} (hS : 20 ≤ tcSz t) : ∀ q, upd (upd (segB t 0) 16 (c / 256)) (16 + 1) (c % 256) q = segB t c q := by
  intro q
  by_cases h0 : q < tcSz t
  · rcases twenty4 q with rfl | rfl | rfl | rfl | rfl | rfl | rfl | rfl | rfl | rfl | rfl | rfl | rfl | rfl | rfl | rfl | rfl | rfl | rfl | rfl | ⟨k, rfl⟩
    all_goals simp [upd, segB, tcHead, h0]
  · rw [upd, if_neg (by omega), upd, if_neg (by omega)]
    unfold segB
    rw [if_neg h0, if_neg h0]
theorem tputM_ok {w V : World} {src dst : Int} {t : Tc} {L : Nat} {xs : Nat → Int} {os : Array Obj} {d g : Nat} (h : tcMay t = true) (hj : Junk w V) (hg : g = V.heap.size) (hL : L = tcSz t + t.bl) (hx : ∀ i, i < L → xs i = segOf src dst t i)
    (hb : ∀ i, i < L → 0 ≤ segOf src dst t i ∧ segOf src dst t i ≤ 255) (hm : L ≤ 100000) : TPutM w src dst t (.returned (.tuple #[.slice (some ⟨g, 0, none⟩) L L, .int .i64 0])) ((V.alloc (.cells (rowArr L xs) 5)).junk os d) := by
  have ho : Own w.heap.size ((V.alloc (.cells (rowArr L xs) 5)).junk os d) 5 1 (some ⟨g, 0, none⟩) L L (byL L (segOf src dst t)) := by
    have := own_lit' (B := w.heap.size) (w := V) (e := 5) (n := g) (m := L) (cur := rowArr L xs) os d hg hj.size (by simp) (by simp only [maxLen]; omega)
    rw [rowArr_congr hx] at this
    rw [rowArr_congr hx]
    simpa [rowArr, byL] using this
  exact ⟨_, L, L, by simp [tcErr, h], (hj.alloc _).junk _ _, own_bts ho hb, .inl ⟨h, hL, ho⟩⟩
theorem t_junk_nil (w : World) (d : Nat) (h : d = w.drawn) : w.junk #[] d = w := by subst h; simp [World.junk]
end Go.Proofs.Ytnefphinmjeacaa
