/- What IcmpBack says, without the program. -/
import Derived.Test.YtbijbcpalmepiaaIcmpAbout1
import Derived.Test.YtbijbcpalmepiaaIcmpTell
import Derived.Test.YtbijbcpalmepiaaIcmpLaid
set_option linter.unusedVariables false
set_option maxRecDepth 100000
set_option linter.unusedSimpArgs false
namespace Go.Proofs.Ytbijbcpalmepiaa
open Go.RowKit
theorem bts_congr {w : World} {oa : Option Addr} {l c : Nat} {xs ys : Nat → Int} (h : Bts w oa l c xs) (he : ∀ i, i < l → xs i = ys i) : Bts w oa l c ys :=
  ⟨fun i hi => by obtain ⟨b, off, h1, h2, h3⟩ := h.at_ i hi; exact ⟨b, off, h1, h2, by rw [← he i hi]; exact h3⟩, fun i hi => by rw [← he i hi]; exact h.byte i hi, h.nil, h.le, h.cap⟩
theorem TellM.any {w w' : World} {kind code rest : Int} {xs : Nat → Int} {l : Nat} {e : Ending} (h : TellM w kind code rest xs l e w') {E t c r : Int} {n : Nat} (hE : E = tellErr kind code xs l)
    (ht : t = if E = 0 then kind else 0) (hc : c = if E = 0 then code else 0) (hr : r = if E = 0 then rest else 0) (hn : n = if E = 0 then tellLen xs else 0) :
    ∃ (ob : Option Addr) (cb : Nat), e = .returned (.tuple #[.agg #[.int .i64 t, .int .i64 c, .int .u32 r, .slice ob n cb], .int .i64 E]) ∧ Junk w w' ∧ Bts w' ob n cb xs := by
  subst hE
  obtain ⟨t', c', r', ob, lb, cb, rfl, hj, hb, ⟨h1, rfl, rfl, rfl, rfl⟩ | ⟨h1, rfl, rfl, rfl, rfl, rfl, rfl⟩⟩ := h
  · rw [if_pos h1] at ht hc hr hn
    subst ht hc hr hn
    exact ⟨ob, cb, rfl, hj, hb⟩
  · rw [if_neg h1] at ht hc hr hn
    subst ht hc hr hn
    exact ⟨none, 0, rfl, hj, hb⟩
/-- What is parsed is put as it was. -/
theorem parsed_put {w : World} {oa : Option Addr} {l c : Nat} {ys : Nat → Int} (hB : Bts w oa l c ys) (h : pErr ys l = 0) :
    8 ≤ l ∧ putErr (ys 0) (ys 1) (l - 8) = 0 ∧ 0 ≤ pRest ys ∧ pRest ys ≤ 4294967295 ∧ ∀ i, i < l → i ≠ 2 → i ≠ 3 → putB (ys 0) (ys 1) (pRest ys) (fun k => ys (8 + k)) (l - 8) i = ys i := by
  unfold pErr at h
  split at h
  · cases h
  · rename_i h8
    split at h
    · cases h
    · rename_i h9
      have y0 := hB.byte 0 (by omega); have y1 := hB.byte 1 (by omega); have y4 := hB.byte 4 (by omega); have y5 := hB.byte 5 (by omega); have y6 := hB.byte 6 (by omega); have y7 := hB.byte 7 (by omega)
      refine ⟨by omega, ?_, by unfold pRest; omega, by unfold pRest; omega, fun i hi h2 h3 => ?_⟩
      · unfold putErr byteful
        rw [if_pos (by simp; omega)]
      · unfold putB
        rw [if_neg h3, if_neg h2]
        match i, h2, h3 with
        | 0, _, _ => rfl
        | 1, _, _ => rfl
        | 4, _, _ => simp only [preB, pRest]; omega
        | 5, _, _ => simp only [preB, pRest]; omega
        | 6, _, _ => simp only [preB, pRest]; omega
        | 7, _, _ => simp only [preB, pRest]; omega
        | k + 8, _, _ => simp only [preB]; rw [Nat.add_comm]
/-- What is put is parsed as it was. -/
theorem put_parsed6 {t c r : Int} {xs : Nat → Int} {l : Nat} (h : putErr t c l = 0) (hl : l ≤ 3000) (hr : 0 ≤ r ∧ r ≤ 4294967295) (hx : ∀ i, i < l → 0 ≤ xs i ∧ xs i ≤ 255) :
    pErr (putB t c r xs l) (8 + l) = 0 ∧ msame (putB t c r xs l 0) (putB t c r xs l 1) (pRest (putB t c r xs l)) t c r (fun i => putB t c r xs l (8 + i)) xs l l = true := by
  obtain ⟨ht, hc⟩ := putErr_zero h
  have hf := putB_fits (preB_byte ht hc hr hx)
  refine ⟨by unfold pErr; rw [if_neg (by omega), if_neg (by omega), if_pos hf], ?_⟩
  have p0 : putB t c r xs l 0 = t := rfl
  have p1 : putB t c r xs l 1 = c := rfl
  have p4 : putB t c r xs l 4 = r / 16777216 := rfl
  have p5 : putB t c r xs l 5 = r / 65536 % 256 := rfl
  have p6 : putB t c r xs l 6 = r / 256 % 256 := rfl
  have p7 : putB t c r xs l 7 = r % 256 := rfl
  have hrr : pRest (putB t c r xs l) = r := by unfold pRest; rw [p4, p5, p6, p7]; omega
  rw [p0, p1, hrr]
  simp only [msame, beq_self_eq_true, Bool.true_and, sameN, decide_eq_true_eq, true_and]
  intro i _
  unfold putB
  rw [if_neg (by omega), if_neg (by omega), Nat.add_comm]
  rfl
/-- An error that is told of a packet that was put is about it. -/
theorem put_about {p : Ip} {zs : Nat → Int} (hv : p.ol ≤ 40) (hpe : parseErr zs (20 + p.ol + p.bl) = 0) (hsame : sameIp p (parseIp zs) = true) :
    (parseIp zs).off = p.off ∧ (parseIp zs).proto = p.proto ∧ tellLen zs = 20 + p.ol + min 8 p.bl ∧ wholeErr zs (20 + p.ol + min 8 p.bl) = 0 ∧ sameIp (aboutIp zs (20 + p.ol + min 8 p.bl)) { p with bl := min 8 p.bl } = true := by
  have K := (parseErr_zero hpe).len
  obtain ⟨k1, k0, k2, k3, k4, k5, k6⟩ := K
  obtain ⟨l1, l2, l3, l4⟩ := parse_len hpe
  simp only [sameIp, headSame, Bool.and_eq_true, beq_iff_eq, sameN, decide_eq_true_eq] at hsame
  obtain ⟨⟨⟨⟨⟨⟨⟨⟨⟨⟨h1, h2⟩, h3⟩, h4⟩, h5⟩, h6⟩, h7⟩, h8⟩, h9⟩, h10, h11⟩, h12, h13⟩ := hsame
  have s1 : ipSize zs = 20 + p.ol := by omega
  have s2 : ipTotal zs = 20 + p.ol + p.bl := by omega
  have hm : min (ipTotal zs) (20 + p.ol + min 8 p.bl) - ipSize zs = min 8 p.bl := by omega
  refine ⟨h5.symm, h7.symm, by unfold tellLen; omega, ?_, ?_⟩
  · unfold wholeErr
    rw [if_neg (by omega), if_neg (fun h => h ⟨k0, k2, by omega⟩), if_neg (fun h => h k4), if_neg (fun h => h k6), if_neg (by omega)]
  · simp only [sameIp, headSame, Bool.and_eq_true, beq_iff_eq, sameN, decide_eq_true_eq]
    refine ⟨⟨⟨⟨⟨⟨⟨⟨⟨⟨h1.symm, h2.symm⟩, h3.symm⟩, h4.symm⟩, h5.symm⟩, h6.symm⟩, h7.symm⟩, h8.symm⟩, h9.symm⟩, h10.symm, fun i hi => ?_⟩, hm, fun i hi => ?_⟩
    · have : i < p.ol := by rw [h10]; exact hi
      exact (h11 i this).symm
    · have : i < p.bl := by
        have : i < min (ipTotal zs) (20 + p.ol + min 8 p.bl) - ipSize zs := hi
        omega
      exact (h13 i this).symm
end Go.Proofs.Ytbijbcpalmepiaa
