/- Plain facts on what is put and parsed. -/
import Derived.Test.YtfkhnhenemgcmaaDoorIpReads
set_option linter.unusedVariables false
set_option maxRecDepth 100000
set_option linter.unusedSimpArgs false
namespace Go.Proofs.YtfkhnhenemgcmaaDoor
open Go.RowKit
structure ParseOk (xs : Nat → Int) (l : Nat) : Prop where
  len : LenOk xs l
  top : ipFlags xs / 32768 = 0
  pc : piecesB (parseIp xs) = true
theorem parseErr_zero {xs : Nat → Int} {l : Nat} (h : parseErr xs l = 0) : ParseOk xs l := by
  unfold parseErr at h
  split at h
  · rename_i h1; exact absurd h h1
  · rename_i h1
    split at h
    · rename_i h2; exact ⟨lenErr_zero (by simpa using h1), h2.1, h2.2⟩
    · cases h
theorem parseErr_of {xs : Nat → Int} {l : Nat} (h : ParseOk xs l) : parseErr xs l = 0 := by
  unfold parseErr
  rw [lenErr_of h.len, if_neg (by decide), if_pos ⟨h.top, h.pc⟩]
/-- What is parsed may be put. -/
theorem parse_may {w : World} {oa : Option Addr} {l c : Nat} {xs : Nat → Int} (hB : Bts w oa l c xs) (h : parseErr xs l = 0) : mayB (parseIp xs) = true := by
  have hh := parseIp_head hB h
  obtain ⟨hl, ht, hp⟩ := parseErr_zero h
  obtain ⟨k1, k0, k2, k3, k4, k5, _⟩ := hl
  have x0 := hB.byte 0 (by omega)
  have e8 : (parseIp xs).off % 8 = 0 := by show ipFlags xs % 8192 * 8 % 8 = 0; omega
  have e4 : (parseIp xs).ol % 4 = 0 := by
    show (ipSize xs - 20) % 4 = 0
    unfold ipSize at k2 ⊢
    omega
  have hf := hh.fit
  simp only [mayB, withinB, Bool.and_eq_true, decide_eq_true_eq]
  exact ⟨⟨⟨⟨⟨⟨⟨⟨⟨hh.tos, hh.ttl⟩, hh.proto⟩, hh.id⟩, hh.off⟩, e8⟩, hh.ol⟩, e4⟩, by omega⟩, hp⟩
theorem parse_len {xs : Nat → Int} {l : Nat} (h : parseErr xs l = 0) : 20 + (parseIp xs).ol + (parseIp xs).bl = ipTotal xs ∧ ipTotal xs ≤ l ∧ 20 + (parseIp xs).ol = ipSize xs ∧ 20 ≤ ipTotal xs := by
  obtain ⟨hl, _, _⟩ := parseErr_zero h
  obtain ⟨k1, k0, k2, k3, k4, k5, _⟩ := hl
  show 20 + (ipSize xs - 20) + (ipTotal xs - ipSize xs) = ipTotal xs ∧ ipTotal xs ≤ l ∧ 20 + (ipSize xs - 20) = ipSize xs ∧ 20 ≤ ipTotal xs
  omega
theorem bit_split (f : Int) (h0 : 0 ≤ f) (h1 : f / 32768 = 0) : f % 8192 * 8 / 8 + (if (f / 16384 % 2 == 1) = true then 16384 else 0) + (if (f / 8192 % 2 == 1) = true then 8192 else 0) = f := by
  simp only [beq_iff_eq]
  split <;> split <;> omega
/-- What is parsed is put as it was. -/
theorem put_parsed {w : World} {oa : Option Addr} {l c : Nat} {xs : Nat → Int} (hB : Bts w oa l c xs) (h : parseErr xs l = 0) : ∀ i, i < ipTotal xs → i ≠ 10 → i ≠ 11 → pktB (parseIp xs) i = xs i := by
  intro i hi n10 n11
  obtain ⟨hl, ht, hp⟩ := parseErr_zero h
  obtain ⟨k1, k0, k2, k3, k4, k5, _⟩ := hl
  obtain ⟨g1, g2, g3, g4⟩ := parse_len h
  have x0 := hB.byte 0 (by omega); have x2 := hB.byte 2 (by omega); have x3 := hB.byte 3 (by omega); have x4 := hB.byte 4 (by omega); have x5 := hB.byte 5 (by omega)
  have x6 := hB.byte 6 (by omega); have x7 := hB.byte 7 (by omega)
  have x12 := hB.byte 12 (by omega); have x13 := hB.byte 13 (by omega); have x14 := hB.byte 14 (by omega); have x15 := hB.byte 15 (by omega); have x16 := hB.byte 16 (by omega); have x17 := hB.byte 17 (by omega); have x18 := hB.byte 18 (by omega); have x19 := hB.byte 19 (by omega)
  have hsz : ((ipSize xs : Nat) : Int) = xs 0 % 16 * 4 := by unfold ipSize; omega
  have htt : ((ipTotal xs : Nat) : Int) = xs 2 * 256 + xs 3 := by unfold ipTotal; omega
  have hb : bitsI (parseIp xs) = ipFlags xs := bit_split (ipFlags xs) (by unfold ipFlags; omega) ht
  have hfl : ipFlags xs = xs 6 * 256 + xs 7 := rfl
  unfold pktB
  by_cases hs : i < 20 + (parseIp xs).ol
  · rw [if_pos hs]
    rcases twenty i with rfl | rfl | rfl | rfl | rfl | rfl | rfl | rfl | rfl | rfl | rfl | rfl | rfl | rfl | rfl | rfl | rfl | rfl | rfl | rfl | ⟨k, rfl⟩
    · show 64 + (20 + ((parseIp xs).ol : Int)) / 4 = _; omega
    · rfl
    · show (20 + ((parseIp xs).ol : Int) + (parseIp xs).bl) / 256 = _; omega
    · show (20 + ((parseIp xs).ol : Int) + (parseIp xs).bl) % 256 = _; omega
    · show (xs 4 * 256 + xs 5) / 256 = _; omega
    · show (xs 4 * 256 + xs 5) % 256 = _; omega
    · show bitsI (parseIp xs) / 256 = _; omega
    · show bitsI (parseIp xs) % 256 = _; omega
    · rfl
    · rfl
    · exact absurd rfl n10
    · exact absurd rfl n11
    · show ((xs 12 * 256 + xs 13) * 65536 + (xs 14 * 256 + xs 15)) / 65536 / 256 = _; omega
    · show ((xs 12 * 256 + xs 13) * 65536 + (xs 14 * 256 + xs 15)) / 65536 % 256 = _; omega
    · show ((xs 12 * 256 + xs 13) * 65536 + (xs 14 * 256 + xs 15)) % 65536 / 256 = _; omega
    · show ((xs 12 * 256 + xs 13) * 65536 + (xs 14 * 256 + xs 15)) % 256 = _; omega
    · show ((xs 16 * 256 + xs 17) * 65536 + (xs 18 * 256 + xs 19)) / 65536 / 256 = _; omega
    · show ((xs 16 * 256 + xs 17) * 65536 + (xs 18 * 256 + xs 19)) / 65536 % 256 = _; omega
    · show ((xs 16 * 256 + xs 17) * 65536 + (xs 18 * 256 + xs 19)) % 65536 / 256 = _; omega
    · show ((xs 16 * 256 + xs 17) * 65536 + (xs 18 * 256 + xs 19)) % 256 = _; omega
    · show xs (20 + k) = _; rw [Nat.add_comm]
  · rw [if_neg hs]
    show xs (ipSize xs + (i - (20 + (parseIp xs).ol))) = _
    rw [g3]
    congr 1
    omega
theorem pkt_ver2 {p : Ip} (h : p.ol ≤ 40) (h4 : p.ol % 4 = 0) : pktB p 0 / 16 = 4 ∧ pktB p 0 % 16 * 4 = 20 + p.ol := by
  rw [pkt_head p 0 (by omega)]
  simp only [headB]
  omega
/-- Bytes, and further ones behind. -/
def behind (n : Nat) (ys xs : Nat → Int) : Nat → Int := fun i => if i < n then ys i else xs (i - n)
/-- What is put is parsed as it was, whatever stands behind it. -/
theorem parse_put {p : Ip} {m : Nat} {xs : Nat → Int} (h : MayP p) (hs : 0 ≤ p.src ∧ p.src ≤ 4294967295) (hd : 0 ≤ p.dst ∧ p.dst ≤ 4294967295) (ho : ∀ i, i < p.ol → 0 ≤ p.opts i ∧ p.opts i ≤ 255) (hb : ∀ i, i < p.bl → 0 ≤ p.body i ∧ p.body i ≤ 255) :
    parseErr (behind (20 + p.ol + p.bl) (pktB p) xs) (20 + p.ol + p.bl + m) = 0 ∧ sameIp p (parseIp (behind (20 + p.ol + p.bl) (pktB p) xs)) = true := by
  have hv := pkt_ver2 h.ol h.ol4
  have hfit := h.fit
  have hoff := h.off
  have hof8 := h.off8
  have hid := h.id
  have hol := h.ol
  have hbd := bitsI_bd hoff.1 hoff.2
  have y : ∀ i, i < 20 + p.ol → behind (20 + p.ol + p.bl) (pktB p) xs i = headB p (hdrSum p) i := fun i hi => by
    unfold behind; rw [if_pos (by omega), pkt_head p i hi]
  have y0 : behind (20 + p.ol + p.bl) (pktB p) xs 0 = pktB p 0 := by unfold behind; rw [if_pos (by omega)]
  have y1 : behind (20 + p.ol + p.bl) (pktB p) xs 1 = p.tos := y 1 (by omega)
  have y2 : behind (20 + p.ol + p.bl) (pktB p) xs 2 = (20 + (p.ol : Int) + p.bl) / 256 := y 2 (by omega)
  have y3 : behind (20 + p.ol + p.bl) (pktB p) xs 3 = (20 + (p.ol : Int) + p.bl) % 256 := y 3 (by omega)
  have y4 : behind (20 + p.ol + p.bl) (pktB p) xs 4 = p.id / 256 := y 4 (by omega)
  have y5 : behind (20 + p.ol + p.bl) (pktB p) xs 5 = p.id % 256 := y 5 (by omega)
  have y6 : behind (20 + p.ol + p.bl) (pktB p) xs 6 = bitsI p / 256 := y 6 (by omega)
  have y7 : behind (20 + p.ol + p.bl) (pktB p) xs 7 = bitsI p % 256 := y 7 (by omega)
  have y8 : behind (20 + p.ol + p.bl) (pktB p) xs 8 = p.ttl := y 8 (by omega)
  have y9 : behind (20 + p.ol + p.bl) (pktB p) xs 9 = p.proto := y 9 (by omega)
  have y12 : behind (20 + p.ol + p.bl) (pktB p) xs 12 = p.src / 65536 / 256 := y 12 (by omega)
  have y13 : behind (20 + p.ol + p.bl) (pktB p) xs 13 = p.src / 65536 % 256 := y 13 (by omega)
  have y14 : behind (20 + p.ol + p.bl) (pktB p) xs 14 = p.src % 65536 / 256 := y 14 (by omega)
  have y15 : behind (20 + p.ol + p.bl) (pktB p) xs 15 = p.src % 256 := y 15 (by omega)
  have y16 : behind (20 + p.ol + p.bl) (pktB p) xs 16 = p.dst / 65536 / 256 := y 16 (by omega)
  have y17 : behind (20 + p.ol + p.bl) (pktB p) xs 17 = p.dst / 65536 % 256 := y 17 (by omega)
  have y18 : behind (20 + p.ol + p.bl) (pktB p) xs 18 = p.dst % 65536 / 256 := y 18 (by omega)
  have y19 : behind (20 + p.ol + p.bl) (pktB p) xs 19 = p.dst % 256 := y 19 (by omega)
  have yo : ∀ k, k < p.ol → behind (20 + p.ol + p.bl) (pktB p) xs (20 + k) = p.opts k := fun k hk => by
    rw [y (20 + k) (by omega), Nat.add_comm]; rfl
  have yb : ∀ k, k < p.bl → behind (20 + p.ol + p.bl) (pktB p) xs (20 + p.ol + k) = p.body k := fun k hk => by
    unfold behind pktB; rw [if_pos (by omega), if_neg (by omega), Nat.add_sub_cancel_left]
  have ysum : sumN (behind (20 + p.ol + p.bl) (pktB p) xs) (20 + p.ol) = 65535 := by
    rw [← pkt_sum h hs hd ho]
    exact sumN_congr fun i hi => by unfold behind; rw [if_pos (by omega)]
  generalize behind (20 + p.ol + p.bl) (pktB p) xs = ys at *
  have hS : ipSize ys = 20 + p.ol := by unfold ipSize; rw [y0]; omega
  have hT : ipTotal ys = 20 + p.ol + p.bl := by unfold ipTotal; rw [y2, y3]; omega
  have hF : ipFlags ys = bitsI p := by unfold ipFlags; rw [y6, y7]; omega
  have hfl : bitsI p % 8192 * 8 = p.off ∧ (bitsI p / 16384 % 2 == 1) = p.df ∧ (bitsI p / 8192 % 2 == 1) = p.mf := by
    unfold bitsI
    cases p.df <;> cases p.mf
    all_goals simp
    all_goals omega
  have hq : (parseIp ys).tos = p.tos ∧ (parseIp ys).id = p.id ∧ (parseIp ys).df = p.df ∧ (parseIp ys).mf = p.mf ∧ (parseIp ys).off = p.off ∧ (parseIp ys).ttl = p.ttl ∧ (parseIp ys).proto = p.proto ∧ (parseIp ys).src = p.src ∧ (parseIp ys).dst = p.dst ∧ (parseIp ys).ol = p.ol ∧ (parseIp ys).bl = p.bl := by
    refine ⟨y1, ?_, ?_, ?_, ?_, y8, y9, ?_, ?_, ?_, ?_⟩
    · show ys 4 * 256 + ys 5 = _; omega
    · show (ipFlags ys / 16384 % 2 == 1) = _; rw [hF]; exact hfl.2.1
    · show (ipFlags ys / 8192 % 2 == 1) = _; rw [hF]; exact hfl.2.2
    · show ipFlags ys % 8192 * 8 = _; rw [hF]; exact hfl.1
    · show (ys 12 * 256 + ys 13) * 65536 + (ys 14 * 256 + ys 15) = _; omega
    · show (ys 16 * 256 + ys 17) * 65536 + (ys 18 * 256 + ys 19) = _; omega
    · show ipSize ys - 20 = _; omega
    · show ipTotal ys - ipSize ys = _; omega
  obtain ⟨q1, q2, q3, q4, q5, q6, q7, q8, q9, q10, q11⟩ := hq
  refine ⟨parseErr_of ⟨⟨by omega, by omega, by omega, by omega, by omega, by omega, by rw [hS]; exact ysum⟩, by rw [hF]; omega, ?_⟩, ?_⟩
  · have hm := may_iff.2 h
    simp only [mayB, Bool.and_eq_true] at hm
    have hp := hm.2
    unfold piecesB at hp ⊢
    rw [q4, q5, q10, q11]
    exact hp
  · unfold sameIp headSame
    rw [q1, q2, q3, q4, q5, q6, q7, q8, q9, q10, q11]
    simp only [beq_self_eq_true, Bool.and_true, Bool.true_and, Bool.and_eq_true, sameN, decide_eq_true_eq, true_and]
    refine ⟨fun i hi => ?_, fun i hi => ?_⟩
    · exact (yo i hi).symm
    · show _ = ys (ipSize ys + i); rw [hS]; exact (yb i hi).symm
end Go.Proofs.YtfkhnhenemgcmaaDoor
