/- The tuple of what was put: plain laws. -/
import Derived.Test.YtjmofjcloebgmaaTupG
import Derived.Test.YtjmofjcloebgmaaUdpB
import Derived.Test.YtjmofjcloebgmaaTcpN
set_option linter.unusedVariables false
set_option maxRecDepth 100000
set_option linter.unusedSimpArgs false
namespace Go.Proofs.Ytjmofjcloebgmaa
open Go.RowKit
def dgB (src dst sp dp : Int) : Nat → Int := udOf src dst sp dp (fun _ => 0) 0
theorem dg_size {src dst sp dp : Int} : uSize (dgB src dst sp dp) = 8 := by
  unfold uSize dgB udOf
  simp only [udB]
  decide
theorem dg_chk {src dst sp dp : Int} : uChk (dgB src dst sp dp) = udSum src dst sp dp (fun _ => 0) 0 := by
  unfold uChk dgB udOf
  simp only [udB]
  omega
theorem dg_sum {src dst sp dp : Int} (h1 : 0 ≤ src ∧ src ≤ 4294967295) (h2 : 0 ≤ dst ∧ dst ≤ 4294967295) (hs : 0 ≤ sp ∧ sp ≤ 65535) (hd : 0 ≤ dp ∧ dp ≤ 65535) : usumN src dst (dgB src dst sp dp) 8 = 65535 := udOf_sum (l := 0) h1 h2 hs hd (by omega) (fun i hi => by omega)
theorem dg_byte {src dst sp dp : Int} (h1 : 0 ≤ src ∧ src ≤ 4294967295) (h2 : 0 ≤ dst ∧ dst ≤ 4294967295) (hs : 0 ≤ sp ∧ sp ≤ 65535) (hd : 0 ≤ dp ∧ dp ≤ 65535) : ∀ i, i < 8 → 0 ≤ dgB src dst sp dp i ∧ dgB src dst sp dp i ≤ 255 := udOf_byte (l := 0) h1 h2 hs hd (by omega) (fun i hi => by omega)
theorem dg_err {src dst sp dp : Int} (h1 : 0 ≤ src ∧ src ≤ 4294967295) (h2 : 0 ≤ dst ∧ dst ≤ 4294967295) (hs : 0 ≤ sp ∧ sp ≤ 65535) (hd : 0 ≤ dp ∧ dp ≤ 65535) : ofErr false 0 17 src dst (dgB src dst sp dp) 8 = 0 := by
  unfold ofErr
  rw [if_neg (by decide)]
  unfold prErr
  rw [if_neg (by decide), if_pos rfl]
  unfold udpErr
  rw [if_neg (by omega), dg_size, if_neg (by omega), if_neg (by rw [dg_sum h1 h2 hs hd]; simp)]
theorem dg_tup {src dst sp dp : Int} (h1 : 0 ≤ src ∧ src ≤ 4294967295) (h2 : 0 ≤ dst ∧ dst ≤ 4294967295) (hs : 0 ≤ sp ∧ sp ≤ 65535) (hd : 0 ≤ dp ∧ dp ≤ 65535) : ofTup false 0 17 src dst (dgB src dst sp dp) 8 = ⟨17, src, sp, dst, dp⟩ := by
  unfold ofTup
  rw [if_pos (dg_err h1 h2 hs hd)]
  unfold prS prD
  rw [if_neg (by decide), if_neg (by decide)]
  simp only [dgB, udOf, udB, Tup.mk.injEq, true_and]
  omega
/-- Another address, by its lowest byte: the sum fits no more. -/
theorem dg_other {src dst sp dp s2 : Int} (h1 : 0 ≤ src ∧ src ≤ 4294967295) (h2 : 0 ≤ dst ∧ dst ≤ 4294967295) (hs : 0 ≤ sp ∧ sp ≤ 65535) (hd : 0 ≤ dp ∧ dp ≤ 65535) (k2 : 0 ≤ s2 ∧ s2 ≤ 4294967295) (hhi : s2 / 256 = src / 256) (hne : s2 ≠ src) : ofErr false 0 17 s2 dst (dgB src dst sp dp) 8 = 5 := by
  unfold ofErr
  rw [if_neg (by decide)]
  unfold prErr
  rw [if_neg (by decide), if_pos rfl]
  unfold udpErr
  have hc := udSum_bd (body := fun _ => 0) (l := 0) h1 h2 hs hd (by omega) (fun i hi => by omega)
  rw [if_neg (by omega), dg_size, if_neg (by omega), dg_chk, if_pos]
  refine ⟨by omega, fun hx => ?_⟩
  have h0 := dg_sum h1 h2 hs hd
  have hr := (rawN_bd _ 8 (dg_byte h1 h2 hs hd)).1
  have hp := pseudoN_bd (proto := 17) (size := ((8 : Nat) : Int)) h1 h2 (by omega) (by omega)
  have hp2 := pseudoN_bd (proto := 17) (size := ((8 : Nat) : Int)) k2 h2 (by omega) (by omega)
  unfold usumN at h0 hx
  rw [foldI_iff (by omega)] at h0 hx
  unfold pseudoN at h0 hx
  omega
def synTc (sp dp : Int) : Tc := ⟨sp, dp, 0, 0, 2, 0, 0, [], 0, fun _ => 0⟩
theorem syn_may {sp dp : Int} (hs : 0 ≤ sp ∧ sp ≤ 65535) (hd : 0 ≤ dp ∧ dp ≤ 65535) : TcMayP (synTc sp dp) :=
  ⟨by show rtAllD [] = true; decide, hs, hd, by show (0 : Int) ≤ 0 ∧ (0 : Int) ≤ 65535; omega, by show (0 : Int) ≤ 0 ∧ (0 : Int) ≤ 65535; omega, by show (0 : Int) ≤ 2 ∧ (2 : Int) ≤ 255; omega, by show (20 + (optsND [] + 3) / 4 * 4) + 0 ≤ 65535; decide⟩
theorem syn_wf {sp dp : Int} : TcWf (synTc sp dp) := ⟨by show (0 : Int) ≤ 0 ∧ (0 : Int) ≤ 4294967295; omega, by show (0 : Int) ≤ 0 ∧ (0 : Int) ≤ 4294967295; omega, fun f hf => (by cases hf), fun i hi => absurd hi (Nat.not_lt_zero _)⟩
theorem syn_sz {sp dp : Int} : tcSz (synTc sp dp) + (synTc sp dp).bl = 20 := by show (20 + (optsND [] + 3) / 4 * 4) + 0 = 20; decide
theorem syn_err {src dst sp dp : Int} (h1 : 0 ≤ src ∧ src ≤ 4294967295) (h2 : 0 ≤ dst ∧ dst ≤ 4294967295) (hs : 0 ≤ sp ∧ sp ≤ 65535) (hd : 0 ≤ dp ∧ dp ≤ 65535) : ofErr false 0 6 src dst (segOf src dst (synTc sp dp)) 20 = 0 := by
  unfold ofErr
  rw [if_neg (by decide)]
  unfold prErr
  rw [if_pos rfl]
  have := (seg_parse h1 h2 (syn_may hs hd) (syn_wf (sp := sp) (dp := dp))).1
  rw [syn_sz] at this
  exact this
theorem syn_tup {src dst sp dp : Int} (h1 : 0 ≤ src ∧ src ≤ 4294967295) (h2 : 0 ≤ dst ∧ dst ≤ 4294967295) (hs : 0 ≤ sp ∧ sp ≤ 65535) (hd : 0 ≤ dp ∧ dp ≤ 65535) : ofTup false 0 6 src dst (segOf src dst (synTc sp dp)) 20 = ⟨6, src, sp, dst, dp⟩ := by
  unfold ofTup
  rw [if_pos (syn_err h1 h2 hs hd)]
  unfold prS prD
  rw [if_neg (by decide), if_neg (by decide)]
  have hz : (20 : Nat) ≤ tcSz (synTc sp dp) := by unfold tcSz; omega
  have e : ∀ k, k < 20 → segOf src dst (synTc sp dp) k = tcHead (synTc sp dp) (tcSz (synTc sp dp)) (segSum src dst (synTc sp dp)) k := fun k hk => by unfold segOf segB; rw [if_pos (by omega)]
  rw [e 0 (by omega), e 1 (by omega), e 2 (by omega), e 3 (by omega)]
  simp only [tcHead, synTc, Tup.mk.injEq, true_and]
  omega
theorem syn_other {src dst sp dp s2 : Int} (h1 : 0 ≤ src ∧ src ≤ 4294967295) (h2 : 0 ≤ dst ∧ dst ≤ 4294967295) (hs : 0 ≤ sp ∧ sp ≤ 65535) (hd : 0 ≤ dp ∧ dp ≤ 65535) (k2 : 0 ≤ s2 ∧ s2 ≤ 4294967295) (hhi : s2 / 256 = src / 256) (hne : s2 ≠ src) : ofErr false 0 6 s2 dst (segOf src dst (synTc sp dp)) 20 = 5 := by
  unfold ofErr
  rw [if_neg (by decide)]
  unfold prErr
  rw [if_pos rfl]
  have hM := syn_may hs hd
  have hW := syn_wf (sp := sp) (dp := dp)
  have hS := tcSz_le hM
  have hz := seg_size (src := src) (dst := dst) hM
  have h0 := seg_sum h1 h2 hM hW
  have hb := segB_byte hM hW (segSum_bd h1 h2 hM hW)
  have hr := rawN_bd (segOf src dst (synTc sp dp)) _ hb
  rw [syn_sz] at h0 hr
  have hsz : tcSz (synTc sp dp) = 20 := by have := syn_sz (sp := sp) (dp := dp); have e : (synTc sp dp).bl = 0 := rfl; omega
  have hp := pseudoN_bd (proto := 6) (size := ((20 : Nat) : Int)) h1 h2 (by omega) (by omega)
  have hp2 := pseudoN_bd (proto := 6) (size := ((20 : Nat) : Int)) k2 h2 (by omega) (by omega)
  unfold tcpErr
  rw [if_neg (by omega), if_neg (by omega), hz, if_neg (by omega), if_pos]
  intro hc
  unfold tsumN at hc h0
  rw [foldI_iff (by omega)] at hc h0
  unfold pseudoN at hc h0
  omega
theorem xor_low (s x : Nat) (hx : x < 256) : (s ^^^ x) / 256 = s / 256 ∧ (0 < x → s ^^^ x ≠ s) := by
  refine ⟨?_, fun h0 hc => ?_⟩
  · rw [show (256 : Nat) = 2 ^ 8 by decide, Nat.xor_div_two_pow, show x / 2 ^ 8 = 0 by omega, Nat.xor_zero]
  · have h2 : s ^^^ (s ^^^ x) = s ^^^ s := by rw [hc]
    rw [← Nat.xor_assoc, Nat.xor_self, Nat.zero_xor] at h2
    omega
end Go.Proofs.Ytjmofjcloebgmaa
