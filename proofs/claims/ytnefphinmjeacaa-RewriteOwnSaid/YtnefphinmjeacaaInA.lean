/- csum.Mend and its reference; inner's readers and menders: a block of the call's own whose bytes are known, and whatever else must stay. -/
import Derived.Test.YtnefphinmjeacaaRef02
import Derived.Test.YtnefphinmjeacaaRow
import Derived.Test.YtnefphinmjeacaaLift2
import Derived.Test.YtnefphinmjeacaaBytes
import Derived.Test.YtnefphinmjeacaaIcmpA
set_option linter.unusedVariables false
set_option maxRecDepth 100000
set_option linter.unusedSimpArgs false
namespace Go.Proofs.Ytnefphinmjeacaa
open Go.RowKit
/-- A check sum mended for a word that became another one. -/
def mendI (c o n : Int) : Int := 65535 - foldI ((65535 - c) + (65535 - o) + n)
theorem mendI_bd {c o n : Int} (hc : 0 ≤ c ∧ c ≤ 65535) (ho : 0 ≤ o ∧ o ≤ 65535) (hn : 0 ≤ n ∧ n ≤ 65535) : 0 ≤ mendI c o n ∧ mendI c o n ≤ 65535 := by
  have := foldI_bd ((65535 - c) + (65535 - o) + n) (by omega)
  unfold mendI; omega
theorem cmend_any (c o n : Int) (w : World) (hc : 0 ≤ c ∧ c ≤ 65535) (ho : 0 ≤ o ∧ o ≤ 65535) (hn : 0 ≤ n ∧ n ≤ 65535) :
    Calls Try.prog 94 #[.int .u16 c, .int .u16 o, .int .u16 n] w fun e w' => e = .returned (.int .u16 (mendI c o n)) ∧ w = w' := by
  have x1 := xor_u16 c hc.1 (by omega)
  have x2 := xor_u16 o ho.1 (by omega)
  obtain ⟨F, hF⟩ : ∃ F, foldI ((65535 - c) + (65535 - o) + n) = F := ⟨_, rfl⟩
  have hFb : 0 ≤ F ∧ F ≤ 65535 := by rw [← hF]; exact foldI_bd _ (by omega)
  have x3 := xor_u16 F hFb.1 (by omega)
  have HM := Lib.hid (show mendI c o n = 65535 - F by unfold mendI; rw [hF])
  have HFD := Lib.hid (fun w1 => show Calls Try.prog 95 #[.int .u64 ((65535 - c) + (65535 - o) + n)] w1 fun e w' => e = .returned (.int .u16 F) ∧ w1 = w' by rw [← hF]; exact fold_any _ w1 (by omega) (by omega))
  clear hF
  rw [HM.out]
  obtain ⟨c', hc'⟩ : ∃ x, 65535 - c = x := ⟨_, rfl⟩
  obtain ⟨o', ho'⟩ : ∃ x, 65535 - o = x := ⟨_, rfl⟩
  have y1 : bits .xor .u16 IntKind.u16.max c = c' := by rw [← hc']; exact x1
  have y2 : bits .xor .u16 IntKind.u16.max o = o' := by rw [← ho']; exact x2
  have y3 : bits .xor .u16 IntKind.u16.max F = 65535 - F := x3
  rw [hc', ho'] at HFD
  have hcb : 0 ≤ c' ∧ c' ≤ 65535 := by omega
  have hob : 0 ≤ o' ∧ o' ≤ 65535 := by omega
  have k1 := wrapk_u64 c' (by omega) (by omega)
  have k2 := wrapk_u64 o' (by omega) (by omega)
  have k3 := wrapk_u64 n (by omega) (by omega)
  have k4 := wrapk_u64 (c' + o') (by omega) (by omega)
  have k5 := wrapk_u64 (c' + o' + n) (by omega) (by omega)
  clear x1 x2 x3 hc' ho' HM
  go_enter Try.func94, Try.ntmps94
  go_wp2_with (first | (go_at_call 95; (with_reducible refine (HFD.out _).mono ?_); rintro e w' ⟨rfl, rfl⟩))
  go_ret
  exact ⟨rfl, rfl⟩
theorem rmend2_any (c o n : Int) (w : World) (hc : 0 ≤ c ∧ c ≤ 65535) (ho : 0 ≤ o ∧ o ≤ 65535) (hn : 0 ≤ n ∧ n ≤ 65535) :
    Calls Try.prog 74 #[.int .u16 c, .int .u16 o, .int .u16 n] w fun e w' => e = .returned (.int .u16 (mendI c o n)) ∧ w = w' := by
  obtain ⟨c', hc'⟩ : ∃ x, 65535 - c = x := ⟨_, rfl⟩
  obtain ⟨o', ho'⟩ : ∃ x, 65535 - o = x := ⟨_, rfl⟩
  obtain ⟨F, hF⟩ : ∃ F, foldI (c' + o') = F := ⟨_, rfl⟩
  have hFb : 0 ≤ F ∧ F ≤ 65535 := by rw [← hF]; exact foldI_bd _ (by omega)
  obtain ⟨G, hG⟩ : ∃ G, foldI (c' + o' + n) = G := ⟨_, rfl⟩
  have hGb : 0 ≤ G ∧ G ≤ 65535 := by rw [← hG]; exact foldI_bd _ (by omega)
  have HM := Lib.hid (show mendI c o n = 65535 - G by unfold mendI; rw [hc', ho', hG])
  have H1 := Lib.hid (fun w1 => show Calls Try.prog 93 #[.int .u16 c', .int .u16 o'] w1 fun e w' => e = .returned (.int .u16 F) ∧ w1 = w' by
    have := join_any c' o' w1 (by omega) (by omega)
    rw [show joinI c' o' = F by rw [← hF, ← foldI_small (m := c') (by omega) (by omega), joinI_fold (by omega) (by omega), foldI_small (m := c') (by omega) (by omega)]] at this
    exact this)
  have H2 := Lib.hid (fun w1 => show Calls Try.prog 93 #[.int .u16 F, .int .u16 n] w1 fun e w' => e = .returned (.int .u16 G) ∧ w1 = w' by
    have := join_any F n w1 (by omega) (by omega)
    rw [show joinI F n = G by rw [← hF, joinI_fold (by omega) (by omega), hG]] at this
    exact this)
  rw [HM.out]
  have k1 : IntKind.u16.wrap (65535 - c) = c' := by rw [hc']; exact wrapk_u16 _ (by omega) (by omega)
  have k2 : IntKind.u16.wrap (65535 - o) = o' := by rw [ho']; exact wrapk_u16 _ (by omega) (by omega)
  have k3 : IntKind.u16.wrap (65535 - G) = 65535 - G := wrapk_u16 _ (by omega) (by omega)
  clear hF hG HM
  go_enter Try.func74, Try.ntmps74
  go_wp2_with (first | (go_at_call 93; (with_reducible refine (H1.out _).mono ?_); rintro e w' ⟨rfl, rfl⟩) | (go_at_call 93; (with_reducible refine (H2.out _).mono ?_); rintro e w' ⟨rfl, rfl⟩))
  go_ret
  exact ⟨rfl, rfl⟩
end Go.Proofs.Ytnefphinmjeacaa
