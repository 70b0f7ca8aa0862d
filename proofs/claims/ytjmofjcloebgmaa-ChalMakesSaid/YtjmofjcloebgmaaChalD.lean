/- The fixed answers of layer 20. -/
import Derived.Test.YtjmofjcloebgmaaLift
import Derived.Test.YtjmofjcloebgmaaChalC
set_option linter.unusedVariables false
set_option maxRecDepth 100000
set_option linter.unusedSimpArgs false
namespace Go.Proofs.Ytjmofjcloebgmaa
open Go.RowKit
set_option maxHeartbeats 1000000 in
theorem awake20_any (w : World) : Calls Try.prog 27 #[] w fun e w' => e = .returned (.bool true) ∧ Junk w w' := by
  have h1 : judgeI 4 149 100 50 = 2 := by decide +kernel
  have h2 : judgeI 4 149 100 49 = 3 := by decide +kernel
  have h3 : judgeI 4 149 149 50 = 1 := by decide +kernel
  have h4 : spendR 2 0 0 1 = ((2, 1, 1), true) := by decide +kernel
  go_enter Try.func27, Try.ntmps27
  go_wp2_with (first | (go_at_call 62; refine (spend_any _ _ _ _ _).mono ?_; rintro e w' ⟨rfl, ⟨osj, dj, rfl⟩⟩) | (go_at_call 63; refine (judge_any _ _ _ _ _ _ _ _ _ _ _ _).mono ?_; rintro e w' ⟨rfl, ⟨osj, dj, rfl⟩⟩))
  go_ret
  exact ⟨ret_bool rfl, by (repeat (first | with_reducible exact Junk.refl _ | with_reducible exact Junk.app _ _ _ _ _ | with_reducible apply Junk.alloc | with_reducible apply Junk.junk | with_reducible apply Junk.drew | with_reducible apply Junk.drewN))⟩

end Go.Proofs.Ytjmofjcloebgmaa
