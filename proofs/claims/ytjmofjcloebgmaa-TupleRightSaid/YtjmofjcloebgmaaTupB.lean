/- tuple.side, raw. -/
import Derived.Test.YtjmofjcloebgmaaTupA
set_option linter.unusedVariables false
set_option maxRecDepth 100000
set_option linter.unusedSimpArgs false
namespace Go.Proofs.Ytjmofjcloebgmaa
open Go.RowKit
/-- What an appending call hands back: the slice, the call's own still, with so many bytes more. -/
def GrewM (W0 : World) (n : Nat) (xs : List Value) (e : Ending) (w' : World) : Prop :=
  ∃ oa cap, e = .returned (.slice oa n cap) ∧ Junk W0 w' ∧ Own W0.heap.size w' 5 1 oa cap n xs
set_option maxHeartbeats 400000 in
theorem tup_side_any (W0 w : World) (oa : Option Addr) (cap n : Nat) (xs : List Value) (a p : Int) (ha : 0 ≤ a ∧ a ≤ 4294967295) (hp : -9223372036854775808 ≤ p ∧ p ≤ 9223372036854775807) (hn : n ≤ 100000) (hj : Junk W0 w) (hown : Own W0.heap.size w 5 1 oa cap n xs) :
    Calls Try.prog 92 #[.slice oa n cap, .int .u32 a, .int .i64 p] w (GrewM W0 (n + 6) (xs ++ (sideL a p).map (Value.int .u8))) := by
  have HJ := Lib.hid hj
  have HO := Lib.hid hown
  clear hj hown
  have q1 : IntKind.u8.wrap (a / 16777216) = a / 16777216 := wrapk_u8 _ (by omega) (by omega)
  have q2 : IntKind.u8.wrap (a / 65536) = a / 65536 % 256 := IntKind.wrap_u8 _
  have q3 : IntKind.u8.wrap (a / 256) = a / 256 % 256 := IntKind.wrap_u8 _
  have q4 : IntKind.u8.wrap a = a % 256 := IntKind.wrap_u8 _
  have q5 : IntKind.u8.wrap (p / 256) = p / 256 % 256 := IntKind.wrap_u8 _
  have q6 : IntKind.u8.wrap p = p % 256 := IntKind.wrap_u8 _
  go_enter Try.func92, Try.ntmps92
  go_wp2_with (at_builtin; (refine ap_own (W0 := W0) rfl _ _ 23 rfl 5 (.int .u8 0) 1 1 (by kernel_rfl) rfl (by decide) Try.underlying23 (HJ.out.trans (by ((try simp only [World.junk_junk, Array.append_assoc]); (repeat (first | with_reducible exact Junk.refl _ | with_reducible exact Junk.app _ _ _ _ _ | with_reducible exact Junk.app2 _ _ _ _ _ _ | with_reducible exact Junk.app3 _ _ _ _ _ _ _ | with_reducible exact Junk.app4 _ _ _ _ _ _ _ _ | with_reducible exact Junk.app5 _ _ _ _ _ _ _ _ _ | with_reducible apply Junk.alloc | with_reducible apply Junk.junk | with_reducible apply Junk.drew | with_reducible apply Junk.drewN))))) oa cap n xs rfl (HO.out.on (by ((try simp only [World.junk_junk, Array.append_assoc]); (repeat (first | with_reducible exact Junk.refl _ | with_reducible exact Junk.app _ _ _ _ _ | with_reducible exact Junk.app2 _ _ _ _ _ _ | with_reducible exact Junk.app3 _ _ _ _ _ _ _ | with_reducible exact Junk.app4 _ _ _ _ _ _ _ _ | with_reducible exact Junk.app5 _ _ _ _ _ _ _ _ _ | with_reducible apply Junk.alloc | with_reducible apply Junk.junk | with_reducible apply Junk.drew | with_reducible apply Junk.drewN))))) _ 6 6 rfl ((sideL a p).map (Value.int .u8)) rfl (built_cells (by simp)) (fun h => by cases h) (by simp [Value.oneCell']) (by simp only [maxLen]; omega) (by omega) ?_; intro oa' cap' os d hown' hnn))
  go_ret
  exact ⟨_, _, rfl, ⟨_, _, rfl⟩, hown'⟩
end Go.Proofs.Ytjmofjcloebgmaa
