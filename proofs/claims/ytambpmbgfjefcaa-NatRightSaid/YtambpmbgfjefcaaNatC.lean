/- nat.find, nat.Right. -/
import Derived.Test.YtambpmbgfjefcaaNatB
set_option linter.unusedVariables false
set_option maxRecDepth 100000
set_option linter.unusedSimpArgs false
namespace Go.Proofs.Ytambpmbgfjefcaa
open Go.RowKit
theorem findcap_new (w : World) (F : Nat) (x : Ln) (t1 t2 : TypeId) (n1 n2 : Nat) (h1 : n1 = w.heap.size + 1) (h2 : n2 = w.heap.size) :
    FindCap ((w.alloc (.cells #[.int .i64 x.proto, .int .u32 x.inn, .int .i64 x.inport, .int .i64 x.port, .int .i64 x.till] t1)).alloc (.cells #[.func (.func F) #[] #[]] t2)) n1 n2 F x := by
  subst h1 h2
  refine ⟨by simp, by simp; omega, ?_, ?_, ?_, ?_, ?_, ?_⟩ <;> simp [go_sem]
theorem find_outer (x : Ln) (oa : Option Addr) (l c : Nat) (L : List Ln) (w : World) (hl : l ≤ 1000000) (hL : L.length = l) (hS : LsAt w oa L) :
    Calls Try.prog 36 #[.slice oa l c, x.val, .func (.func 37) #[] #[]] w fun e w' => e = .returned (.int .i64 (idxI (L.findIdx? (outerB x)))) ∧ Junk w w' := by
  have HS := Lib.hid hS
  have hmf : ∀ (fn : Fn) (first cap : Array Value) (w : World), (Instr.makeFunc fn first cap).run Try.prog w = .ok (.func fn first cap) w := fun _ _ _ _ => rfl
  clear hS
  go_enter Try.func36, Try.ntmps36
  go_wp2_with (first | (go_at_call 45; refine (indexF_any oa l c L (outerB x) _ _ _ hl hL (HS.out.on (by ((try simp only [World.junk_junk, Array.append_assoc]); (repeat (first | with_reducible exact Junk.refl _ | with_reducible exact Junk.app _ _ _ _ _ | with_reducible exact Junk.app2 _ _ _ _ _ _ | with_reducible exact Junk.app3 _ _ _ _ _ _ _ | with_reducible exact Junk.app4 _ _ _ _ _ _ _ _ | with_reducible exact Junk.app5 _ _ _ _ _ _ _ _ _ | with_reducible apply Junk.alloc | with_reducible apply Junk.junk | with_reducible apply Junk.drew | with_reducible apply Junk.drewN))))) (fun w1 hj y => find1_outer x y _ _ w1 (FindCap.on (findcap_new w _ x _ _ _ _ (by simp) (by simp)) hj))).mono ?_; rintro e w' ⟨rfl, ⟨osj, dj, rfl⟩⟩))
  go_ret
  exact ⟨rfl, by ((try simp only [World.junk_junk, Array.append_assoc]); (repeat (first | with_reducible exact Junk.refl _ | with_reducible exact Junk.app _ _ _ _ _ | with_reducible exact Junk.app2 _ _ _ _ _ _ | with_reducible exact Junk.app3 _ _ _ _ _ _ _ | with_reducible exact Junk.app4 _ _ _ _ _ _ _ _ | with_reducible exact Junk.app5 _ _ _ _ _ _ _ _ _ | with_reducible apply Junk.alloc | with_reducible apply Junk.junk | with_reducible apply Junk.drew | with_reducible apply Junk.drewN)))⟩
theorem find_inner (x : Ln) (oa : Option Addr) (l c : Nat) (L : List Ln) (w : World) (hl : l ≤ 1000000) (hL : L.length = l) (hS : LsAt w oa L) :
    Calls Try.prog 36 #[.slice oa l c, x.val, .func (.func 38) #[] #[]] w fun e w' => e = .returned (.int .i64 (idxI (L.findIdx? (innerB x)))) ∧ Junk w w' := by
  have HS := Lib.hid hS
  have hmf : ∀ (fn : Fn) (first cap : Array Value) (w : World), (Instr.makeFunc fn first cap).run Try.prog w = .ok (.func fn first cap) w := fun _ _ _ _ => rfl
  clear hS
  go_enter Try.func36, Try.ntmps36
  go_wp2_with (first | (go_at_call 45; refine (indexF_any oa l c L (innerB x) _ _ _ hl hL (HS.out.on (by ((try simp only [World.junk_junk, Array.append_assoc]); (repeat (first | with_reducible exact Junk.refl _ | with_reducible exact Junk.app _ _ _ _ _ | with_reducible exact Junk.app2 _ _ _ _ _ _ | with_reducible exact Junk.app3 _ _ _ _ _ _ _ | with_reducible exact Junk.app4 _ _ _ _ _ _ _ _ | with_reducible exact Junk.app5 _ _ _ _ _ _ _ _ _ | with_reducible apply Junk.alloc | with_reducible apply Junk.junk | with_reducible apply Junk.drew | with_reducible apply Junk.drewN))))) (fun w1 hj y => find1_inner x y _ _ w1 (FindCap.on (findcap_new w _ x _ _ _ _ (by simp) (by simp)) hj))).mono ?_; rintro e w' ⟨rfl, ⟨osj, dj, rfl⟩⟩))
  go_ret
  exact ⟨rfl, by ((try simp only [World.junk_junk, Array.append_assoc]); (repeat (first | with_reducible exact Junk.refl _ | with_reducible exact Junk.app _ _ _ _ _ | with_reducible exact Junk.app2 _ _ _ _ _ _ | with_reducible exact Junk.app3 _ _ _ _ _ _ _ | with_reducible exact Junk.app4 _ _ _ _ _ _ _ _ | with_reducible exact Junk.app5 _ _ _ _ _ _ _ _ _ | with_reducible apply Junk.alloc | with_reducible apply Junk.junk | with_reducible apply Junk.drew | with_reducible apply Junk.drewN)))⟩
end Go.Proofs.Ytambpmbgfjefcaa
