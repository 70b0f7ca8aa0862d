/- The reference of layer 4: Same. -/
import Derived.Test.YtnefphinmjeacaaTcpD
import Derived.Test.YtnefphinmjeacaaLift2
set_option linter.unusedVariables false
set_option maxRecDepth 100000
set_option linter.unusedSimpArgs false
namespace Go.Proofs.Ytnefphinmjeacaa
open Go.RowKit
def odSame (x y : Od) : Bool := (x.k == y.k) && sameN x.xs y.xs x.l y.l
def osSame (F G : List Od) : Bool := decide (∀ i, i < F.length → ∀ x, F[i]? = some x → ∀ y, G[i]? = some y → odSame x y = true)
def headSameT (t u : Tc) : Bool := (t.sport == u.sport) && (t.dport == u.dport) && (t.seq == u.seq) && (t.ack == u.ack) && (t.flags == u.flags) && (t.win == u.win) && (t.urg == u.urg)
def tcSame (t u : Tc) : Bool := headSameT t u && (t.os.length == u.os.length) && sameN t.body u.body t.bl u.bl && osSame t.os u.os
theorem sameN_refl (xs : Nat → Int) (l : Nat) : sameN xs xs l l = true := by simp [sameN]
theorem odSame_refl (x : Od) : odSame x x = true := by simp [odSame, sameN_refl]
theorem osSame_refl (F : List Od) : osSame F F = true := by
  unfold osSame
  rw [decide_eq_true_eq]
  intro i hi x hx y hy
  rw [hx] at hy
  cases hy
  exact odSame_refl x
theorem tcSame_refl (t : Tc) : tcSame t t = true := by simp [tcSame, headSameT, sameN_refl, osSame_refl]
theorem osSame_bad {F G : List Od} {i : Nat} {x y : Od} (hx : F[i]? = some x) (hy : G[i]? = some y) (h : odSame x y = false) : osSame F G = false := by
  unfold osSame
  rw [decide_eq_false_iff_not]
  intro ha
  rw [ha i (List.getElem?_eq_some_iff.1 hx).1 x hx y hy] at h
  cases h
theorem osSame_ok {F G : List Ot} (h : ∀ i, i < F.length → ∀ f g, F[i]? = some f → G[i]? = some g → odSame f.d g.d = true) : osSame (F.map Ot.d) (G.map Ot.d) = true := by
  unfold osSame
  rw [decide_eq_true_eq]
  intro i hi x hx y hy
  rw [List.getElem?_map] at hx hy
  cases hf : F[i]? with
  | none => rw [hf] at hx; cases hx
  | some f =>
    cases hg : G[i]? with
    | none => rw [hg] at hy; cases hy
    | some g =>
      rw [hf] at hx; rw [hg] at hy
      cases hx; cases hy
      exact h i (by simpa using hi) f g hf hg
theorem od_at {F : List Ot} {i : Nat} {f : Ot} (h : F[i]? = some f) : (F.map Ot.d)[i]? = some f.d := by rw [List.getElem?_map, h]; rfl
end Go.Proofs.Ytnefphinmjeacaa
