/- A region that draws its order, over a class of worlds that is told by a property; a whole struct stored in it. -/
import Derived.Test.YtcnhlbkdhhjmiaaGreatDoorBox
import Derived.Test.YtcnhlbkdhhjmiaaGreatDoorMix4
set_option linter.unusedVariables false
set_option maxRecDepth 100000
set_option linter.unusedSimpArgs false
namespace Go
open RowKit
/-- A world that has the property. -/
structure PW (F : World → Prop) where
  V : World
  h : F V
theorem wp_region_mixp {P : Program} {id : Nat} {Q : Exit → Act → World → Prop} {a : Act} {w1 : World} {l : List Oper} (F : World → Prop) (hF : ∀ V V', F V → Junk V V' → F V') (π : List (Nat × Bool)) (hm : P.follows .mixedOrders = true)
    (hB : (Region.noSelect l.toArray && decide (π.length = l.length) && Region.mixB .any l.toArray π (Array.replicate l.length false)) = true) (h0 : F w1)
    (h : wpMix P l.toArray (fun w' => ∃ x : PW F, w' = x.V) (fun a' w' => Q .normal a' w') π a w1.drew) : (Code.region id l.toArray true).wp P Q a w1 :=
  wp_region_mix _ π hm hB (fun w1 w2 h1 h2 => by
    obtain ⟨x, rfl⟩ := h1
    exact ⟨⟨w2, hF _ _ x.h h2⟩, rfl⟩) ⟨⟨_, hF _ _ h0 (Junk.refl _).drew⟩, rfl⟩ h
/-- .. where the last operation may leave the class. -/
theorem wp_region_mixq {P : Program} {id : Nat} {Q : Exit → Act → World → Prop} {a : Act} {w1 : World} {l : List Oper} (F : World → Prop) (hF : ∀ V V', F V → Junk V V' → F V') (last : Nat) (π : List (Nat × Bool)) (hm : P.follows .mixedOrders = true)
    (hB : (Region.noSelect l.toArray && decide (π.length = l.length) && Region.mixB .any l.toArray π (Array.replicate l.length false) && Region.lastB .any l.toArray last && Region.endsB last π) = true) (h0 : F w1)
    (h : wpMixL P l.toArray (fun w' => ∃ x : PW F, w' = x.V) last (fun a' w' => Q .normal a' w') π a w1.drew) : (Code.region id l.toArray true).wp P Q a w1 := by
  simp only [Bool.and_eq_true, decide_eq_true_eq] at hB
  refine wp_region_any hm (wpAny_of_L (D := fun w' => ∃ x : PW F, w' = x.V) (last := last) (Q := fun a' w' => Q .normal a' w') (fun _ _ h => h) _ _ _ _ ?_)
  have := wpAnyL_mix (P := P) (md := .any) (D := fun w' => ∃ x : PW F, w' = x.V) (last := last) (fun _ _ h1 h2 => by
    obtain ⟨x, rfl⟩ := h1
    exact ⟨⟨_, hF _ _ x.h h2⟩, rfl⟩) hB.1.1.1.1 hB.1.2 π _ a w1.drew hB.1.1.2 hB.2 (Region.Closed.none _) (.inr ⟨⟨_, hF _ _ h0 (Junk.refl _).drew⟩, rfl⟩) h
  rw [hB.1.1.1.2] at this
  simpa using this
theorem quiet_loadAgg {P : Program} {a : Act} {w : World} {o : Oper} {C : World → Prop} (hj : C w) (t : TypeId) (x : Operand) (ho : o.op = .load t x)
    (hagg : ∀ w, (isAgg t).run P w = .ok true w) (g off : Nat) (cs : List Value) (hsz : ∀ w, (Go.sizeOf t).run P w = .ok cs.length w) (hx : a.eval x = .pointer (some ⟨g, off, none⟩)) (hc : ∀ j v, cs[j]? = some v → w.cell? ⟨g, off + j, none⟩ = some v) : o.quietAt P a C w (.agg cs.toArray) := by
  have h := run_loadCells_list (P := P) (w := w) ⟨g, off, none⟩ cs (fun j v hv => by rw [Addr.add_lit]; exact hc j v hv)
  have hrun : (Instr.loadAt t (.pointer (some ⟨g, off, none⟩))).run P w = .ok (.agg cs.toArray) w := by
    simp only [Instr.loadAt, Instr.sureAddr, loadVar, Sem.run_bind, Sem.run_pure, Result.andThen, hagg, hsz, if_true, h]
  unfold Oper.quietAt Oper.quietUpon
  simp only [execOp, ho, hx, hrun, Sem.run_bind, Sem.run_pure, Result.andThen]
  first | exact ⟨rfl, hj⟩ | exact hj | simp [hj]
theorem wpMixL_loadAgg {P : Program} {ops : Array Oper} {F : World → Prop} {last k : Nat} {Q : Act → World → Prop} {o : Oper} {r : List (Nat × Bool)} {a : Act} {w : World} (ho : ops[k]? = some o) (hw : Region.wanted o (yielded ops a.tmps) = true) (t : TypeId) (x : Operand) (hop : o.op = .load t x)
    (hagg : ∀ w, (isAgg t).run P w = .ok true w) (g off : Nat) (cs : List Value) (hsz : ∀ w, (Go.sizeOf t).run P w = .ok cs.length w) (hx : a.eval x = .pointer (some ⟨g, off, none⟩)) (hc : ∀ V, F V → ∀ j v, cs[j]? = some v → V.cell? ⟨g, off + j, none⟩ = some v)
    (h : wpMixL P ops (fun w' => ∃ x : PW F, w' = x.V) last Q r (a.put o.dst (.agg cs.toArray)) w) : wpMixL P ops (fun w' => ∃ x : PW F, w' = x.V) last Q ((k, true) :: r) a w :=
  wpMixL_q ho fun K hK => by
    rw [if_pos hw]
    refine ⟨.agg cs.toArray, ?_, hK _ h⟩
    rintro w' ⟨y, rfl⟩
    exact quiet_loadAgg (Junk.refl _) t x hop hagg g off cs hsz hx (hc y.V y.h)
theorem storeBox_wp {P : Program} {o : Oper} {a : Act} {K : Act → World → Prop} {Q : Exit → Act → World → Prop} {V : World} {g : Nat} {e : TypeId} {cs : List Value} (t : TypeId) (x y : Operand) (ho : o.op = .store t x y)
    (h : Box V g e cs) (off : Nat) (c : Array Value) (hi : (P.info? t).map (·.size) = some c.size) (hx : a.eval x = .pointer (some ⟨g, off, none⟩)) (hy : a.eval y = .agg c) (hfit : off + c.size ≤ cs.length) (h1 : ∀ v ∈ c.toList, v.oneCell' = true)
    (hK : ∀ w', V.grownBy w' (some g) → Box w' g e (cs.take off ++ c.toList ++ cs.drop (off + c.toList.length)) → K (a.put o.dst undef) w') : o.wp P a V K Q := by
  obtain ⟨w', hrun, hO, hg⟩ := run_storeOwn (P := P) h.own t off c hi (by rw [Nat.one_mul]; exact hfit) h1
  have := hK w' hg (own_Box hO)
  unfold Oper.wp
  simp only [execOp, ho, hx, hy, hrun, Sem.run_bind, Sem.run_pure, Result.andThen]
  simpa [Oper.upon] using this
theorem storeOwn_wp {P : Program} {o : Oper} {a : Act} {K : Act → World → Prop} {Q : Exit → Act → World → Prop} {V : World} {B g sz cap n : Nat} {e : TypeId} {xs : List Value} (t : TypeId) (x y : Operand) (ho : o.op = .store t x y)
    (h : Own B V e sz (some ⟨g, 0, none⟩) cap n xs) (off : Nat) (c : Array Value) (hi : (P.info? t).map (·.size) = some c.size) (hx : a.eval x = .pointer (some ⟨g, off, none⟩)) (hy : a.eval y = .agg c) (hfit : off + c.size ≤ n * sz) (h1 : ∀ v ∈ c.toList, v.oneCell' = true)
    (hK : ∀ w', V.grownBy w' (some g) → Own B w' e sz (some ⟨g, 0, none⟩) cap n (xs.take off ++ c.toList ++ xs.drop (off + c.toList.length)) → K (a.put o.dst undef) w') : o.wp P a V K Q := by
  obtain ⟨w', hrun, hO, hg⟩ := run_storeOwn (P := P) h t off c hi hfit h1
  have := hK w' hg hO
  unfold Oper.wp
  simp only [execOp, ho, hx, hy, hrun, Sem.run_bind, Sem.run_pure, Result.andThen]
  simpa [Oper.upon] using this
end Go
