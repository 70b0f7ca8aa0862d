/- A region that draws its order, two of whose effects wait for nothing of one another: both orders are walked. -/
import Derived.Test.YtcnhlbkdhhjmiaaGreatDoorMix
set_option linter.unusedVariables false
set_option maxRecDepth 100000
namespace Go
theorem Junk.app2 (w : World) (a b x : Array Obj) (d d' : Nat) : Junk (w.junk (a ++ b) d) (w.junk (a ++ (b ++ x)) d') := by have := Junk.app w (a ++ b) x d d'; simpa using this
theorem Junk.app3 (w : World) (a b c x : Array Obj) (d d' : Nat) : Junk (w.junk (a ++ (b ++ c)) d) (w.junk (a ++ (b ++ (c ++ x))) d') := by have := Junk.app w (a ++ (b ++ c)) x d d'; simpa using this
theorem Junk.app4 (w : World) (a b c e x : Array Obj) (d d' : Nat) : Junk (w.junk (a ++ (b ++ (c ++ e))) d) (w.junk (a ++ (b ++ (c ++ (e ++ x)))) d') := by have := Junk.app w (a ++ (b ++ (c ++ e))) x d d'; simpa using this
theorem Junk.app5 (w : World) (a b c e f x : Array Obj) (d d' : Nat) : Junk (w.junk (a ++ (b ++ (c ++ (e ++ f)))) d) (w.junk (a ++ (b ++ (c ++ (e ++ (f ++ x))))) d') := by have := Junk.app w (a ++ (b ++ (c ++ (e ++ f)))) x d d'; simpa using this
/-- An order of our choice, with a fork where two effects may come up. -/
inductive MixT where
  | nil
  | q (k : Nat) (r : MixT)
  | e (k : Nat) (r : MixT)
  | two (k1 : Nat) (r1 : MixT) (k2 : Nat) (r2 : MixT)
def MixT.len : MixT → Nat
  | .nil => 0
  | .q _ r => r.len + 1
  | .e _ r => r.len + 1
  | .two _ r1 _ _ => r1.len + 1
section
variable {P : Program} {ops : Array Oper} {md : Region.Mode} {D : World → Prop}
def Region.mixTB (md : Region.Mode) (ops : Array Oper) : MixT → Array Bool → Bool
  | .nil, listed => (Region.ready md ops listed).isEmpty
  | .q k r, listed => ((Region.ready md ops listed).contains k && Region.free md ops listed k) && Region.mixTB md ops r (listed.setIfInBounds k true)
  | .e k r, listed => decide (Region.ready md ops listed = [k]) && Region.mixTB md ops r (listed.setIfInBounds k true)
  | .two k1 r1 k2 r2, listed => (decide (Region.ready md ops listed = [k1, k2]) && decide (r1.len = r2.len)) && (Region.mixTB md ops r1 (listed.setIfInBounds k1 true) && Region.mixTB md ops r2 (listed.setIfInBounds k2 true))
def wpMixT (P : Program) (ops : Array Oper) (D : World → Prop) (Q : Act → World → Prop) : MixT → Act → World → Prop
  | .nil, a, w => ∀ w', Junk w w' → Q a w'
  | .q k r, a, w => match ops[k]? with
    | none => False
    | some o => if Region.wanted o (yielded ops a.tmps) then ∃ v, (∀ w, D w → o.quietAt P a (Junk w) w v) ∧ wpMixT P ops D Q r (a.put o.dst v) w else wpMixT P ops D Q r (a.put o.dst undef) w
  | .e k r, a, w => ∀ w', Junk w w' → wpE P ops k (fun a' w'' => D w'' ∧ wpMixT P ops D Q r a' w'') a w'
  | .two k1 r1 k2 r2, a, w => (∀ w', Junk w w' → wpE P ops k1 (fun a' w'' => D w'' ∧ wpMixT P ops D Q r1 a' w'') a w') ∧ (∀ w', Junk w w' → wpE P ops k2 (fun a' w'' => D w'' ∧ wpMixT P ops D Q r2 a' w'') a w')
theorem wpMixT_q {Q : Act → World → Prop} {k : Nat} {r : MixT} {o : Oper} {a : Act} {w : World} (ho : ops[k]? = some o)
    (h : ∀ K : Act → Prop, (∀ a, wpMixT P ops D Q r a w → K a) → if Region.wanted o (yielded ops a.tmps) then ∃ v, (∀ w, D w → o.quietAt P a (Junk w) w v) ∧ K (a.put o.dst v) else K (a.put o.dst undef)) :
    wpMixT P ops D Q (.q k r) a w := by
  unfold wpMixT
  simp only [ho]
  exact h _ (fun _ h => h)
theorem wpE_of {Q : Act → World → Prop} {k : Nat} {o : Oper} {a : Act} {w : World} (ho : ops[k]? = some o)
    (h : ∀ os d, ∀ K : Act → World → Prop, (∀ a w', Q a w' → K a w') → if Region.wanted o (yielded ops a.tmps) then o.wp P a (w.junk os d) K NoExit else K (a.put o.dst undef) (w.junk os d)) :
    ∀ w', Junk w w' → wpE P ops k Q a w' := by
  rintro w' ⟨os, d, rfl⟩
  unfold wpE
  simp only [ho]
  exact h os d _ (fun _ _ h => h)
theorem wpMixT_e {Q : Act → World → Prop} {k : Nat} {r : MixT} {o : Oper} {a : Act} {w : World} (ho : ops[k]? = some o)
    (h : ∀ os d, ∀ K : Act → World → Prop, (∀ a w', D w' → wpMixT P ops D Q r a w' → K a w') → if Region.wanted o (yielded ops a.tmps) then o.wp P a (w.junk os d) K NoExit else K (a.put o.dst undef) (w.junk os d)) :
    wpMixT P ops D Q (.e k r) a w := by
  unfold wpMixT
  exact wpE_of ho fun os d K hK => h os d K fun a w' h1 h2 => hK a w' ⟨h1, h2⟩
theorem wpMixT_two {Q : Act → World → Prop} {k1 k2 : Nat} {r1 r2 : MixT} {a : Act} {w : World} (h1 : wpMixT P ops D Q (.e k1 r1) a w) (h2 : wpMixT P ops D Q (.e k2 r2) a w) : wpMixT P ops D Q (.two k1 r1 k2 r2) a w := by
  unfold wpMixT at h1 h2 ⊢
  exact ⟨h1, h2⟩
theorem wpMixT_nil {Q : Act → World → Prop} {a : Act} {w : World} (h : ∀ os d, Q a (w.junk os d)) : wpMixT P ops D Q .nil a w := by
  unfold wpMixT
  rintro w' ⟨os, d, rfl⟩
  exact h os d
theorem wpAnyD_mixT (hcl : ∀ w w', D w → Junk w w' → D w') {Q : Act → World → Prop} (hsel : Region.noSelect ops = true) : ∀ (π : MixT) (listed : Array Bool) (a : Act) (w : World),
    Region.mixTB md ops π listed = true → D w → wpMixT P ops D Q π a w → wpAnyD P md ops D Q π.len listed a w
  | .nil, _, _, _, hB, _, h => ⟨by simpa [Region.mixTB] using hB, by unfold wpMixT at h; exact h⟩
  | .q k r, listed, a, w, hB, hD, h => by
    simp only [Region.mixTB, Bool.and_eq_true] at hB
    obtain ⟨⟨hr, hf⟩, hB'⟩ := hB
    unfold wpMixT at h
    split at h
    · exact h.elim
    · rename_i o ho
      have hk : ∃ v, YieldsJ P ops D o v a ∧ wpMixT P ops D Q r (a.put o.dst v) w := by
        split at h
        · rename_i hw; obtain ⟨v, h1, h2⟩ := h; exact ⟨v, .inl ⟨hw, h1⟩, h2⟩
        · rename_i hw; exact ⟨undef, .inr ⟨by simpa using hw, rfl⟩, h⟩
      obtain ⟨v, hy, h2⟩ := hk
      exact wpAnyD_first hcl ho (Region.noSelect_spec hsel) r.len listed a w (Region.free_spec ho hf) (by simpa using hr) hy hD (wpAnyD_mixT hcl hsel r _ _ w hB' hD h2)
  | .e k r, listed, a, w, hB, hD, h => by
    simp only [Region.mixTB, Bool.and_eq_true, decide_eq_true_eq] at hB
    obtain ⟨hr, hB'⟩ := hB
    unfold wpMixT at h
    refine ⟨fun h0 => (by rw [hr] at h0; cases h0), fun i hi w' hw' => ?_⟩
    rw [hr] at hi
    obtain rfl : i = k := by simpa using hi
    exact wpE_mono (fun a' w'' h' => ⟨h'.1, wpAnyD_mixT hcl hsel r _ a' w'' hB' h'.1 h'.2⟩) (h w' hw')
  | .two k1 r1 k2 r2, listed, a, w, hB, hD, h => by
    simp only [Region.mixTB, Bool.and_eq_true, decide_eq_true_eq] at hB
    obtain ⟨⟨hr, hlen⟩, hB1, hB2⟩ := hB
    unfold wpMixT at h
    refine ⟨fun h0 => (by rw [hr] at h0; cases h0), fun i hi w' hw' => ?_⟩
    rw [hr] at hi
    rcases (show i = k1 ∨ i = k2 by simpa using hi) with rfl | rfl
    · exact wpE_mono (fun a' w'' h' => ⟨h'.1, wpAnyD_mixT hcl hsel r1 _ a' w'' hB1 h'.1 h'.2⟩) (h.1 w' hw')
    · refine wpE_mono (fun a' w'' h' => ⟨h'.1, ?_⟩) (h.2 w' hw')
      have := wpAnyD_mixT hcl hsel r2 _ a' w'' hB2 h'.1 h'.2
      rw [← hlen] at this
      exact this
theorem wp_region_mixTj {id : Nat} {Q : Exit → Act → World → Prop} {a : Act} {w : World} {l : List Oper} (W0 : World) (π : MixT) (hm : P.follows .mixedOrders = true)
    (hB : (Region.noSelect l.toArray && decide (π.len = l.length) && Region.mixTB .any l.toArray π (Array.replicate l.length false)) = true) (hj : Junk W0 w)
    (h : wpMixT P l.toArray (fun w' => ∃ x : Jk, w' = W0.junk x.os x.d) (fun a' w' => Q .normal a' w') π a w.drew) : (Code.region id l.toArray true).wp P Q a w := by
  simp only [Bool.and_eq_true, decide_eq_true_eq] at hB
  refine wp_region_any hm (wpAny_of_D (D := fun w' => ∃ x : Jk, w' = W0.junk x.os x.d) (Q := fun a' w' => Q .normal a' w') (fun _ _ h => h) _ _ _ _ ?_)
  have := wpAnyD_mixT (P := P) (md := .any) (D := fun w' => ∃ x : Jk, w' = W0.junk x.os x.d) (fun _ _ h1 h2 => InJunk.on (w := W0) h1 h2) hB.1.1 π _ a w.drew hB.2 hj.drew.pair h
  rw [hB.1.2] at this
  simpa using this
end
end Go
