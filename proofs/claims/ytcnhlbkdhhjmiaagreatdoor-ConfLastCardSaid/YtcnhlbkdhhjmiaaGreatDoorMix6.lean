/- A region that draws its order, with forks where two effects are ready at once, whose last operation waits for all others and may leave the class of worlds. -/
import Derived.Test.YtcnhlbkdhhjmiaaGreatDoorMix3
import Derived.Test.YtcnhlbkdhhjmiaaGreatDoorMix4
set_option linter.unusedVariables false
set_option maxRecDepth 100000
namespace Go
inductive MixU where
  | nil
  | q (k : Nat) (r : MixU)
  | e (k : Nat) (r : MixU)
  | l (k : Nat)
  | two (k1 : Nat) (r1 : MixU) (k2 : Nat) (r2 : MixU)
def MixU.len : MixU → Nat
  | .nil => 0
  | .q _ r => r.len + 1
  | .e _ r => r.len + 1
  | .l _ => 1
  | .two _ r1 _ _ => r1.len + 1
section
variable {P : Program} {ops : Array Oper} {md : Region.Mode} {D : World → Prop} {last : Nat}
def Region.mixUB (md : Region.Mode) (ops : Array Oper) (last : Nat) : MixU → Array Bool → Bool
  | .nil, listed => (Region.ready md ops listed).isEmpty
  | .q k r, listed => ((Region.ready md ops listed).contains k && Region.free md ops listed k && (k != last)) && Region.mixUB md ops last r (listed.setIfInBounds k true)
  | .e k r, listed => decide (Region.ready md ops listed = [k]) && Region.mixUB md ops last r (listed.setIfInBounds k true)
  | .l k, listed => (decide (Region.ready md ops listed = [k]) && (k == last)) && (Region.ready md ops (listed.setIfInBounds k true)).isEmpty
  | .two k1 r1 k2 r2, listed => (decide (Region.ready md ops listed = [k1, k2]) && decide (r1.len = r2.len)) && (Region.mixUB md ops last r1 (listed.setIfInBounds k1 true) && Region.mixUB md ops last r2 (listed.setIfInBounds k2 true))
def wpMixU (P : Program) (ops : Array Oper) (D : World → Prop) (Q : Act → World → Prop) : MixU → Act → World → Prop
  | .nil, a, w => ∀ w', Junk w w' → Q a w'
  | .q k r, a, w => match ops[k]? with
    | none => False
    | some o => if Region.wanted o (yielded ops a.tmps) then ∃ v, (∀ w, D w → o.quietAt P a (Junk w) w v) ∧ wpMixU P ops D Q r (a.put o.dst v) w else wpMixU P ops D Q r (a.put o.dst undef) w
  | .e k r, a, w => ∀ w', Junk w w' → wpE P ops k (fun a' w'' => D w'' ∧ wpMixU P ops D Q r a' w'') a w'
  | .l k, a, w => ∀ w', Junk w w' → wpE P ops k (fun a' w'' => ∀ w3, Junk w'' w3 → Q a' w3) a w'
  | .two k1 r1 k2 r2, a, w => (∀ w', Junk w w' → wpE P ops k1 (fun a' w'' => D w'' ∧ wpMixU P ops D Q r1 a' w'') a w') ∧ (∀ w', Junk w w' → wpE P ops k2 (fun a' w'' => D w'' ∧ wpMixU P ops D Q r2 a' w'') a w')
theorem wpMixU_q {Q : Act → World → Prop} {k : Nat} {r : MixU} {o : Oper} {a : Act} {w : World} (ho : ops[k]? = some o)
    (h : ∀ K : Act → Prop, (∀ a, wpMixU P ops D Q r a w → K a) → if Region.wanted o (yielded ops a.tmps) then ∃ v, (∀ w, D w → o.quietAt P a (Junk w) w v) ∧ K (a.put o.dst v) else K (a.put o.dst undef)) :
    wpMixU P ops D Q (.q k r) a w := by
  unfold wpMixU
  simp only [ho]
  exact h _ (fun _ h => h)
theorem wpMixU_e {Q : Act → World → Prop} {k : Nat} {r : MixU} {o : Oper} {a : Act} {w : World} (ho : ops[k]? = some o)
    (h : ∀ os d, ∀ K : Act → World → Prop, (∀ a w', D w' → wpMixU P ops D Q r a w' → K a w') → if Region.wanted o (yielded ops a.tmps) then o.wp P a (w.junk os d) K NoExit else K (a.put o.dst undef) (w.junk os d)) :
    wpMixU P ops D Q (.e k r) a w := by
  unfold wpMixU
  exact wpE_of ho fun os d K hK => h os d K fun a w' h1 h2 => hK a w' ⟨h1, h2⟩
theorem wpMixU_l {Q : Act → World → Prop} {k : Nat} {o : Oper} {a : Act} {w : World} (ho : ops[k]? = some o)
    (h : ∀ os d, ∀ K : Act → World → Prop, (∀ a w', (∀ os d, Q a (w'.junk os d)) → K a w') → if Region.wanted o (yielded ops a.tmps) then o.wp P a (w.junk os d) K NoExit else K (a.put o.dst undef) (w.junk os d)) :
    wpMixU P ops D Q (.l k) a w := by
  unfold wpMixU
  exact wpE_of ho fun os d K hK => h os d K fun a w' h1 => hK a w' (fun w3 ⟨os, d, hw⟩ => hw ▸ h1 os d)
theorem wpMixU_two {Q : Act → World → Prop} {k1 k2 : Nat} {r1 r2 : MixU} {a : Act} {w : World} (h1 : wpMixU P ops D Q (.e k1 r1) a w) (h2 : wpMixU P ops D Q (.e k2 r2) a w) : wpMixU P ops D Q (.two k1 r1 k2 r2) a w := by
  unfold wpMixU at h1 h2 ⊢
  exact ⟨h1, h2⟩
theorem wpMixU_nil {Q : Act → World → Prop} {a : Act} {w : World} (h : ∀ os d, Q a (w.junk os d)) : wpMixU P ops D Q .nil a w := by
  unfold wpMixU
  rintro w' ⟨os, d, rfl⟩
  exact h os d
theorem wpAnyL_mixU (hcl : ∀ w w', D w → Junk w w' → D w') {Q : Act → World → Prop} (hsel : Region.noSelect ops = true) (hlast : Region.lastT md ops last = true) : ∀ (π : MixU) (listed : Array Bool) (a : Act) (w : World),
    Region.mixUB md ops last π listed = true → Region.Closed md ops listed → D w → wpMixU P ops D Q π a w → wpAnyL P md ops D last Q π.len listed a w
  | .nil, _, _, _, hB, _, _, h => ⟨by simpa [Region.mixUB] using hB, by unfold wpMixU at h; exact h⟩
  | .q k r, listed, a, w, hB, hcs, hD, h => by
    simp only [Region.mixUB, Bool.and_eq_true, bne_iff_ne] at hB
    obtain ⟨⟨⟨hr, hf⟩, hkl⟩, hB'⟩ := hB
    unfold wpMixU at h
    split at h
    · exact h.elim
    · rename_i o ho
      have hk : ∃ v, YieldsJ P ops D o v a ∧ wpMixU P ops D Q r (a.put o.dst v) w := by
        split at h
        · rename_i hw; obtain ⟨v, h1, h2⟩ := h; exact ⟨v, .inl ⟨hw, h1⟩, h2⟩
        · rename_i hw; exact ⟨undef, .inr ⟨by simpa using hw, rfl⟩, h⟩
      obtain ⟨v, hy, h2⟩ := hk
      exact wpAnyT_first hcl ho (Region.noSelect_spec hsel) hlast hkl r.len listed a w (Region.free_spec ho hf) (by simpa using hr) hcs hy hD (wpAnyL_mixU hcl hsel hlast r _ _ w hB' (hcs.set (by simpa using hr)) hD h2)
  | .e k r, listed, a, w, hB, hcs, hD, h => by
    simp only [Region.mixUB, Bool.and_eq_true, decide_eq_true_eq] at hB
    obtain ⟨hr, hB'⟩ := hB
    unfold wpMixU at h
    refine ⟨fun h0 => (by rw [hr] at h0; cases h0), fun i hi w' hw' => ?_⟩
    rw [hr] at hi
    obtain rfl : i = k := by simpa using hi
    exact wpE_mono (fun a' w'' h' => ⟨.inr h'.1, wpAnyL_mixU hcl hsel hlast r _ a' w'' hB' (hcs.set (by rw [hr]; simp)) h'.1 h'.2⟩) (h w' hw')
  | .l k, listed, a, w, hB, hcs, hD, h => by
    simp only [Region.mixUB, Bool.and_eq_true, decide_eq_true_eq, beq_iff_eq] at hB
    obtain ⟨⟨hr, hl⟩, hB'⟩ := hB
    unfold wpMixU at h
    refine ⟨fun h0 => (by rw [hr] at h0; cases h0), fun i hi w' hw' => ?_⟩
    rw [hr] at hi
    obtain rfl : i = k := by simpa using hi
    exact wpE_mono (fun a' w'' h' => ⟨.inl hl, ⟨by simpa using hB', h'⟩⟩) (h w' hw')
  | .two k1 r1 k2 r2, listed, a, w, hB, hcs, hD, h => by
    simp only [Region.mixUB, Bool.and_eq_true, decide_eq_true_eq] at hB
    obtain ⟨⟨hr, hlen⟩, hB1, hB2⟩ := hB
    unfold wpMixU at h
    refine ⟨fun h0 => (by rw [hr] at h0; cases h0), fun i hi w' hw' => ?_⟩
    rw [hr] at hi
    rcases (show i = k1 ∨ i = k2 by simpa using hi) with rfl | rfl
    · exact wpE_mono (fun a' w'' h' => ⟨.inr h'.1, wpAnyL_mixU hcl hsel hlast r1 _ a' w'' hB1 (hcs.set (by rw [hr]; simp)) h'.1 h'.2⟩) (h.1 w' hw')
    · refine wpE_mono (fun a' w'' h' => ⟨.inr h'.1, ?_⟩) (h.2 w' hw')
      have := wpAnyL_mixU hcl hsel hlast r2 _ a' w'' hB2 (hcs.set (by rw [hr]; simp)) h'.1 h'.2
      rw [← hlen] at this
      exact this
theorem wp_region_mixU {id : Nat} {Q : Exit → Act → World → Prop} {a : Act} {w : World} {l : List Oper} (W0 : World) (last : Nat) (π : MixU) (hm : P.follows .mixedOrders = true)
    (hB : (Region.noSelect l.toArray && decide (π.len = l.length) && Region.mixUB .any l.toArray last π (Array.replicate l.length false) && Region.lastT .any l.toArray last) = true) (hj : Junk W0 w)
    (h : wpMixU P l.toArray (fun w' => ∃ x : Jk, w' = W0.junk x.os x.d) (fun a' w' => Q .normal a' w') π a w.drew) : (Code.region id l.toArray true).wp P Q a w := by
  simp only [Bool.and_eq_true, decide_eq_true_eq] at hB
  refine wp_region_any hm (wpAny_of_L (D := fun w' => ∃ x : Jk, w' = W0.junk x.os x.d) (last := last) (Q := fun a' w' => Q .normal a' w') (fun _ _ h => h) _ _ _ _ ?_)
  have := wpAnyL_mixU (P := P) (md := .any) (D := fun w' => ∃ x : Jk, w' = W0.junk x.os x.d) (last := last) (fun _ _ h1 h2 => InJunk.on (w := W0) h1 h2) hB.1.1.1 hB.2 π _ a w.drew hB.1.2 (Region.Closed.none _) hj.drew.pair h
  rw [hB.1.1.2] at this
  simpa using this
end
end Go
