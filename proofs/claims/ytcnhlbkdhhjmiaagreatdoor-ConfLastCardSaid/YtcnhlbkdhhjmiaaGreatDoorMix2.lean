/- As Mix, for a region whose last operation waits for all others: behind it the class of worlds need not stand. -/
import Derived.Test.YtcnhlbkdhhjmiaaGreatDoorMix
set_option linter.unusedVariables false
set_option maxRecDepth 100000
namespace Go
section
variable {P : Program} {ops : Array Oper} {md : Region.Mode} {D : World → Prop} {last : Nat}
def wpAnyL (P : Program) (md : Region.Mode) (ops : Array Oper) (D : World → Prop) (last : Nat) (Q : Act → World → Prop) : Nat → Array Bool → Act → World → Prop
  | 0, listed, a, w => Region.ready md ops listed = [] ∧ ∀ w', Junk w w' → Q a w'
  | f + 1, listed, a, w => (Region.ready md ops listed = [] → ∀ w', Junk w w' → Q a w') ∧
    ∀ i ∈ Region.ready md ops listed, ∀ w', Junk w w' → wpE P ops i (fun a' w'' => (i = last ∨ D w'') ∧ wpAnyL P md ops D last Q f (listed.setIfInBounds i true) a' w'') a w'
theorem wpAnyL_junk {Q : Act → World → Prop} : ∀ {f : Nat} {listed : Array Bool} {a : Act} {w w' : World}, Junk w w' → wpAnyL P md ops D last Q f listed a w → wpAnyL P md ops D last Q f listed a w'
  | 0, _, _, _, _, hj, h => ⟨h.1, fun _ h' => h.2 _ (hj.trans h')⟩
  | _ + 1, _, _, _, _, hj, h => ⟨fun h0 _ h' => h.1 h0 _ (hj.trans h'), fun i hi _ h' => h.2 i hi _ (hj.trans h')⟩
theorem wpAny_of_L {Q : Act → World → Prop} {Q' : Exit → Act → World → Prop} (hQ : ∀ a w, Q a w → Q' .normal a w) : ∀ (f : Nat) (listed : Array Bool) (a : Act) (w : World), wpAnyL P md ops D last Q f listed a w → wpAny P md ops Q' f listed a w
  | 0, _, _, _, h => ⟨h.1, hQ _ _ (h.2 _ (Junk.refl _))⟩
  | f + 1, _, _, _, h => ⟨fun h0 => hQ _ _ (h.1 h0 _ (Junk.refl _)), fun i hi => wpOp_mono (fun a' w' h' => wpAny_of_L hQ f _ a' w' h'.2) (wpOp_of_wpE (h.2 i hi _ (Junk.refl _)))⟩
/-- What an operation waits for is listed ahead of it. -/
def Region.Closed (md : Region.Mode) (ops : Array Oper) (listed : Array Bool) : Prop :=
  ∀ j oj, ops[j]? = some oj → listed.getD j false = true → ∀ e ∈ oj.after, Region.binds md e = true → listed.getD e.on false = true
theorem getD_set_keep {listed : Array Bool} {i j : Nat} (h : listed.getD j false = true) : (listed.setIfInBounds i true).getD j false = true := by
  by_cases hij : i = j
  · subst hij
    have hlt : i < listed.size := by
      rcases Nat.lt_or_ge i listed.size with h' | h'
      · exact h'
      · simp [Array.getElem?_eq_none h'] at h
    simp [hlt]
  · rwa [getD_set_ne false hij]
theorem Region.Closed.set {listed : Array Bool} {i : Nat} (h : Region.Closed md ops listed) (hr : i ∈ Region.ready md ops listed) : Region.Closed md ops (listed.setIfInBounds i true) := by
  intro j oj hj hl e he hb
  by_cases hij : i = j
  · subst hij
    obtain ⟨_, o, ho, hall⟩ := mem_ready.1 hr
    rw [hj] at ho
    cases ho
    exact getD_set_keep (hall e he hb)
  · rw [getD_set_ne false hij] at hl
    exact getD_set_keep (h j oj hj hl e he hb)
theorem Region.Closed.none (n : Nat) : Region.Closed md ops (Array.replicate n false) := by
  intro j oj hj hl
  exfalso
  by_cases h : j < n <;> simp [h] at hl
/-- The last operation waits for all others, or for what waits for them. -/
def Region.lastB (md : Region.Mode) (ops : Array Oper) (last : Nat) : Bool :=
  match ops[last]? with
  | none => false
  | some o => (List.range ops.size).all fun i => i == last || (o.after.any fun e => Region.binds md e && e.on == i) ||
      o.after.any fun e => Region.binds md e && match ops[e.on]? with | none => false | some m => m.after.any fun f => Region.binds md f && f.on == i
theorem Region.lastB_spec (h : Region.lastB md ops last = true) {listed : Array Bool} {i : Nat} (hc : Region.Closed md ops listed) (hr : last ∈ Region.ready md ops listed) (hi : i ≠ last) (his : i < ops.size) : listed.getD i false = true := by
  unfold Region.lastB at h
  obtain ⟨_, o, ho, hall⟩ := mem_ready.1 hr
  simp only [ho, List.all_eq_true, List.mem_range, Bool.or_eq_true, beq_iff_eq, Array.any_eq_true', Bool.and_eq_true] at h
  rcases h i his with (h1 | ⟨e, he, hb, he2⟩) | ⟨e, he, hb, he2⟩
  · exact absurd h1 hi
  · rw [← he2]; exact hall e he hb
  · cases hm : ops[e.on]? with
    | none => simp [hm] at he2
    | some m =>
      simp only [hm, Array.any_eq_true', Bool.and_eq_true, beq_iff_eq] at he2
      obtain ⟨f, hf, hfb, hf2⟩ := he2
      rw [← hf2]
      exact hc _ m hm (hall e he hb) f hf hfb
theorem wpAnyL_first (hcl : ∀ w w', D w → Junk w w' → D w') {Q : Act → World → Prop} {i : Nat} {oi : Oper} {v : Value} (hi : ops[i]? = some oi) (hsel : ∀ (j : Nat) (o : Oper) cs b, ops[j]? = some o → o.op ≠ .select cs b) (hlast : Region.lastB md ops last = true) (hil : i ≠ last) :
    ∀ (f : Nat) (listed : Array Bool) (a : Act) (w : World),
      (∀ j oj, ops[j]? = some oj → j ≠ i → listed.getD j true = false → (∀ e ∈ oj.after, Region.binds md e = true → e.on ≠ i) → oi.apart ops oj = true) →
      i ∈ Region.ready md ops listed → Region.Closed md ops listed → YieldsJ P ops D oi v a → D w →
      wpAnyL P md ops D last Q f (listed.setIfInBounds i true) (a.put oi.dst v) w → wpAnyL P md ops D last Q (f + 1) listed a w := by
  intro f
  induction f with
  | zero =>
    intro listed a w _ hr hcs hy hD H
    refine ⟨fun h => (by rw [h] at hr; cases hr), fun j hj w' hw' => ?_⟩
    by_cases hji : j = i
    · subst hji; exact hy.wpE hi (hcl _ _ hD hw') fun w'' hw'' => ⟨.inr (hcl _ _ (hcl _ _ hD hw') hw''), wpAnyL_junk (hw'.trans hw'') H⟩
    · have := ready_mono hj hji
      rw [H.1] at this
      cases this
  | succ f ih =>
    intro listed a w hfree hr hcs hy hD H
    refine ⟨fun h => (by rw [h] at hr; cases hr), fun j hj w' hw' => ?_⟩
    by_cases hji : j = i
    · subst hji; exact hy.wpE hi (hcl _ _ hD hw') fun w'' hw'' => ⟨.inr (hcl _ _ (hcl _ _ hD hw') hw''), wpAnyL_junk (hw'.trans hw'') H⟩
    · have hjl : j ≠ last := fun h => by
        subst h
        have h0 := (mem_ready.1 hr).1
        have h1 := Region.lastB_spec hlast hcs hj hil (Array.getElem?_eq_some_iff.1 hi).1
        rcases Nat.lt_or_ge i listed.size with h' | h'
        · simp [h'] at h0 h1; rw [h0] at h1; cases h1
        · simp [Array.getElem?_eq_none h'] at h1
      have h1 := H.2 j (ready_mono hj hji) w' hw'
      obtain ⟨hjun, oj, hoj, hall⟩ := mem_ready.1 hj
      have hnot : ∀ e ∈ oj.after, Region.binds md e = true → e.on ≠ i := fun e he hb heq => by
        have h1 := hall e he hb
        have h0 := (mem_ready.1 hr).1
        rw [heq] at h1
        rcases Nat.lt_or_ge i listed.size with h' | h'
        · simp [h'] at h0 h1; rw [h0] at h1; cases h1
        · simp [Array.getElem?_eq_none h'] at h1
      have h2 := wpE_put hoj (hfree j oj hoj hji hjun hnot) (fun cs b => hsel i oi cs b hi) (fun cs b => hsel j oj cs b hoj) hy h1
      have hfree' : ∀ k ok, ops[k]? = some ok → k ≠ i → (listed.setIfInBounds j true).getD k true = false →
          (∀ e ∈ ok.after, Region.binds md e = true → e.on ≠ i) → oi.apart ops ok = true := fun k ok hk hki hun hno => by
        refine hfree k ok hk hki ?_ hno
        by_cases hjk : j = k
        · subst hjk; exact hjun
        · rw [getD_set_ne true hjk] at hun; exact hun
      refine wpE_mono (fun a' w'' h3 => ⟨h3.2.1, ih (listed.setIfInBounds j true) a' w'' hfree' (ready_mono hr (Ne.symm hji)) (hcs.set hj) h3.1 (h3.2.1.resolve_left hjl) ?_⟩) h2
      rw [Array.setIfInBounds_comm _ _ hji]
      exact h3.2.2
def wpMixL (P : Program) (ops : Array Oper) (D : World → Prop) (last : Nat) (Q : Act → World → Prop) : List (Nat × Bool) → Act → World → Prop
  | [], a, w => ∀ w', Junk w w' → Q a w'
  | (k, true) :: r, a, w => match ops[k]? with
    | none => False
    | some o => if Region.wanted o (yielded ops a.tmps) then ∃ v, (∀ w, D w → o.quietAt P a (Junk w) w v) ∧ wpMixL P ops D last Q r (a.put o.dst v) w else wpMixL P ops D last Q r (a.put o.dst undef) w
  | (k, false) :: r, a, w => ∀ w', Junk w w' → wpE P ops k (fun a' w'' => (k = last ∨ D w'') ∧ wpMixL P ops D last Q r a' w'') a w'
theorem wpMixL_q {Q : Act → World → Prop} {k : Nat} {r : List (Nat × Bool)} {o : Oper} {a : Act} {w : World} (ho : ops[k]? = some o)
    (h : ∀ K : Act → Prop, (∀ a, wpMixL P ops D last Q r a w → K a) → if Region.wanted o (yielded ops a.tmps) then ∃ v, (∀ w, D w → o.quietAt P a (Junk w) w v) ∧ K (a.put o.dst v) else K (a.put o.dst undef)) :
    wpMixL P ops D last Q ((k, true) :: r) a w := by
  unfold wpMixL
  simp only [ho]
  exact h _ (fun _ h => h)
theorem wpMixL_e {Q : Act → World → Prop} {k : Nat} {r : List (Nat × Bool)} {o : Oper} {a : Act} {w : World} (ho : ops[k]? = some o)
    (h : ∀ os d, ∀ K : Act → World → Prop, (∀ a w', D w' → wpMixL P ops D last Q r a w' → K a w') → if Region.wanted o (yielded ops a.tmps) then o.wp P a (w.junk os d) K NoExit else K (a.put o.dst undef) (w.junk os d)) :
    wpMixL P ops D last Q ((k, false) :: r) a w := by
  unfold wpMixL
  rintro w' ⟨os, d, rfl⟩
  unfold wpE
  simp only [ho]
  exact h os d _ (fun _ _ hd h => ⟨.inr hd, h⟩)
theorem wpMixL_last {Q : Act → World → Prop} {o : Oper} {r : List (Nat × Bool)} {a : Act} {w : World} (ho : ops[last]? = some o)
    (h : ∀ os d, ∀ K : Act → World → Prop, (∀ a w', wpMixL P ops D last Q r a w' → K a w') → if Region.wanted o (yielded ops a.tmps) then o.wp P a (w.junk os d) K NoExit else K (a.put o.dst undef) (w.junk os d)) :
    wpMixL P ops D last Q ((last, false) :: r) a w := by
  unfold wpMixL
  rintro w' ⟨os, d, rfl⟩
  unfold wpE
  simp only [ho]
  exact h os d _ (fun _ _ h => ⟨by simp, h⟩)
theorem wpMixL_nil {Q : Act → World → Prop} {a : Act} {w : World} (h : ∀ os d, Q a (w.junk os d)) : wpMixL P ops D last Q [] a w := by
  rintro w' ⟨os, d, rfl⟩
  exact h os d
theorem wpMixL_e1 {Q : Act → World → Prop} {k : Nat} {r : List (Nat × Bool)} {o : Oper} {a : Act} {w : World} (ho : ops[k]? = some o) (hg : o.guard = none)
    (h : ∀ os d, ∀ K : Act → World → Prop, (∀ a w', D w' → wpMixL P ops D last Q r a w' → K a w') → o.wp P a (w.junk os d) K NoExit) :
    wpMixL P ops D last Q ((k, false) :: r) a w :=
  wpMixL_e ho fun os d K hK => by
    have hw : Region.wanted o (yielded ops a.tmps) = true := by simp [Region.wanted, hg]
    rw [if_pos hw]
    exact h os d K hK
/-- An order in which the last one comes last, if at all as an effect. -/
def Region.endsB (last : Nat) : List (Nat × Bool) → Bool
  | [] => true
  | [(k, q)] => !q || k != last
  | (k, _) :: r => k != last && Region.endsB last r
theorem wpAnyL_mix (hcl : ∀ w w', D w → Junk w w' → D w') {Q : Act → World → Prop} (hsel : Region.noSelect ops = true) (hlast : Region.lastB md ops last = true) : ∀ (π : List (Nat × Bool)) (listed : Array Bool) (a : Act) (w : World),
    Region.mixB md ops π listed = true → Region.endsB last π = true → Region.Closed md ops listed → (π = [] ∨ D w) → wpMixL P ops D last Q π a w → wpAnyL P md ops D last Q π.length listed a w
  | [], _, _, _, hB, _, _, _, h => ⟨by simpa [Region.mixB] using hB, h⟩
  | (k, true) :: r, listed, a, w, hB, hE, hcs, hD, h => by
    have hD := hD.resolve_left (by simp)
    simp only [Region.mixB, if_true, Bool.and_eq_true] at hB
    obtain ⟨⟨hr, hf⟩, hB'⟩ := hB
    have hkl : k ≠ last ∧ Region.endsB last r = true := by
      cases r with
      | nil => simpa [Region.endsB] using hE
      | cons x r => simpa [Region.endsB] using hE
    unfold wpMixL at h
    split at h
    · exact h.elim
    · rename_i o ho
      have hk : ∃ v, YieldsJ P ops D o v a ∧ wpMixL P ops D last Q r (a.put o.dst v) w := by
        split at h
        · rename_i hw; obtain ⟨v, h1, h2⟩ := h; exact ⟨v, .inl ⟨hw, h1⟩, h2⟩
        · rename_i hw; exact ⟨undef, .inr ⟨by simpa using hw, rfl⟩, h⟩
      obtain ⟨v, hy, h2⟩ := hk
      exact wpAnyL_first hcl ho (Region.noSelect_spec hsel) hlast hkl.1 r.length listed a w (Region.free_spec ho hf) (by simpa using hr) hcs hy hD (wpAnyL_mix hcl hsel hlast r _ _ w hB' hkl.2 (hcs.set (by simpa using hr)) (.inr hD) h2)
  | (k, false) :: r, listed, a, w, hB, hE, hcs, hD, h => by
    simp only [Region.mixB, Bool.false_eq_true, if_false, Bool.and_eq_true, decide_eq_true_eq] at hB
    obtain ⟨hr, hB'⟩ := hB
    have hE' : Region.endsB last r = true ∧ (r = [] ∨ k ≠ last) := by
      cases r with
      | nil => simp [Region.endsB]
      | cons x r => simp only [Region.endsB, Bool.and_eq_true, bne_iff_ne] at hE; exact ⟨hE.2, .inr hE.1⟩
    unfold wpMixL at h
    refine ⟨fun h0 => (by rw [hr] at h0; cases h0), fun i hi w' hw' => ?_⟩
    rw [hr] at hi
    obtain rfl : i = k := by simpa using hi
    exact wpE_mono (fun a' w'' h' => ⟨h'.1, wpAnyL_mix hcl hsel hlast r _ a' w'' hB' hE'.1 (hcs.set (by rw [hr]; simp)) (hE'.2.elim .inl fun hne => .inr (h'.1.resolve_left hne)) h'.2⟩) (h w' hw')
theorem wp_region_mixl {id : Nat} {Q : Exit → Act → World → Prop} {a : Act} {w1 : World} {l : List Oper} (w : World) (last : Nat) (π : List (Nat × Bool)) (hm : P.follows .mixedOrders = true)
    (hB : (Region.noSelect l.toArray && decide (π.length = l.length) && Region.mixB .any l.toArray π (Array.replicate l.length false) && Region.lastB .any l.toArray last && Region.endsB last π) = true) (hj : Junk w w1)
    (h : wpMixL P l.toArray (fun w' => ∃ x : Jk, w' = w.junk x.os x.d) last (fun a' w' => Q .normal a' w') π a w1.drew) : (Code.region id l.toArray true).wp P Q a w1 := by
  simp only [Bool.and_eq_true, decide_eq_true_eq] at hB
  refine wp_region_any hm (wpAny_of_L (D := fun w' => ∃ x : Jk, w' = w.junk x.os x.d) (last := last) (Q := fun a' w' => Q .normal a' w') (fun _ _ h => h) _ _ _ _ ?_)
  have := wpAnyL_mix (P := P) (md := .any) (D := fun w' => ∃ x : Jk, w' = w.junk x.os x.d) (last := last) (fun _ _ h1 h2 => InJunk.on (w := w) h1 h2) hB.1.1.1.1 hB.1.2 π _ a w1.drew hB.1.1.2 hB.2 (Region.Closed.none _) (.inr hj.drew.pair) h
  rw [hB.1.1.1.2] at this
  simpa using this
end
end Go
