/- As Mix4, for a region that ends in several operations of one forced order ('late'): behind the first of them the class of worlds need not stand. -/
import Derived.Test.YtfkhnhenemgcmaaDoorMix4
set_option linter.unusedVariables false
set_option maxRecDepth 100000
namespace Go
section
variable {P : Program} {ops : Array Oper} {md : Region.Mode} {D : World → Prop} {late : List Nat}
def Region.lateT (md : Region.Mode) (ops : Array Oper) (late : List Nat) : Bool := late.all fun t => (List.range ops.size).all fun i => late.contains i || Region.downB md ops ops.size i t
theorem Region.lateT_spec (h : Region.lateT md ops late = true) {t : Nat} (ht : t ∈ late) {listed : Array Bool} {i : Nat} (hc : Region.Closed md ops listed) (hr : t ∈ Region.ready md ops listed) (hi : i ∉ late) (his : i < ops.size) : listed.getD i false = true := by
  unfold Region.lateT at h
  obtain ⟨_, o, ho, hall⟩ := mem_ready.1 hr
  simp only [List.all_eq_true, List.mem_range, Bool.or_eq_true, List.contains_eq_mem, decide_eq_true_eq] at h
  rcases h t ht i his with h1 | h1
  · exact absurd h1 hi
  · refine Region.downB_listed hc _ t (fun o' ho' e he hb => ?_) h1
    rw [ho] at ho'
    cases ho'
    exact hall e he hb
/-- An order in which nothing quiet comes behind a late operation. -/
def Region.endsM (late : List Nat) : List (Nat × Bool) → Bool
  | [] => true
  | (k, q) :: r => (if q then !late.contains k else (!late.contains k || r.all (fun x => !x.2))) && Region.endsM late r
def wpAnyM (P : Program) (md : Region.Mode) (ops : Array Oper) (D : World → Prop) (late : List Nat) (Q : Act → World → Prop) : Nat → Array Bool → Act → World → Prop
  | 0, listed, a, w => Region.ready md ops listed = [] ∧ ∀ w', Junk w w' → Q a w'
  | f + 1, listed, a, w => (Region.ready md ops listed = [] → ∀ w', Junk w w' → Q a w') ∧
    ∀ i ∈ Region.ready md ops listed, ∀ w', Junk w w' → wpE P ops i (fun a' w'' => (i ∈ late ∨ D w'') ∧ wpAnyM P md ops D late Q f (listed.setIfInBounds i true) a' w'') a w'
theorem wpAnyM_junk {Q : Act → World → Prop} : ∀ {f : Nat} {listed : Array Bool} {a : Act} {w w' : World}, Junk w w' → wpAnyM P md ops D late Q f listed a w → wpAnyM P md ops D late Q f listed a w'
  | 0, _, _, _, _, hj, h => ⟨h.1, fun _ h' => h.2 _ (hj.trans h')⟩
  | _ + 1, _, _, _, _, hj, h => ⟨fun h0 _ h' => h.1 h0 _ (hj.trans h'), fun i hi _ h' => h.2 i hi _ (hj.trans h')⟩
theorem wpAny_of_M {Q : Act → World → Prop} {Q' : Exit → Act → World → Prop} (hQ : ∀ a w, Q a w → Q' .normal a w) : ∀ (f : Nat) (listed : Array Bool) (a : Act) (w : World), wpAnyM P md ops D late Q f listed a w → wpAny P md ops Q' f listed a w
  | 0, _, _, _, h => ⟨h.1, hQ _ _ (h.2 _ (Junk.refl _))⟩
  | f + 1, _, _, _, h => ⟨fun h0 => hQ _ _ (h.1 h0 _ (Junk.refl _)), fun i hi => wpOp_mono (fun a' w' h' => wpAny_of_M hQ f _ a' w' h'.2) (wpOp_of_wpE (h.2 i hi _ (Junk.refl _)))⟩
theorem wpAnyM_first (hcl : ∀ w w', D w → Junk w w' → D w') {Q : Act → World → Prop} {i : Nat} {oi : Oper} {v : Value} (hi : ops[i]? = some oi) (hsel : ∀ (j : Nat) (o : Oper) cs b, ops[j]? = some o → o.op ≠ .select cs b) (hlast : Region.lateT md ops late = true) (hil : i ∉ late) :
    ∀ (f : Nat) (listed : Array Bool) (a : Act) (w : World),
      (∀ j oj, ops[j]? = some oj → j ≠ i → listed.getD j true = false → (∀ e ∈ oj.after, Region.binds md e = true → e.on ≠ i) → oi.apart ops oj = true) →
      i ∈ Region.ready md ops listed → Region.Closed md ops listed → YieldsJ P ops D oi v a → D w →
      wpAnyM P md ops D late Q f (listed.setIfInBounds i true) (a.put oi.dst v) w → wpAnyM P md ops D late Q (f + 1) listed a w := by
  intro f
  induction f with
  | zero =>
    intro listed a w _ hr hcs hy hD H
    refine ⟨fun h => (by rw [h] at hr; cases hr), fun j hj w' hw' => ?_⟩
    by_cases hji : j = i
    · subst hji; exact hy.wpE hi (hcl _ _ hD hw') fun w'' hw'' => ⟨.inr (hcl _ _ (hcl _ _ hD hw') hw''), wpAnyM_junk (hw'.trans hw'') H⟩
    · have := ready_mono hj hji
      rw [H.1] at this
      cases this
  | succ f ih =>
    intro listed a w hfree hr hcs hy hD H
    refine ⟨fun h => (by rw [h] at hr; cases hr), fun j hj w' hw' => ?_⟩
    by_cases hji : j = i
    · subst hji; exact hy.wpE hi (hcl _ _ hD hw') fun w'' hw'' => ⟨.inr (hcl _ _ (hcl _ _ hD hw') hw''), wpAnyM_junk (hw'.trans hw'') H⟩
    · have hjl : j ∉ late := fun h => by
        have h0 := (mem_ready.1 hr).1
        have h1 := Region.lateT_spec hlast h hcs hj hil (Array.getElem?_eq_some_iff.1 hi).1
        rcases Nat.lt_or_ge i listed.size with h' | h'
        · simp [h'] at h0 h1; rw [h0] at h1; cases h1
        · simp [Array.getElem?_eq_none h'] at h1
      have h1 := H.2 j (ready_mono hj hji) w' hw'
      obtain ⟨hjun, oj, hoj, hall⟩ := mem_ready.1 hj
      have hnot : ∀ e ∈ oj.after, Region.binds md e = true → e.on ≠ i := fun e he hb heq => by
        have h1 := hall e he hb
        have h0 := (mem_ready.1 hr).1
        rw [heq] at h1
        rcases Nat.lt_or_ge i listed.size with h' | h'
        · simp [h'] at h0 h1; rw [h0] at h1; cases h1
        · simp [Array.getElem?_eq_none h'] at h1
      have h2 := wpE_put hoj (hfree j oj hoj hji hjun hnot) (fun cs b => hsel i oi cs b hi) (fun cs b => hsel j oj cs b hoj) hy h1
      have hfree' : ∀ k ok, ops[k]? = some ok → k ≠ i → (listed.setIfInBounds j true).getD k true = false →
          (∀ e ∈ ok.after, Region.binds md e = true → e.on ≠ i) → oi.apart ops ok = true := fun k ok hk hki hun hno => by
        refine hfree k ok hk hki ?_ hno
        by_cases hjk : j = k
        · subst hjk; exact hjun
        · rw [getD_set_ne true hjk] at hun; exact hun
      refine wpE_mono (fun a' w'' h3 => ⟨h3.2.1, ih (listed.setIfInBounds j true) a' w'' hfree' (ready_mono hr (Ne.symm hji)) (hcs.set hj) h3.1 (h3.2.1.resolve_left hjl) ?_⟩) h2
      rw [Array.setIfInBounds_comm _ _ hji]
      exact h3.2.2
def wpMixM (P : Program) (ops : Array Oper) (D : World → Prop) (late : List Nat) (Q : Act → World → Prop) : List (Nat × Bool) → Act → World → Prop
  | [], a, w => ∀ w', Junk w w' → Q a w'
  | (k, true) :: r, a, w => match ops[k]? with
    | none => False
    | some o => if Region.wanted o (yielded ops a.tmps) then ∃ v, (∀ w, D w → o.quietAt P a (Junk w) w v) ∧ wpMixM P ops D late Q r (a.put o.dst v) w else wpMixM P ops D late Q r (a.put o.dst undef) w
  | (k, false) :: r, a, w => ∀ w', Junk w w' → wpE P ops k (fun a' w'' => (k ∈ late ∨ D w'') ∧ wpMixM P ops D late Q r a' w'') a w'
theorem wpMixM_q {Q : Act → World → Prop} {k : Nat} {r : List (Nat × Bool)} {o : Oper} {a : Act} {w : World} (ho : ops[k]? = some o)
    (h : ∀ K : Act → Prop, (∀ a, wpMixM P ops D late Q r a w → K a) → if Region.wanted o (yielded ops a.tmps) then ∃ v, (∀ w, D w → o.quietAt P a (Junk w) w v) ∧ K (a.put o.dst v) else K (a.put o.dst undef)) :
    wpMixM P ops D late Q ((k, true) :: r) a w := by
  unfold wpMixM
  simp only [ho]
  exact h _ (fun _ h => h)
theorem wpMixM_e {Q : Act → World → Prop} {k : Nat} {r : List (Nat × Bool)} {o : Oper} {a : Act} {w : World} (ho : ops[k]? = some o)
    (h : ∀ os d, ∀ K : Act → World → Prop, (∀ a w', D w' → wpMixM P ops D late Q r a w' → K a w') → if Region.wanted o (yielded ops a.tmps) then o.wp P a (w.junk os d) K NoExit else K (a.put o.dst undef) (w.junk os d)) :
    wpMixM P ops D late Q ((k, false) :: r) a w := by
  unfold wpMixM
  rintro w' ⟨os, d, rfl⟩
  unfold wpE
  simp only [ho]
  exact h os d _ (fun _ _ hd h => ⟨.inr hd, h⟩)
theorem wpMixM_late {Q : Act → World → Prop} {k : Nat} {o : Oper} {r : List (Nat × Bool)} {a : Act} {w : World} (hk : late.contains k = true) (ho : ops[k]? = some o)
    (h : ∀ os d, ∀ K : Act → World → Prop, (∀ a w', wpMixM P ops D late Q r a w' → K a w') → if Region.wanted o (yielded ops a.tmps) then o.wp P a (w.junk os d) K NoExit else K (a.put o.dst undef) (w.junk os d)) :
    wpMixM P ops D late Q ((k, false) :: r) a w := by
  unfold wpMixM
  rintro w' ⟨os, d, rfl⟩
  unfold wpE
  simp only [ho]
  exact h os d _ (fun _ _ h => ⟨.inl (by simpa using hk), h⟩)
theorem wpMixM_nil {Q : Act → World → Prop} {a : Act} {w : World} (h : ∀ os d, Q a (w.junk os d)) : wpMixM P ops D late Q [] a w := by
  rintro w' ⟨os, d, rfl⟩
  exact h os d
theorem wpMixM_e1 {Q : Act → World → Prop} {k : Nat} {r : List (Nat × Bool)} {o : Oper} {a : Act} {w : World} (ho : ops[k]? = some o) (hg : o.guard = none)
    (h : ∀ os d, ∀ K : Act → World → Prop, (∀ a w', D w' → wpMixM P ops D late Q r a w' → K a w') → o.wp P a (w.junk os d) K NoExit) :
    wpMixM P ops D late Q ((k, false) :: r) a w :=
  wpMixM_e ho fun os d K hK => by
    have hw : Region.wanted o (yielded ops a.tmps) = true := by simp [Region.wanted, hg]
    rw [if_pos hw]
    exact h os d K hK
/-- An order in which the last one comes last, if at all as an effect. -/
theorem wpAnyM_mix (hcl : ∀ w w', D w → Junk w w' → D w') {Q : Act → World → Prop} (hsel : Region.noSelect ops = true) (hlast : Region.lateT md ops late = true) : ∀ (π : List (Nat × Bool)) (listed : Array Bool) (a : Act) (w : World),
    Region.mixB md ops π listed = true → Region.endsM late π = true → Region.Closed md ops listed → (π.all (fun x => !x.2) = true ∨ D w) → wpMixM P ops D late Q π a w → wpAnyM P md ops D late Q π.length listed a w
  | [], _, _, _, hB, _, _, _, h => ⟨by simpa [Region.mixB] using hB, h⟩
  | (k, true) :: r, listed, a, w, hB, hE, hcs, hD, h => by
    have hD := hD.resolve_left (by simp)
    simp only [Region.mixB, if_true, Bool.and_eq_true] at hB
    obtain ⟨⟨hr, hf⟩, hB'⟩ := hB
    have hkl : k ∉ late ∧ Region.endsM late r = true := by
      simp only [Region.endsM, if_true, Bool.and_eq_true, Bool.not_eq_true', List.contains_eq_mem, decide_eq_false_iff_not] at hE
      exact hE
    unfold wpMixM at h
    split at h
    · exact h.elim
    · rename_i o ho
      have hk : ∃ v, YieldsJ P ops D o v a ∧ wpMixM P ops D late Q r (a.put o.dst v) w := by
        split at h
        · rename_i hw; obtain ⟨v, h1, h2⟩ := h; exact ⟨v, .inl ⟨hw, h1⟩, h2⟩
        · rename_i hw; exact ⟨undef, .inr ⟨by simpa using hw, rfl⟩, h⟩
      obtain ⟨v, hy, h2⟩ := hk
      exact wpAnyM_first hcl ho (Region.noSelect_spec hsel) hlast hkl.1 r.length listed a w (Region.free_spec ho hf) (by simpa using hr) hcs hy hD (wpAnyM_mix hcl hsel hlast r _ _ w hB' hkl.2 (hcs.set (by simpa using hr)) (.inr hD) h2)
  | (k, false) :: r, listed, a, w, hB, hE, hcs, hD, h => by
    simp only [Region.mixB, Bool.false_eq_true, if_false, Bool.and_eq_true, decide_eq_true_eq] at hB
    obtain ⟨hr, hB'⟩ := hB
    have hE' : Region.endsM late r = true ∧ (r.all (fun x => !x.2) = true ∨ k ∉ late) := by
      simp only [Region.endsM, Bool.false_eq_true, if_false, Bool.and_eq_true, Bool.or_eq_true, Bool.not_eq_true', List.contains_eq_mem, decide_eq_false_iff_not] at hE
      exact ⟨hE.2, hE.1.symm⟩
    unfold wpMixM at h
    refine ⟨fun h0 => (by rw [hr] at h0; cases h0), fun i hi w' hw' => ?_⟩
    rw [hr] at hi
    obtain rfl : i = k := by simpa using hi
    exact wpE_mono (fun a' w'' h' => ⟨h'.1, wpAnyM_mix hcl hsel hlast r _ a' w'' hB' hE'.1 (hcs.set (by rw [hr]; simp)) (hE'.2.elim .inl fun hne => .inr (h'.1.resolve_left hne)) h'.2⟩) (h w' hw')
theorem wp_region_mixm {id : Nat} {Q : Exit → Act → World → Prop} {a : Act} {w1 : World} {l : List Oper} (w : World) (late : List Nat) (π : List (Nat × Bool)) (hm : P.follows .mixedOrders = true)
    (hB : (Region.noSelect l.toArray && decide (π.length = l.length) && Region.mixB .any l.toArray π (Array.replicate l.length false) && Region.lateT .any l.toArray late && Region.endsM late π) = true) (hj : Junk w w1)
    (h : wpMixM P l.toArray (fun w' => ∃ x : Jk, w' = w.junk x.os x.d) late (fun a' w' => Q .normal a' w') π a w1.drew) : (Code.region id l.toArray true).wp P Q a w1 := by
  simp only [Bool.and_eq_true, decide_eq_true_eq] at hB
  refine wp_region_any hm (wpAny_of_M (D := fun w' => ∃ x : Jk, w' = w.junk x.os x.d) (late := late) (Q := fun a' w' => Q .normal a' w') (fun _ _ h => h) _ _ _ _ ?_)
  have := wpAnyM_mix (P := P) (md := .any) (D := fun w' => ∃ x : Jk, w' = w.junk x.os x.d) (late := late) (fun _ _ h1 h2 => InJunk.on (w := w) h1 h2) hB.1.1.1.1 hB.1.2 π _ a w1.drew hB.1.1.2 hB.2 (Region.Closed.none _) (.inr hj.drew.pair) h
  rw [hB.1.1.1.2] at this
  simpa using this
end
end Go
