/- A region that draws its order, whose quiet operations (reads, and calls that lay new blocks at most and return one value) may stand beside operations that write: one walk, in an order of our choice, serves every order. -/
import Derived.Test.YtcnhlbkdhhjmiaaGreatDoorBase
namespace Go
section
variable {P : Program} {ops : Array Oper} {md : Region.Mode} {D : World → Prop}
/-- No way out of the region but its end. -/
def NoExit : Exit → Act → World → Prop := fun _ _ _ => False
theorem Oper.wp_of_noExit {o : Oper} {a : Act} {w : World} {K : Act → World → Prop} {Q : Exit → Act → World → Prop} (h : o.wp P a w K NoExit) : o.wp P a w K Q := by
  unfold Oper.wp at *
  generalize (execOp a.eval o).run P w = r at *
  cases r with
  | ok n w' =>
    cases n with
    | enter f args =>
      simp only [Oper.upon] at h ⊢
      refine h.mono fun e w'' he => ?_
      cases e with
      | returned v => exact he
      | panicked c => exact he.elim
      | outgrown => obtain ⟨_, _, h⟩ := he; exact h.elim
    | value v => exact h
    | skip => exact h
    | defer d => exact h
    | row r args => exact h
    | _ => exact h.elim
  | halt x w' => cases x <;> exact h.elim
theorem Oper.wp_monoN {o : Oper} {a : Act} {w : World} {K K' : Act → World → Prop} (hk : ∀ a w, K a w → K' a w) (h : o.wp P a w K NoExit) : o.wp P a w K' NoExit := by
  unfold Oper.wp at *
  generalize (execOp a.eval o).run P w = r at *
  cases r with
  | ok n w' =>
    cases n with
    | enter f args =>
      simp only [Oper.upon] at h ⊢
      refine h.mono fun e w'' he => ?_
      cases e with
      | returned v => exact hk _ _ he
      | panicked c => exact he.elim
      | outgrown => obtain ⟨_, _, h⟩ := he; exact h.elim
    | value v => exact hk _ _ h
    | skip => exact hk _ _ h
    | defer d => exact hk _ _ h
    | row r args => exact Rows.mono h fun _ _ h => hk _ _ h
    | _ => exact h.elim
  | halt x w' => cases x <;> exact h.elim
/-- Operation number 'i', in this state and world. -/
def wpE (P : Program) (ops : Array Oper) (i : Nat) (K : Act → World → Prop) (a : Act) (w : World) : Prop :=
  match ops[i]? with
  | none => K a w
  | some o => if Region.wanted o (yielded ops a.tmps) then o.wp P a w K NoExit else K (a.put o.dst undef) w
theorem wpE_mono {i : Nat} {a : Act} {w : World} {K K' : Act → World → Prop} (hk : ∀ a w, K a w → K' a w) (h : wpE P ops i K a w) : wpE P ops i K' a w := by
  unfold wpE at *
  split
  · exact hk _ _ (by simpa [*] using h)
  · rename_i o ho
    simp only [ho] at h
    split
    · rename_i hw; simp only [hw, if_true] at h; exact Oper.wp_monoN hk h
    · rename_i hw; simp only [hw] at h; exact hk _ _ h
theorem wpOp_of_wpE {i : Nat} {a : Act} {w : World} {K : Act → World → Prop} {Q : Exit → Act → World → Prop} (h : wpE P ops i K a w) : wpOp P ops Q i K a w := by
  unfold wpE at h
  unfold wpOp
  split
  · rename_i ho; simpa [ho] using h
  · rename_i o ho
    simp only [ho] at h
    split
    · rename_i hw; simp only [hw, if_true] at h; exact .inl (Oper.wp_of_noExit h)
    · rename_i hw; simp only [hw] at h; exact h
/-- Whatever order is picked from here on; beside it the world may grow. -/
def wpAnyD (P : Program) (md : Region.Mode) (ops : Array Oper) (D : World → Prop) (Q : Act → World → Prop) : Nat → Array Bool → Act → World → Prop
  | 0, listed, a, w => Region.ready md ops listed = [] ∧ ∀ w', Junk w w' → Q a w'
  | f + 1, listed, a, w => (Region.ready md ops listed = [] → ∀ w', Junk w w' → Q a w') ∧
    ∀ i ∈ Region.ready md ops listed, ∀ w', Junk w w' → wpE P ops i (fun a' w'' => D w'' ∧ wpAnyD P md ops D Q f (listed.setIfInBounds i true) a' w'') a w'
theorem wpAnyD_junk {Q : Act → World → Prop} : ∀ {f : Nat} {listed : Array Bool} {a : Act} {w w' : World}, Junk w w' → wpAnyD P md ops D Q f listed a w → wpAnyD P md ops D Q f listed a w'
  | 0, _, _, _, _, hj, h => ⟨h.1, fun _ h' => h.2 _ (hj.trans h')⟩
  | _ + 1, _, _, _, _, hj, h => ⟨fun h0 _ h' => h.1 h0 _ (hj.trans h'), fun i hi _ h' => h.2 i hi _ (hj.trans h')⟩
theorem wpAny_of_D {Q : Act → World → Prop} {Q' : Exit → Act → World → Prop} (hQ : ∀ a w, Q a w → Q' .normal a w) : ∀ (f : Nat) (listed : Array Bool) (a : Act) (w : World), wpAnyD P md ops D Q f listed a w → wpAny P md ops Q' f listed a w
  | 0, _, _, _, h => ⟨h.1, hQ _ _ (h.2 _ (Junk.refl _))⟩
  | f + 1, _, _, _, h => ⟨fun h0 => hQ _ _ (h.1 h0 _ (Junk.refl _)), fun i hi => wpOp_mono (fun a' w' h' => wpAny_of_D hQ f _ a' w' h'.2) (wpOp_of_wpE (h.2 i hi _ (Junk.refl _)))⟩
/-- In state 'a', in every world of the class, 'o' leaves 'v', and the world at most grown. -/
def YieldsJ (P : Program) (ops : Array Oper) (D : World → Prop) (o : Oper) (v : Value) (a : Act) : Prop :=
  (Region.wanted o (yielded ops a.tmps) = true ∧ ∀ w, D w → o.quietAt P a (Junk w) w v) ∨ (Region.wanted o (yielded ops a.tmps) = false ∧ v = undef)
theorem YieldsJ.of_same {o : Oper} {v : Value} {a a' : Act} (hy : YieldsJ P ops D o v a) (he : execOp a'.eval o = execOp a.eval o)
    (hw : Region.wanted o (yielded ops a'.tmps) = Region.wanted o (yielded ops a.tmps)) : YieldsJ P ops D o v a' := by
  unfold YieldsJ Oper.quietAt at *
  rw [he, hw]
  exact hy
theorem YieldsJ.wpE {i : Nat} {o : Oper} {v : Value} {a : Act} {w : World} {K : Act → World → Prop} (hi : ops[i]? = some o) (hy : YieldsJ P ops D o v a) (hD : D w) (h : ∀ w', Junk w w' → K (a.put o.dst v) w') : wpE P ops i K a w := by
  unfold Go.wpE
  simp only [hi]
  rcases hy with ⟨hw, hv⟩ | ⟨hw, rfl⟩
  · simp only [hw, if_true]
    have h3 := hv w hD
    unfold Oper.quietAt at h3
    unfold Oper.wp
    generalize (execOp a.eval o).run P w = r at *
    cases r with
    | ok n w' =>
      cases n <;> simp only [Oper.quietUpon] at h3 <;> simp only [Oper.upon]
      case value u => obtain ⟨e1, e2⟩ := h3; rw [e1, e2]; exact h _ (Junk.refl _)
      case skip => obtain ⟨e1, e2⟩ := h3; rw [e1, ← e2]; exact h _ (Junk.refl _)
      case enter f args =>
        obtain ⟨e1, hc⟩ := h3
        rw [e1]
        exact hc.mono fun e w'' ⟨he, hw''⟩ => by subst he; exact h _ hw''
    | halt x w' => simp only [Oper.quietUpon] at h3
  · simp only [hw, Bool.false_eq_true, if_false]
    exact h _ (Junk.refl _)
theorem wpE_put {j : Nat} {oi oj : Oper} {v : Value} (hj : ops[j]? = some oj) (hap : oi.apart ops oj = true) (hsi : ∀ cs b, oi.op ≠ .select cs b) (hsj : ∀ cs b, oj.op ≠ .select cs b)
    {K : Act → World → Prop} {a : Act} {w : World} (hy : YieldsJ P ops D oi v a) (h : wpE P ops j K (a.put oi.dst v) w) : wpE P ops j (fun a' w' => YieldsJ P ops D oi v a' ∧ K (a'.put oi.dst v) w') a w := by
  obtain ⟨h1, h2, h3⟩ := Oper.apart_spec hap
  have keep : ∀ (a : Act), YieldsJ P ops D oi v a → ∀ u, YieldsJ P ops D oi v (a.put oj.dst u) := fun a hy u => hy.of_same (execOp_put oi hsi a oj.dst u h3) (wanted_put oi a oj.dst u h3)
  unfold wpE at *
  simp only [hj] at *
  rw [wanted_put oj a oi.dst v h1] at h
  split
  · rename_i hw
    simp only [hw, if_true] at h
    unfold Oper.wp at *
    rw [execOp_put oj hsj a oi.dst v h1] at h
    generalize (execOp a.eval oj).run P w = r at *
    cases r with
    | ok n w' =>
      cases n with
      | enter f args =>
        simp only [Oper.upon] at h ⊢
        refine h.mono fun e w'' he => ?_
        cases e with
        | returned u => exact ⟨keep a hy u, by rw [← Act.put_comm a v u h2]; exact he⟩
        | panicked c => exact he.elim
        | outgrown => obtain ⟨_, _, h⟩ := he; exact h.elim
      | value u => exact ⟨keep a hy u, by rw [← Act.put_comm a v u h2]; exact h⟩
      | skip => exact ⟨keep a hy _, by rw [← Act.put_comm a v undef h2]; exact h⟩
      | defer d =>
        simp only [Oper.upon] at h ⊢
        have hy2 : YieldsJ P ops D oi v { a with defers := d :: a.defers } := hy
        refine ⟨keep _ hy2 _, ?_⟩
        rw [← Act.put_comm _ v undef h2]
        cases hd : oi.dst <;> simpa [Act.put, hd] using h
      | row r args => exact Rows.mono h fun u w'' he => ⟨keep a hy u, by rw [← Act.put_comm a v u h2]; exact he⟩
      | _ => exact h.elim
    | halt x w' => cases x <;> exact h.elim
  · rename_i hw
    simp only [hw] at h
    exact ⟨keep a hy _, by rw [← Act.put_comm a v undef h2]; exact h⟩
/-- A quiet operation that may come up now, and from which all others that do not wait for it are apart, may be taken first. -/
theorem wpAnyD_first (hcl : ∀ w w', D w → Junk w w' → D w') {Q : Act → World → Prop} {i : Nat} {oi : Oper} {v : Value} (hi : ops[i]? = some oi) (hsel : ∀ (j : Nat) (o : Oper) cs b, ops[j]? = some o → o.op ≠ .select cs b) :
    ∀ (f : Nat) (listed : Array Bool) (a : Act) (w : World),
      (∀ j oj, ops[j]? = some oj → j ≠ i → listed.getD j true = false → (∀ e ∈ oj.after, Region.binds md e = true → e.on ≠ i) → oi.apart ops oj = true) →
      i ∈ Region.ready md ops listed → YieldsJ P ops D oi v a → D w →
      wpAnyD P md ops D Q f (listed.setIfInBounds i true) (a.put oi.dst v) w → wpAnyD P md ops D Q (f + 1) listed a w := by
  intro f
  induction f with
  | zero =>
    intro listed a w _ hr hy hD H
    refine ⟨fun h => (by rw [h] at hr; cases hr), fun j hj w' hw' => ?_⟩
    by_cases hji : j = i
    · subst hji; exact hy.wpE hi (hcl _ _ hD hw') fun w'' hw'' => ⟨hcl _ _ (hcl _ _ hD hw') hw'', wpAnyD_junk (hw'.trans hw'') H⟩
    · have := ready_mono hj hji
      rw [H.1] at this
      cases this
  | succ f ih =>
    intro listed a w hfree hr hy hD H
    refine ⟨fun h => (by rw [h] at hr; cases hr), fun j hj w' hw' => ?_⟩
    by_cases hji : j = i
    · subst hji; exact hy.wpE hi (hcl _ _ hD hw') fun w'' hw'' => ⟨hcl _ _ (hcl _ _ hD hw') hw'', wpAnyD_junk (hw'.trans hw'') H⟩
    · have h1 := H.2 j (ready_mono hj hji) w' hw'
      obtain ⟨hjun, oj, hoj, hall⟩ := mem_ready.1 hj
      have hnot : ∀ e ∈ oj.after, Region.binds md e = true → e.on ≠ i := fun e he hb heq => by
        have h1 := hall e he hb
        have h0 := (mem_ready.1 hr).1
        rw [heq] at h1
        rcases Nat.lt_or_ge i listed.size with h' | h'
        · simp [h'] at h0 h1; rw [h0] at h1; cases h1
        · simp [Array.getElem?_eq_none h'] at h1
      have h2 := wpE_put hoj (hfree j oj hoj hji hjun hnot) (fun cs b => hsel i oi cs b hi) (fun cs b => hsel j oj cs b hoj) hy h1
      have hfree' : ∀ k ok, ops[k]? = some ok → k ≠ i → (listed.setIfInBounds j true).getD k true = false →
          (∀ e ∈ ok.after, Region.binds md e = true → e.on ≠ i) → oi.apart ops ok = true := fun k ok hk hki hun hno => by
        refine hfree k ok hk hki ?_ hno
        by_cases hjk : j = k
        · subst hjk; exact hjun
        · rw [getD_set_ne true hjk] at hun; exact hun
      refine wpE_mono (fun a' w'' h3 => ⟨h3.2.1, ih (listed.setIfInBounds j true) a' w'' hfree' (ready_mono hr (Ne.symm hji)) h3.1 h3.2.1 ?_⟩) h2
      rw [Array.setIfInBounds_comm _ _ hji]
      exact h3.2.2
/-- The order of our choice: (number, true): quiet, free; (number, false): the only one that may come up. -/
def Region.mixB (md : Region.Mode) (ops : Array Oper) : List (Nat × Bool) → Array Bool → Bool
  | [], listed => (Region.ready md ops listed).isEmpty
  | (k, q) :: r, listed => (if q then (Region.ready md ops listed).contains k && Region.free md ops listed k else decide (Region.ready md ops listed = [k])) && Region.mixB md ops r (listed.setIfInBounds k true)
/-- The walk in that order. -/
def wpMix (P : Program) (ops : Array Oper) (D : World → Prop) (Q : Act → World → Prop) : List (Nat × Bool) → Act → World → Prop
  | [], a, w => ∀ w', Junk w w' → Q a w'
  | (k, true) :: r, a, w => match ops[k]? with
    | none => False
    | some o => if Region.wanted o (yielded ops a.tmps) then ∃ v, (∀ w, D w → o.quietAt P a (Junk w) w v) ∧ wpMix P ops D Q r (a.put o.dst v) w else wpMix P ops D Q r (a.put o.dst undef) w
  | (k, false) :: r, a, w => ∀ w', Junk w w' → wpE P ops k (fun a' w'' => D w'' ∧ wpMix P ops D Q r a' w'') a w'
theorem wpMix_q {Q : Act → World → Prop} {k : Nat} {r : List (Nat × Bool)} {o : Oper} {a : Act} {w : World} (ho : ops[k]? = some o)
    (h : ∀ K : Act → Prop, (∀ a, wpMix P ops D Q r a w → K a) → if Region.wanted o (yielded ops a.tmps) then ∃ v, (∀ w, D w → o.quietAt P a (Junk w) w v) ∧ K (a.put o.dst v) else K (a.put o.dst undef)) :
    wpMix P ops D Q ((k, true) :: r) a w := by
  unfold wpMix
  simp only [ho]
  exact h _ (fun _ h => h)
theorem wpMix_e {Q : Act → World → Prop} {k : Nat} {r : List (Nat × Bool)} {o : Oper} {a : Act} {w : World} (ho : ops[k]? = some o)
    (h : ∀ os d, ∀ K : Act → World → Prop, (∀ a w', D w' → wpMix P ops D Q r a w' → K a w') → if Region.wanted o (yielded ops a.tmps) then o.wp P a (w.junk os d) K NoExit else K (a.put o.dst undef) (w.junk os d)) :
    wpMix P ops D Q ((k, false) :: r) a w := by
  unfold wpMix
  rintro w' ⟨os, d, rfl⟩
  unfold wpE
  simp only [ho]
  exact h os d _ (fun _ _ hd h => ⟨hd, h⟩)
theorem wpMix_nil {Q : Act → World → Prop} {a : Act} {w : World} (h : ∀ os d, Q a (w.junk os d)) : wpMix P ops D Q [] a w := by
  rintro w' ⟨os, d, rfl⟩
  exact h os d
theorem wpAnyD_mix (hcl : ∀ w w', D w → Junk w w' → D w') {Q : Act → World → Prop} (hsel : Region.noSelect ops = true) : ∀ (π : List (Nat × Bool)) (listed : Array Bool) (a : Act) (w : World),
    Region.mixB md ops π listed = true → D w → wpMix P ops D Q π a w → wpAnyD P md ops D Q π.length listed a w
  | [], _, _, _, hB, _, h => ⟨by simpa [Region.mixB] using hB, h⟩
  | (k, true) :: r, listed, a, w, hB, hD, h => by
    simp only [Region.mixB, if_true, Bool.and_eq_true] at hB
    obtain ⟨⟨hr, hf⟩, hB'⟩ := hB
    unfold wpMix at h
    split at h
    · exact h.elim
    · rename_i o ho
      have hk : ∃ v, YieldsJ P ops D o v a ∧ wpMix P ops D Q r (a.put o.dst v) w := by
        split at h
        · rename_i hw; obtain ⟨v, h1, h2⟩ := h; exact ⟨v, .inl ⟨hw, h1⟩, h2⟩
        · rename_i hw; exact ⟨undef, .inr ⟨by simpa using hw, rfl⟩, h⟩
      obtain ⟨v, hy, h2⟩ := hk
      exact wpAnyD_first hcl ho (Region.noSelect_spec hsel) r.length listed a w (Region.free_spec ho hf) (by simpa using hr) hy hD (wpAnyD_mix hcl hsel r _ _ w hB' hD h2)
  | (k, false) :: r, listed, a, w, hB, hD, h => by
    simp only [Region.mixB, Bool.false_eq_true, if_false, Bool.and_eq_true, decide_eq_true_eq] at hB
    obtain ⟨hr, hB'⟩ := hB
    unfold wpMix at h
    refine ⟨fun h0 => (by rw [hr] at h0; cases h0), fun i hi w' hw' => ?_⟩
    rw [hr] at hi
    obtain rfl : i = k := by simpa using hi
    exact wpE_mono (fun a' w'' h' => ⟨h'.1, wpAnyD_mix hcl hsel r _ a' w'' hB' h'.1 h'.2⟩) (h w' hw')
theorem wp_region_mix {id : Nat} {Q : Exit → Act → World → Prop} {a : Act} {w : World} {l : List Oper} (D : World → Prop) (π : List (Nat × Bool)) (hm : P.follows .mixedOrders = true)
    (hB : (Region.noSelect l.toArray && decide (π.length = l.length) && Region.mixB .any l.toArray π (Array.replicate l.length false)) = true)
    (hcl : ∀ w w', D w → Junk w w' → D w') (hD : D w.drew) (h : wpMix P l.toArray D (fun a' w' => Q .normal a' w') π a w.drew) : (Code.region id l.toArray true).wp P Q a w := by
  simp only [Bool.and_eq_true, decide_eq_true_eq] at hB
  refine wp_region_any hm (wpAny_of_D (D := D) (Q := fun a' w' => Q .normal a' w') (fun _ _ h => h) _ _ _ _ ?_)
  have := wpAnyD_mix (P := P) (md := .any) hcl hB.1.1 π _ a w.drew hB.2 hD h
  rw [hB.1.2] at this
  simpa using this
/-- The class 'w with new blocks'. -/
def InJunk (w w' : World) : Prop := ∃ x : Jk, w' = w.junk x.os x.d
theorem InJunk.on {w w1 w2 : World} (h : InJunk w w1) (hj : Junk w1 w2) : InJunk w w2 := by
  obtain ⟨⟨os, d⟩, rfl⟩ := h
  obtain ⟨os', d', rfl⟩ := hj
  exact ⟨⟨os ++ os', d'⟩, by simp⟩
theorem InJunk.of {w w1 : World} (h : Junk w w1) : InJunk w w1 := by obtain ⟨os, d, rfl⟩ := h; exact ⟨⟨os, d⟩, rfl⟩
theorem wp_region_mixj {id : Nat} {Q : Exit → Act → World → Prop} {a : Act} {w : World} {l : List Oper} (W0 : World) (π : List (Nat × Bool)) (hm : P.follows .mixedOrders = true)
    (hB : (Region.noSelect l.toArray && decide (π.length = l.length) && Region.mixB .any l.toArray π (Array.replicate l.length false)) = true) (hj : Junk W0 w)
    (h : wpMix P l.toArray (fun w' => ∃ x : Jk, w' = W0.junk x.os x.d) (fun a' w' => Q .normal a' w') π a w.drew) : (Code.region id l.toArray true).wp P Q a w :=
  wp_region_mix _ π hm hB (fun _ _ h1 h2 => InJunk.on (w := W0) h1 h2) hj.drew.pair h
/-- What the call's first own block holds, and what has come behind. -/
structure Jk3 where
  cur : Array Value
  os : Array Obj
  d : Nat
theorem Junk.app (w : World) (os os' : Array Obj) (d d' : Nat) : Junk (w.junk os d) (w.junk (os ++ os') d') := ⟨os', d', by simp⟩
theorem in_own {w w1 : World} {t : TypeId} {os0 : Array Obj} {d0 : Nat} (cur : Array Value) (h : Junk ((w.alloc (.cells cur t)).junk os0 d0) w1) : ∃ x : Jk3, w1 = (w.alloc (.cells x.cur t)).junk (os0 ++ x.os) x.d := by
  obtain ⟨os, d, rfl⟩ := h
  exact ⟨⟨cur, os, d⟩, by simp⟩
theorem wpMix_e1 {ops : Array Oper} {D : World → Prop} {Q : Act → World → Prop} {k : Nat} {r : List (Nat × Bool)} {o : Oper} {a : Act} {w : World} (ho : ops[k]? = some o) (hg : o.guard = none)
    (h : ∀ os d, ∀ K : Act → World → Prop, (∀ a w', D w' → wpMix P ops D Q r a w' → K a w') → o.wp P a (w.junk os d) K NoExit) :
    wpMix P ops D Q ((k, false) :: r) a w :=
  wpMix_e ho fun os d K hK => by
    have hw : Region.wanted o (yielded ops a.tmps) = true := by simp [Region.wanted, hg]
    rw [if_pos hw]
    exact h os d K hK
/-- The same, where the operations write a block of the call's own, the first behind 'w'. -/
theorem wp_region_mixo {id : Nat} {Q : Exit → Act → World → Prop} {a : Act} {w1 : World} {l : List Oper} (w : World) (t : TypeId) (os0 : Array Obj) (d0 : Nat) (cur : Array Value) (π : List (Nat × Bool)) (hm : P.follows .mixedOrders = true)
    (hB : (Region.noSelect l.toArray && decide (π.length = l.length) && Region.mixB .any l.toArray π (Array.replicate l.length false)) = true) (hj : Junk ((w.alloc (.cells cur t)).junk os0 d0) w1)
    (h : wpMix P l.toArray (fun w' => ∃ x : Jk3, w' = (w.alloc (.cells x.cur t)).junk (os0 ++ x.os) x.d) (fun a' w' => Q .normal a' w') π a w1.drew) : (Code.region id l.toArray true).wp P Q a w1 :=
  wp_region_mix _ π hm hB (fun w1 w2 h1 h2 => by
    obtain ⟨x, rfl⟩ := h1
    obtain ⟨os', d', rfl⟩ := h2
    exact ⟨⟨x.cur, x.os ++ os', d'⟩, by simp⟩) (in_own cur hj.drew) h
end
end Go
