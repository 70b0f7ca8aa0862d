/- reasm.Held. -/
import Derived.Test.YtgjppmkadmfibaaLift
import Derived.Test.YtgjppmkadmfibaaMix
import Derived.Test.YtgjppmkadmfibaaTcpC
import Derived.Test.YtgjppmkadmfibaaIpA
import Derived.Deep.DeepCutAuto
import Derived.Deep.WholeRow
namespace Go
open Go.ChangeShapes Go.WideShapes Go.ChangeAt Go.RowKit Go.WideMaps Go.WideElems Go.Deep
theorem Cells.nil_slice {P : Program} {W : World} {t e : TypeId} (ht : P.underlying t = some (.slice e)) {oa : Option Addr} {len cap : Nat} (h : Cells P W t [.slice oa len cap]) (hn : oa = none) : len = 0 ∧ cap = 0 := by
  obtain ⟨H, enc, n, y, h⟩ := h
  subst hn
  rcases open_slice ht h with ⟨hcs, _⟩ | ⟨a, len, cap, m, n, D, Pl, hcs, _⟩
  · cases hcs; exact ⟨rfl, rfl⟩
  · cases hcs
theorem Calls.junk_of2 {P : Program} {f : FuncId} {args : Array Value} {w : World} {a os : Array Obj} {d : Nat} {v : Value}
    (h : Calls P f args (w.junk (a ++ os) d) fun e w' => e = .returned v ∧ Junk (w.junk (a ++ os) d) w') : Calls P f args (w.junk (a ++ os) d) fun e w'' => e = .returned v ∧ ∃ x : Jk, w'' = w.junk (a ++ x.os) x.d :=
  h.mono fun _ _ ⟨he, os', d', hm⟩ => ⟨he, ⟨os ++ os', d'⟩, by rw [hm]; simp⟩
theorem Calls.junk_of3 {P : Program} {f : FuncId} {args : Array Value} {w : World} {a b os : Array Obj} {d : Nat} {v : Value}
    (h : Calls P f args (w.junk (a ++ (b ++ os)) d) fun e w' => e = .returned v ∧ Junk (w.junk (a ++ (b ++ os)) d) w') : Calls P f args (w.junk (a ++ (b ++ os)) d) fun e w'' => e = .returned v ∧ ∃ x : Jk, w'' = w.junk (a ++ (b ++ x.os)) x.d :=
  h.mono fun _ _ ⟨he, os', d', hm⟩ => ⟨he, ⟨os ++ os', d'⟩, by rw [hm]; simp⟩
theorem Calls.junk_of4 {P : Program} {f : FuncId} {args : Array Value} {w : World} {a b c os : Array Obj} {d : Nat} {v : Value}
    (h : Calls P f args (w.junk (a ++ (b ++ (c ++ os))) d) fun e w' => e = .returned v ∧ Junk (w.junk (a ++ (b ++ (c ++ os))) d) w') : Calls P f args (w.junk (a ++ (b ++ (c ++ os))) d) fun e w'' => e = .returned v ∧ ∃ x : Jk, w'' = w.junk (a ++ (b ++ (c ++ x.os))) x.d :=
  h.mono fun _ _ ⟨he, os', d', hm⟩ => ⟨he, ⟨os ++ os', d'⟩, by rw [hm]; simp⟩
theorem Calls.junk_of5 {P : Program} {f : FuncId} {args : Array Value} {w : World} {a b c e' os : Array Obj} {d : Nat} {v : Value}
    (h : Calls P f args (w.junk (a ++ (b ++ (c ++ (e' ++ os)))) d) fun e w' => e = .returned v ∧ Junk (w.junk (a ++ (b ++ (c ++ (e' ++ os)))) d) w') : Calls P f args (w.junk (a ++ (b ++ (c ++ (e' ++ os)))) d) fun e w'' => e = .returned v ∧ ∃ x : Jk, w'' = w.junk (a ++ (b ++ (c ++ (e' ++ x.os)))) x.d :=
  h.mono fun _ _ ⟨he, os', d', hm⟩ => ⟨he, ⟨os ++ os', d'⟩, by rw [hm]; simp⟩
end Go
set_option linter.unusedVariables false
set_option maxRecDepth 100000
namespace Go
section
variable {P : Program} {ops : Array Oper} {md : Region.Mode} {D : World → Prop} {last : Nat}
def wpAnyL (P : Program) (md : Region.Mode) (ops : Array Oper) (D : World → Prop) (last : Nat) (Q : Act → World → Prop) : Nat → Array Bool → Act → World → Prop
  | 0, listed, a, w => Region.ready md ops listed = [] ∧ ∀ w', Junk w w' → Q a w'
  | f + 1, listed, a, w => (Region.ready md ops listed = [] → ∀ w', Junk w w' → Q a w') ∧
    ∀ i ∈ Region.ready md ops listed, ∀ w', Junk w w' → wpE P ops i (fun a' w'' => (i = last ∨ D w'') ∧ wpAnyL P md ops D last Q f (listed.setIfInBounds i true) a' w'') a w'
theorem wpAnyL_junk {Q : Act → World → Prop} : ∀ {f : Nat} {listed : Array Bool} {a : Act} {w w' : World}, Junk w w' → wpAnyL P md ops D last Q f listed a w → wpAnyL P md ops D last Q f listed a w'
  | 0, _, _, _, _, hj, h => ⟨h.1, fun _ h' => h.2 _ (hj.trans h')⟩
  | _ + 1, _, _, _, _, hj, h => ⟨fun h0 _ h' => h.1 h0 _ (hj.trans h'), fun i hi _ h' => h.2 i hi _ (hj.trans h')⟩
theorem wpAny_of_L {Q : Act → World → Prop} {Q' : Exit → Act → World → Prop} (hQ : ∀ a w, Q a w → Q' .normal a w) : ∀ (f : Nat) (listed : Array Bool) (a : Act) (w : World), wpAnyL P md ops D last Q f listed a w → wpAny P md ops Q' f listed a w
  | 0, _, _, _, h => ⟨h.1, hQ _ _ (h.2 _ (Junk.refl _))⟩
  | f + 1, _, _, _, h => ⟨fun h0 => hQ _ _ (h.1 h0 _ (Junk.refl _)), fun i hi => wpOp_mono (fun a' w' h' => wpAny_of_L hQ f _ a' w' h'.2) (wpOp_of_wpE (h.2 i hi _ (Junk.refl _)))⟩
/-- What an operation waits for is listed ahead of it. -/
def Region.Closed (md : Region.Mode) (ops : Array Oper) (listed : Array Bool) : Prop :=
  ∀ j oj, ops[j]? = some oj → listed.getD j false = true → ∀ e ∈ oj.after, Region.binds md e = true → listed.getD e.on false = true
theorem getD_set_keep {listed : Array Bool} {i j : Nat} (h : listed.getD j false = true) : (listed.setIfInBounds i true).getD j false = true := by
  by_cases hij : i = j
  · subst hij
    have hlt : i < listed.size := by
      rcases Nat.lt_or_ge i listed.size with h' | h'
      · exact h'
      · simp [Array.getElem?_eq_none h'] at h
    simp [hlt]
  · rwa [getD_set_ne false hij]
theorem Region.Closed.set {listed : Array Bool} {i : Nat} (h : Region.Closed md ops listed) (hr : i ∈ Region.ready md ops listed) : Region.Closed md ops (listed.setIfInBounds i true) := by
  intro j oj hj hl e he hb
  by_cases hij : i = j
  · subst hij
    obtain ⟨_, o, ho, hall⟩ := mem_ready.1 hr
    rw [hj] at ho
    cases ho
    exact getD_set_keep (hall e he hb)
  · rw [getD_set_ne false hij] at hl
    exact getD_set_keep (h j oj hj hl e he hb)
theorem Region.Closed.none (n : Nat) : Region.Closed md ops (Array.replicate n false) := by
  intro j oj hj hl
  exfalso
  by_cases h : j < n <;> simp [h] at hl
/-- The last operation waits for all others, or for what waits for them. -/
def Region.lastB (md : Region.Mode) (ops : Array Oper) (last : Nat) : Bool :=
  match ops[last]? with
  | none => false
  | some o => (List.range ops.size).all fun i => i == last || (o.after.any fun e => Region.binds md e && e.on == i) ||
      o.after.any fun e => Region.binds md e && match ops[e.on]? with | none => false | some m => m.after.any fun f => Region.binds md f && f.on == i
theorem Region.lastB_spec (h : Region.lastB md ops last = true) {listed : Array Bool} {i : Nat} (hc : Region.Closed md ops listed) (hr : last ∈ Region.ready md ops listed) (hi : i ≠ last) (his : i < ops.size) : listed.getD i false = true := by
  unfold Region.lastB at h
  obtain ⟨_, o, ho, hall⟩ := mem_ready.1 hr
  simp only [ho, List.all_eq_true, List.mem_range, Bool.or_eq_true, beq_iff_eq, Array.any_eq_true', Bool.and_eq_true] at h
  rcases h i his with (h1 | ⟨e, he, hb, he2⟩) | ⟨e, he, hb, he2⟩
  · exact absurd h1 hi
  · rw [← he2]; exact hall e he hb
  · cases hm : ops[e.on]? with
    | none => simp [hm] at he2
    | some m =>
      simp only [hm, Array.any_eq_true', Bool.and_eq_true, beq_iff_eq] at he2
      obtain ⟨f, hf, hfb, hf2⟩ := he2
      rw [← hf2]
      exact hc _ m hm (hall e he hb) f hf hfb
theorem wpAnyL_first (hcl : ∀ w w', D w → Junk w w' → D w') {Q : Act → World → Prop} {i : Nat} {oi : Oper} {v : Value} (hi : ops[i]? = some oi) (hsel : ∀ (j : Nat) (o : Oper) cs b, ops[j]? = some o → o.op ≠ .select cs b) (hlast : Region.lastB md ops last = true) (hil : i ≠ last) :
    ∀ (f : Nat) (listed : Array Bool) (a : Act) (w : World),
      (∀ j oj, ops[j]? = some oj → j ≠ i → listed.getD j true = false → (∀ e ∈ oj.after, Region.binds md e = true → e.on ≠ i) → oi.apart ops oj = true) →
      i ∈ Region.ready md ops listed → Region.Closed md ops listed → YieldsJ P ops D oi v a → D w →
      wpAnyL P md ops D last Q f (listed.setIfInBounds i true) (a.put oi.dst v) w → wpAnyL P md ops D last Q (f + 1) listed a w := by
  intro f
  induction f with
  | zero =>
    intro listed a w _ hr hcs hy hD H
    refine ⟨fun h => (by rw [h] at hr; cases hr), fun j hj w' hw' => ?_⟩
    by_cases hji : j = i
    · subst hji; exact hy.wpE hi (hcl _ _ hD hw') fun w'' hw'' => ⟨.inr (hcl _ _ (hcl _ _ hD hw') hw''), wpAnyL_junk (hw'.trans hw'') H⟩
    · have := ready_mono hj hji
      rw [H.1] at this
      cases this
  | succ f ih =>
    intro listed a w hfree hr hcs hy hD H
    refine ⟨fun h => (by rw [h] at hr; cases hr), fun j hj w' hw' => ?_⟩
    by_cases hji : j = i
    · subst hji; exact hy.wpE hi (hcl _ _ hD hw') fun w'' hw'' => ⟨.inr (hcl _ _ (hcl _ _ hD hw') hw''), wpAnyL_junk (hw'.trans hw'') H⟩
    · have hjl : j ≠ last := fun h => by
        subst h
        have h0 := (mem_ready.1 hr).1
        have h1 := Region.lastB_spec hlast hcs hj hil (Array.getElem?_eq_some_iff.1 hi).1
        rcases Nat.lt_or_ge i listed.size with h' | h'
        · simp [h'] at h0 h1; rw [h0] at h1; cases h1
        · simp [Array.getElem?_eq_none h'] at h1
      have h1 := H.2 j (ready_mono hj hji) w' hw'
      obtain ⟨hjun, oj, hoj, hall⟩ := mem_ready.1 hj
      have hnot : ∀ e ∈ oj.after, Region.binds md e = true → e.on ≠ i := fun e he hb heq => by
        have h1 := hall e he hb
        have h0 := (mem_ready.1 hr).1
        rw [heq] at h1
        rcases Nat.lt_or_ge i listed.size with h' | h'
        · simp [h'] at h0 h1; rw [h0] at h1; cases h1
        · simp [Array.getElem?_eq_none h'] at h1
      have h2 := wpE_put hoj (hfree j oj hoj hji hjun hnot) (fun cs b => hsel i oi cs b hi) (fun cs b => hsel j oj cs b hoj) hy h1
      have hfree' : ∀ k ok, ops[k]? = some ok → k ≠ i → (listed.setIfInBounds j true).getD k true = false →
          (∀ e ∈ ok.after, Region.binds md e = true → e.on ≠ i) → oi.apart ops ok = true := fun k ok hk hki hun hno => by
        refine hfree k ok hk hki ?_ hno
        by_cases hjk : j = k
        · subst hjk; exact hjun
        · rw [getD_set_ne true hjk] at hun; exact hun
      refine wpE_mono (fun a' w'' h3 => ⟨h3.2.1, ih (listed.setIfInBounds j true) a' w'' hfree' (ready_mono hr (Ne.symm hji)) (hcs.set hj) h3.1 (h3.2.1.resolve_left hjl) ?_⟩) h2
      rw [Array.setIfInBounds_comm _ _ hji]
      exact h3.2.2
def wpMixL (P : Program) (ops : Array Oper) (D : World → Prop) (last : Nat) (Q : Act → World → Prop) : List (Nat × Bool) → Act → World → Prop
  | [], a, w => ∀ w', Junk w w' → Q a w'
  | (k, true) :: r, a, w => match ops[k]? with
    | none => False
    | some o => if Region.wanted o (yielded ops a.tmps) then ∃ v, (∀ w, D w → o.quietAt P a (Junk w) w v) ∧ wpMixL P ops D last Q r (a.put o.dst v) w else wpMixL P ops D last Q r (a.put o.dst undef) w
  | (k, false) :: r, a, w => ∀ w', Junk w w' → wpE P ops k (fun a' w'' => (k = last ∨ D w'') ∧ wpMixL P ops D last Q r a' w'') a w'
theorem wpMixL_q {Q : Act → World → Prop} {k : Nat} {r : List (Nat × Bool)} {o : Oper} {a : Act} {w : World} (ho : ops[k]? = some o)
    (h : ∀ K : Act → Prop, (∀ a, wpMixL P ops D last Q r a w → K a) → if Region.wanted o (yielded ops a.tmps) then ∃ v, (∀ w, D w → o.quietAt P a (Junk w) w v) ∧ K (a.put o.dst v) else K (a.put o.dst undef)) :
    wpMixL P ops D last Q ((k, true) :: r) a w := by
  unfold wpMixL
  simp only [ho]
  exact h _ (fun _ h => h)
theorem wpMixL_e {Q : Act → World → Prop} {k : Nat} {r : List (Nat × Bool)} {o : Oper} {a : Act} {w : World} (ho : ops[k]? = some o)
    (h : ∀ os d, ∀ K : Act → World → Prop, (∀ a w', D w' → wpMixL P ops D last Q r a w' → K a w') → if Region.wanted o (yielded ops a.tmps) then o.wp P a (w.junk os d) K NoExit else K (a.put o.dst undef) (w.junk os d)) :
    wpMixL P ops D last Q ((k, false) :: r) a w := by
  unfold wpMixL
  rintro w' ⟨os, d, rfl⟩
  unfold wpE
  simp only [ho]
  exact h os d _ (fun _ _ hd h => ⟨.inr hd, h⟩)
theorem wpMixL_last {Q : Act → World → Prop} {o : Oper} {r : List (Nat × Bool)} {a : Act} {w : World} (ho : ops[last]? = some o)
    (h : ∀ os d, ∀ K : Act → World → Prop, (∀ a w', wpMixL P ops D last Q r a w' → K a w') → if Region.wanted o (yielded ops a.tmps) then o.wp P a (w.junk os d) K NoExit else K (a.put o.dst undef) (w.junk os d)) :
    wpMixL P ops D last Q ((last, false) :: r) a w := by
  unfold wpMixL
  rintro w' ⟨os, d, rfl⟩
  unfold wpE
  simp only [ho]
  exact h os d _ (fun _ _ h => ⟨by simp, h⟩)
theorem wpMixL_nil {Q : Act → World → Prop} {a : Act} {w : World} (h : ∀ os d, Q a (w.junk os d)) : wpMixL P ops D last Q [] a w := by
  rintro w' ⟨os, d, rfl⟩
  exact h os d
theorem wpMixL_e1 {Q : Act → World → Prop} {k : Nat} {r : List (Nat × Bool)} {o : Oper} {a : Act} {w : World} (ho : ops[k]? = some o) (hg : o.guard = none)
    (h : ∀ os d, ∀ K : Act → World → Prop, (∀ a w', D w' → wpMixL P ops D last Q r a w' → K a w') → o.wp P a (w.junk os d) K NoExit) :
    wpMixL P ops D last Q ((k, false) :: r) a w :=
  wpMixL_e ho fun os d K hK => by
    have hw : Region.wanted o (yielded ops a.tmps) = true := by simp [Region.wanted, hg]
    rw [if_pos hw]
    exact h os d K hK
/-- An order in which the last one comes last, if at all as an effect. -/
def Region.endsB (last : Nat) : List (Nat × Bool) → Bool
  | [] => true
  | [(k, q)] => !q || k != last
  | (k, _) :: r => k != last && Region.endsB last r
theorem wpAnyL_mix (hcl : ∀ w w', D w → Junk w w' → D w') {Q : Act → World → Prop} (hsel : Region.noSelect ops = true) (hlast : Region.lastB md ops last = true) : ∀ (π : List (Nat × Bool)) (listed : Array Bool) (a : Act) (w : World),
    Region.mixB md ops π listed = true → Region.endsB last π = true → Region.Closed md ops listed → (π = [] ∨ D w) → wpMixL P ops D last Q π a w → wpAnyL P md ops D last Q π.length listed a w
  | [], _, _, _, hB, _, _, _, h => ⟨by simpa [Region.mixB] using hB, h⟩
  | (k, true) :: r, listed, a, w, hB, hE, hcs, hD, h => by
    have hD := hD.resolve_left (by simp)
    simp only [Region.mixB, if_true, Bool.and_eq_true] at hB
    obtain ⟨⟨hr, hf⟩, hB'⟩ := hB
    have hkl : k ≠ last ∧ Region.endsB last r = true := by
      cases r with
      | nil => simpa [Region.endsB] using hE
      | cons x r => simpa [Region.endsB] using hE
    unfold wpMixL at h
    split at h
    · exact h.elim
    · rename_i o ho
      have hk : ∃ v, YieldsJ P ops D o v a ∧ wpMixL P ops D last Q r (a.put o.dst v) w := by
        split at h
        · rename_i hw; obtain ⟨v, h1, h2⟩ := h; exact ⟨v, .inl ⟨hw, h1⟩, h2⟩
        · rename_i hw; exact ⟨undef, .inr ⟨by simpa using hw, rfl⟩, h⟩
      obtain ⟨v, hy, h2⟩ := hk
      exact wpAnyL_first hcl ho (Region.noSelect_spec hsel) hlast hkl.1 r.length listed a w (Region.free_spec ho hf) (by simpa using hr) hcs hy hD (wpAnyL_mix hcl hsel hlast r _ _ w hB' hkl.2 (hcs.set (by simpa using hr)) (.inr hD) h2)
  | (k, false) :: r, listed, a, w, hB, hE, hcs, hD, h => by
    simp only [Region.mixB, Bool.false_eq_true, if_false, Bool.and_eq_true, decide_eq_true_eq] at hB
    obtain ⟨hr, hB'⟩ := hB
    have hE' : Region.endsB last r = true ∧ (r = [] ∨ k ≠ last) := by
      cases r with
      | nil => simp [Region.endsB]
      | cons x r => simp only [Region.endsB, Bool.and_eq_true, bne_iff_ne] at hE; exact ⟨hE.2, .inr hE.1⟩
    unfold wpMixL at h
    refine ⟨fun h0 => (by rw [hr] at h0; cases h0), fun i hi w' hw' => ?_⟩
    rw [hr] at hi
    obtain rfl : i = k := by simpa using hi
    exact wpE_mono (fun a' w'' h' => ⟨h'.1, wpAnyL_mix hcl hsel hlast r _ a' w'' hB' hE'.1 (hcs.set (by rw [hr]; simp)) (hE'.2.elim .inl fun hne => .inr (h'.1.resolve_left hne)) h'.2⟩) (h w' hw')
theorem wp_region_mixl {id : Nat} {Q : Exit → Act → World → Prop} {a : Act} {w1 : World} {l : List Oper} (w : World) (last : Nat) (π : List (Nat × Bool)) (hm : P.follows .mixedOrders = true)
    (hB : (Region.noSelect l.toArray && decide (π.length = l.length) && Region.mixB .any l.toArray π (Array.replicate l.length false) && Region.lastB .any l.toArray last && Region.endsB last π) = true) (hj : Junk w w1)
    (h : wpMixL P l.toArray (fun w' => ∃ x : Jk, w' = w.junk x.os x.d) last (fun a' w' => Q .normal a' w') π a w1.drew) : (Code.region id l.toArray true).wp P Q a w1 := by
  simp only [Bool.and_eq_true, decide_eq_true_eq] at hB
  refine wp_region_any hm (wpAny_of_L (D := fun w' => ∃ x : Jk, w' = w.junk x.os x.d) (last := last) (Q := fun a' w' => Q .normal a' w') (fun _ _ h => h) _ _ _ _ ?_)
  have := wpAnyL_mix (P := P) (md := .any) (D := fun w' => ∃ x : Jk, w' = w.junk x.os x.d) (last := last) (fun _ _ h1 h2 => InJunk.on (w := w) h1 h2) hB.1.1.1.1 hB.1.2 π _ a w1.drew hB.1.1.2 hB.2 (Region.Closed.none _) (.inr hj.drew.pair) h
  rw [hB.1.1.1.2] at this
  simpa using this
end
end Go
set_option linter.unusedVariables false
set_option maxRecDepth 100000
namespace Go
section
variable {P : Program} {ops : Array Oper} {md : Region.Mode} {D : World → Prop} {last : Nat}
/-- Does operation 'k' wait for 'i', by way of others? -/
def Region.downB (md : Region.Mode) (ops : Array Oper) : Nat → Nat → Nat → Bool
  | 0, _, _ => false
  | f + 1, i, k => match ops[k]? with
    | none => false
    | some o => o.after.any fun e => Region.binds md e && (e.on == i || Region.downB md ops f i e.on)
def Region.lastT (md : Region.Mode) (ops : Array Oper) (last : Nat) : Bool := (List.range ops.size).all fun i => i == last || Region.downB md ops ops.size i last
theorem Region.downB_listed {listed : Array Bool} {i : Nat} (hc : Region.Closed md ops listed) : ∀ (f k : Nat), (∀ o, ops[k]? = some o → ∀ e ∈ o.after, Region.binds md e = true → listed.getD e.on false = true) → Region.downB md ops f i k = true → listed.getD i false = true
  | 0, _, _, h => by cases h
  | f + 1, k, hk, h => by
    unfold Region.downB at h
    cases hm : ops[k]? with
    | none => simp [hm] at h
    | some o =>
      simp only [hm, Array.any_eq_true', Bool.and_eq_true, Bool.or_eq_true, beq_iff_eq] at h
      obtain ⟨e, he, hb, h1 | h1⟩ := h
      · rw [← h1]; exact hk o hm e he hb
      · exact Region.downB_listed hc f e.on (fun o' ho' e' he' hb' => hc _ o' ho' (hk o hm e he hb) e' he' hb') h1
theorem Region.lastT_spec (h : Region.lastT md ops last = true) {listed : Array Bool} {i : Nat} (hc : Region.Closed md ops listed) (hr : last ∈ Region.ready md ops listed) (hi : i ≠ last) (his : i < ops.size) : listed.getD i false = true := by
  unfold Region.lastT at h
  obtain ⟨_, o, ho, hall⟩ := mem_ready.1 hr
  simp only [List.all_eq_true, List.mem_range, Bool.or_eq_true, beq_iff_eq] at h
  rcases h i his with h1 | h1
  · exact absurd h1 hi
  · refine Region.downB_listed hc _ last (fun o' ho' e he hb => ?_) h1
    rw [ho] at ho'
    cases ho'
    exact hall e he hb
theorem wpAnyT_first (hcl : ∀ w w', D w → Junk w w' → D w') {Q : Act → World → Prop} {i : Nat} {oi : Oper} {v : Value} (hi : ops[i]? = some oi) (hsel : ∀ (j : Nat) (o : Oper) cs b, ops[j]? = some o → o.op ≠ .select cs b) (hlast : Region.lastT md ops last = true) (hil : i ≠ last) :
    ∀ (f : Nat) (listed : Array Bool) (a : Act) (w : World),
      (∀ j oj, ops[j]? = some oj → j ≠ i → listed.getD j true = false → (∀ e ∈ oj.after, Region.binds md e = true → e.on ≠ i) → oi.apart ops oj = true) →
      i ∈ Region.ready md ops listed → Region.Closed md ops listed → YieldsJ P ops D oi v a → D w →
      wpAnyL P md ops D last Q f (listed.setIfInBounds i true) (a.put oi.dst v) w → wpAnyL P md ops D last Q (f + 1) listed a w := by
  intro f
  induction f with
  | zero =>
    intro listed a w _ hr hcs hy hD H
    refine ⟨fun h => (by rw [h] at hr; cases hr), fun j hj w' hw' => ?_⟩
    by_cases hji : j = i
    · subst hji; exact hy.wpE hi (hcl _ _ hD hw') fun w'' hw'' => ⟨.inr (hcl _ _ (hcl _ _ hD hw') hw''), wpAnyL_junk (hw'.trans hw'') H⟩
    · have := ready_mono hj hji
      rw [H.1] at this
      cases this
  | succ f ih =>
    intro listed a w hfree hr hcs hy hD H
    refine ⟨fun h => (by rw [h] at hr; cases hr), fun j hj w' hw' => ?_⟩
    by_cases hji : j = i
    · subst hji; exact hy.wpE hi (hcl _ _ hD hw') fun w'' hw'' => ⟨.inr (hcl _ _ (hcl _ _ hD hw') hw''), wpAnyL_junk (hw'.trans hw'') H⟩
    · have hjl : j ≠ last := fun h => by
        subst h
        have h0 := (mem_ready.1 hr).1
        have h1 := Region.lastT_spec hlast hcs hj hil (Array.getElem?_eq_some_iff.1 hi).1
        rcases Nat.lt_or_ge i listed.size with h' | h'
        · simp [h'] at h0 h1; rw [h0] at h1; cases h1
        · simp [Array.getElem?_eq_none h'] at h1
      have h1 := H.2 j (ready_mono hj hji) w' hw'
      obtain ⟨hjun, oj, hoj, hall⟩ := mem_ready.1 hj
      have hnot : ∀ e ∈ oj.after, Region.binds md e = true → e.on ≠ i := fun e he hb heq => by
        have h1 := hall e he hb
        have h0 := (mem_ready.1 hr).1
        rw [heq] at h1
        rcases Nat.lt_or_ge i listed.size with h' | h'
        · simp [h'] at h0 h1; rw [h0] at h1; cases h1
        · simp [Array.getElem?_eq_none h'] at h1
      have h2 := wpE_put hoj (hfree j oj hoj hji hjun hnot) (fun cs b => hsel i oi cs b hi) (fun cs b => hsel j oj cs b hoj) hy h1
      have hfree' : ∀ k ok, ops[k]? = some ok → k ≠ i → (listed.setIfInBounds j true).getD k true = false →
          (∀ e ∈ ok.after, Region.binds md e = true → e.on ≠ i) → oi.apart ops ok = true := fun k ok hk hki hun hno => by
        refine hfree k ok hk hki ?_ hno
        by_cases hjk : j = k
        · subst hjk; exact hjun
        · rw [getD_set_ne true hjk] at hun; exact hun
      refine wpE_mono (fun a' w'' h3 => ⟨h3.2.1, ih (listed.setIfInBounds j true) a' w'' hfree' (ready_mono hr (Ne.symm hji)) (hcs.set hj) h3.1 (h3.2.1.resolve_left hjl) ?_⟩) h2
      rw [Array.setIfInBounds_comm _ _ hji]
      exact h3.2.2
theorem wpAnyT_mix (hcl : ∀ w w', D w → Junk w w' → D w') {Q : Act → World → Prop} (hsel : Region.noSelect ops = true) (hlast : Region.lastT md ops last = true) : ∀ (π : List (Nat × Bool)) (listed : Array Bool) (a : Act) (w : World),
    Region.mixB md ops π listed = true → Region.endsB last π = true → Region.Closed md ops listed → (π = [] ∨ D w) → wpMixL P ops D last Q π a w → wpAnyL P md ops D last Q π.length listed a w
  | [], _, _, _, hB, _, _, _, h => ⟨by simpa [Region.mixB] using hB, h⟩
  | (k, true) :: r, listed, a, w, hB, hE, hcs, hD, h => by
    have hD := hD.resolve_left (by simp)
    simp only [Region.mixB, if_true, Bool.and_eq_true] at hB
    obtain ⟨⟨hr, hf⟩, hB'⟩ := hB
    have hkl : k ≠ last ∧ Region.endsB last r = true := by
      cases r with
      | nil => simpa [Region.endsB] using hE
      | cons x r => simpa [Region.endsB] using hE
    unfold wpMixL at h
    split at h
    · exact h.elim
    · rename_i o ho
      have hk : ∃ v, YieldsJ P ops D o v a ∧ wpMixL P ops D last Q r (a.put o.dst v) w := by
        split at h
        · rename_i hw; obtain ⟨v, h1, h2⟩ := h; exact ⟨v, .inl ⟨hw, h1⟩, h2⟩
        · rename_i hw; exact ⟨undef, .inr ⟨by simpa using hw, rfl⟩, h⟩
      obtain ⟨v, hy, h2⟩ := hk
      exact wpAnyT_first hcl ho (Region.noSelect_spec hsel) hlast hkl.1 r.length listed a w (Region.free_spec ho hf) (by simpa using hr) hcs hy hD (wpAnyT_mix hcl hsel hlast r _ _ w hB' hkl.2 (hcs.set (by simpa using hr)) (.inr hD) h2)
  | (k, false) :: r, listed, a, w, hB, hE, hcs, hD, h => by
    simp only [Region.mixB, Bool.false_eq_true, if_false, Bool.and_eq_true, decide_eq_true_eq] at hB
    obtain ⟨hr, hB'⟩ := hB
    have hE' : Region.endsB last r = true ∧ (r = [] ∨ k ≠ last) := by
      cases r with
      | nil => simp [Region.endsB]
      | cons x r => simp only [Region.endsB, Bool.and_eq_true, bne_iff_ne] at hE; exact ⟨hE.2, .inr hE.1⟩
    unfold wpMixL at h
    refine ⟨fun h0 => (by rw [hr] at h0; cases h0), fun i hi w' hw' => ?_⟩
    rw [hr] at hi
    obtain rfl : i = k := by simpa using hi
    exact wpE_mono (fun a' w'' h' => ⟨h'.1, wpAnyT_mix hcl hsel hlast r _ a' w'' hB' hE'.1 (hcs.set (by rw [hr]; simp)) (hE'.2.elim .inl fun hne => .inr (h'.1.resolve_left hne)) h'.2⟩) (h w' hw')
theorem wp_region_mixn {id : Nat} {Q : Exit → Act → World → Prop} {a : Act} {w1 : World} {l : List Oper} (w : World) (last : Nat) (π : List (Nat × Bool)) (hm : P.follows .mixedOrders = true)
    (hB : (Region.noSelect l.toArray && decide (π.length = l.length) && Region.mixB .any l.toArray π (Array.replicate l.length false) && Region.lastT .any l.toArray last && Region.endsB last π) = true) (hj : Junk w w1)
    (h : wpMixL P l.toArray (fun w' => ∃ x : Jk, w' = w.junk x.os x.d) last (fun a' w' => Q .normal a' w') π a w1.drew) : (Code.region id l.toArray true).wp P Q a w1 := by
  simp only [Bool.and_eq_true, decide_eq_true_eq] at hB
  refine wp_region_any hm (wpAny_of_L (D := fun w' => ∃ x : Jk, w' = w.junk x.os x.d) (last := last) (Q := fun a' w' => Q .normal a' w') (fun _ _ h => h) _ _ _ _ ?_)
  have := wpAnyT_mix (P := P) (md := .any) (D := fun w' => ∃ x : Jk, w' = w.junk x.os x.d) (last := last) (fun _ _ h1 h2 => InJunk.on (w := w) h1 h2) hB.1.1.1.1 hB.1.2 π _ a w1.drew hB.1.1.2 hB.2 (Region.Closed.none _) (.inr hj.drew.pair) h
  rw [hB.1.1.1.2] at this
  simpa using this
end
end Go
set_option linter.unusedVariables false
set_option maxRecDepth 100000
namespace Go
section
variable {P : Program} {ops : Array Oper} {md : Region.Mode} {D : World → Prop} {late : List Nat}
def Region.lateT (md : Region.Mode) (ops : Array Oper) (late : List Nat) : Bool := late.all fun t => (List.range ops.size).all fun i => late.contains i || Region.downB md ops ops.size i t
theorem Region.lateT_spec (h : Region.lateT md ops late = true) {t : Nat} (ht : t ∈ late) {listed : Array Bool} {i : Nat} (hc : Region.Closed md ops listed) (hr : t ∈ Region.ready md ops listed) (hi : i ∉ late) (his : i < ops.size) : listed.getD i false = true := by
  unfold Region.lateT at h
  obtain ⟨_, o, ho, hall⟩ := mem_ready.1 hr
  simp only [List.all_eq_true, List.mem_range, Bool.or_eq_true, List.contains_eq_mem, decide_eq_true_eq] at h
  rcases h t ht i his with h1 | h1
  · exact absurd h1 hi
  · refine Region.downB_listed hc _ t (fun o' ho' e he hb => ?_) h1
    rw [ho] at ho'
    cases ho'
    exact hall e he hb
/-- An order in which nothing quiet comes behind a late operation. -/
def Region.endsM (late : List Nat) : List (Nat × Bool) → Bool
  | [] => true
  | (k, q) :: r => (if q then !late.contains k else (!late.contains k || r.all (fun x => !x.2))) && Region.endsM late r
def wpAnyM (P : Program) (md : Region.Mode) (ops : Array Oper) (D : World → Prop) (late : List Nat) (Q : Act → World → Prop) : Nat → Array Bool → Act → World → Prop
  | 0, listed, a, w => Region.ready md ops listed = [] ∧ ∀ w', Junk w w' → Q a w'
  | f + 1, listed, a, w => (Region.ready md ops listed = [] → ∀ w', Junk w w' → Q a w') ∧
    ∀ i ∈ Region.ready md ops listed, ∀ w', Junk w w' → wpE P ops i (fun a' w'' => (i ∈ late ∨ D w'') ∧ wpAnyM P md ops D late Q f (listed.setIfInBounds i true) a' w'') a w'
theorem wpAnyM_junk {Q : Act → World → Prop} : ∀ {f : Nat} {listed : Array Bool} {a : Act} {w w' : World}, Junk w w' → wpAnyM P md ops D late Q f listed a w → wpAnyM P md ops D late Q f listed a w'
  | 0, _, _, _, _, hj, h => ⟨h.1, fun _ h' => h.2 _ (hj.trans h')⟩
  | _ + 1, _, _, _, _, hj, h => ⟨fun h0 _ h' => h.1 h0 _ (hj.trans h'), fun i hi _ h' => h.2 i hi _ (hj.trans h')⟩
theorem wpAny_of_M {Q : Act → World → Prop} {Q' : Exit → Act → World → Prop} (hQ : ∀ a w, Q a w → Q' .normal a w) : ∀ (f : Nat) (listed : Array Bool) (a : Act) (w : World), wpAnyM P md ops D late Q f listed a w → wpAny P md ops Q' f listed a w
  | 0, _, _, _, h => ⟨h.1, hQ _ _ (h.2 _ (Junk.refl _))⟩
  | f + 1, _, _, _, h => ⟨fun h0 => hQ _ _ (h.1 h0 _ (Junk.refl _)), fun i hi => wpOp_mono (fun a' w' h' => wpAny_of_M hQ f _ a' w' h'.2) (wpOp_of_wpE (h.2 i hi _ (Junk.refl _)))⟩
theorem wpAnyM_first (hcl : ∀ w w', D w → Junk w w' → D w') {Q : Act → World → Prop} {i : Nat} {oi : Oper} {v : Value} (hi : ops[i]? = some oi) (hsel : ∀ (j : Nat) (o : Oper) cs b, ops[j]? = some o → o.op ≠ .select cs b) (hlast : Region.lateT md ops late = true) (hil : i ∉ late) :
    ∀ (f : Nat) (listed : Array Bool) (a : Act) (w : World),
      (∀ j oj, ops[j]? = some oj → j ≠ i → listed.getD j true = false → (∀ e ∈ oj.after, Region.binds md e = true → e.on ≠ i) → oi.apart ops oj = true) →
      i ∈ Region.ready md ops listed → Region.Closed md ops listed → YieldsJ P ops D oi v a → D w →
      wpAnyM P md ops D late Q f (listed.setIfInBounds i true) (a.put oi.dst v) w → wpAnyM P md ops D late Q (f + 1) listed a w := by
  intro f
  induction f with
  | zero =>
    intro listed a w _ hr hcs hy hD H
    refine ⟨fun h => (by rw [h] at hr; cases hr), fun j hj w' hw' => ?_⟩
    by_cases hji : j = i
    · subst hji; exact hy.wpE hi (hcl _ _ hD hw') fun w'' hw'' => ⟨.inr (hcl _ _ (hcl _ _ hD hw') hw''), wpAnyM_junk (hw'.trans hw'') H⟩
    · have := ready_mono hj hji
      rw [H.1] at this
      cases this
  | succ f ih =>
    intro listed a w hfree hr hcs hy hD H
    refine ⟨fun h => (by rw [h] at hr; cases hr), fun j hj w' hw' => ?_⟩
    by_cases hji : j = i
    · subst hji; exact hy.wpE hi (hcl _ _ hD hw') fun w'' hw'' => ⟨.inr (hcl _ _ (hcl _ _ hD hw') hw''), wpAnyM_junk (hw'.trans hw'') H⟩
    · have hjl : j ∉ late := fun h => by
        have h0 := (mem_ready.1 hr).1
        have h1 := Region.lateT_spec hlast h hcs hj hil (Array.getElem?_eq_some_iff.1 hi).1
        rcases Nat.lt_or_ge i listed.size with h' | h'
        · simp [h'] at h0 h1; rw [h0] at h1; cases h1
        · simp [Array.getElem?_eq_none h'] at h1
      have h1 := H.2 j (ready_mono hj hji) w' hw'
      obtain ⟨hjun, oj, hoj, hall⟩ := mem_ready.1 hj
      have hnot : ∀ e ∈ oj.after, Region.binds md e = true → e.on ≠ i := fun e he hb heq => by
        have h1 := hall e he hb
        have h0 := (mem_ready.1 hr).1
        rw [heq] at h1
        rcases Nat.lt_or_ge i listed.size with h' | h'
        · simp [h'] at h0 h1; rw [h0] at h1; cases h1
        · simp [Array.getElem?_eq_none h'] at h1
      have h2 := wpE_put hoj (hfree j oj hoj hji hjun hnot) (fun cs b => hsel i oi cs b hi) (fun cs b => hsel j oj cs b hoj) hy h1
      have hfree' : ∀ k ok, ops[k]? = some ok → k ≠ i → (listed.setIfInBounds j true).getD k true = false →
          (∀ e ∈ ok.after, Region.binds md e = true → e.on ≠ i) → oi.apart ops ok = true := fun k ok hk hki hun hno => by
        refine hfree k ok hk hki ?_ hno
        by_cases hjk : j = k
        · subst hjk; exact hjun
        · rw [getD_set_ne true hjk] at hun; exact hun
      refine wpE_mono (fun a' w'' h3 => ⟨h3.2.1, ih (listed.setIfInBounds j true) a' w'' hfree' (ready_mono hr (Ne.symm hji)) (hcs.set hj) h3.1 (h3.2.1.resolve_left hjl) ?_⟩) h2
      rw [Array.setIfInBounds_comm _ _ hji]
      exact h3.2.2
def wpMixM (P : Program) (ops : Array Oper) (D : World → Prop) (late : List Nat) (Q : Act → World → Prop) : List (Nat × Bool) → Act → World → Prop
  | [], a, w => ∀ w', Junk w w' → Q a w'
  | (k, true) :: r, a, w => match ops[k]? with
    | none => False
    | some o => if Region.wanted o (yielded ops a.tmps) then ∃ v, (∀ w, D w → o.quietAt P a (Junk w) w v) ∧ wpMixM P ops D late Q r (a.put o.dst v) w else wpMixM P ops D late Q r (a.put o.dst undef) w
  | (k, false) :: r, a, w => ∀ w', Junk w w' → wpE P ops k (fun a' w'' => (k ∈ late ∨ D w'') ∧ wpMixM P ops D late Q r a' w'') a w'
theorem wpMixM_q {Q : Act → World → Prop} {k : Nat} {r : List (Nat × Bool)} {o : Oper} {a : Act} {w : World} (ho : ops[k]? = some o)
    (h : ∀ K : Act → Prop, (∀ a, wpMixM P ops D late Q r a w → K a) → if Region.wanted o (yielded ops a.tmps) then ∃ v, (∀ w, D w → o.quietAt P a (Junk w) w v) ∧ K (a.put o.dst v) else K (a.put o.dst undef)) :
    wpMixM P ops D late Q ((k, true) :: r) a w := by
  unfold wpMixM
  simp only [ho]
  exact h _ (fun _ h => h)
theorem wpMixM_e {Q : Act → World → Prop} {k : Nat} {r : List (Nat × Bool)} {o : Oper} {a : Act} {w : World} (ho : ops[k]? = some o)
    (h : ∀ os d, ∀ K : Act → World → Prop, (∀ a w', D w' → wpMixM P ops D late Q r a w' → K a w') → if Region.wanted o (yielded ops a.tmps) then o.wp P a (w.junk os d) K NoExit else K (a.put o.dst undef) (w.junk os d)) :
    wpMixM P ops D late Q ((k, false) :: r) a w := by
  unfold wpMixM
  rintro w' ⟨os, d, rfl⟩
  unfold wpE
  simp only [ho]
  exact h os d _ (fun _ _ hd h => ⟨.inr hd, h⟩)
theorem wpMixM_late {Q : Act → World → Prop} {k : Nat} {o : Oper} {r : List (Nat × Bool)} {a : Act} {w : World} (hk : late.contains k = true) (ho : ops[k]? = some o)
    (h : ∀ os d, ∀ K : Act → World → Prop, (∀ a w', wpMixM P ops D late Q r a w' → K a w') → if Region.wanted o (yielded ops a.tmps) then o.wp P a (w.junk os d) K NoExit else K (a.put o.dst undef) (w.junk os d)) :
    wpMixM P ops D late Q ((k, false) :: r) a w := by
  unfold wpMixM
  rintro w' ⟨os, d, rfl⟩
  unfold wpE
  simp only [ho]
  exact h os d _ (fun _ _ h => ⟨.inl (by simpa using hk), h⟩)
theorem wpMixM_nil {Q : Act → World → Prop} {a : Act} {w : World} (h : ∀ os d, Q a (w.junk os d)) : wpMixM P ops D late Q [] a w := by
  rintro w' ⟨os, d, rfl⟩
  exact h os d
theorem wpMixM_e1 {Q : Act → World → Prop} {k : Nat} {r : List (Nat × Bool)} {o : Oper} {a : Act} {w : World} (ho : ops[k]? = some o) (hg : o.guard = none)
    (h : ∀ os d, ∀ K : Act → World → Prop, (∀ a w', D w' → wpMixM P ops D late Q r a w' → K a w') → o.wp P a (w.junk os d) K NoExit) :
    wpMixM P ops D late Q ((k, false) :: r) a w :=
  wpMixM_e ho fun os d K hK => by
    have hw : Region.wanted o (yielded ops a.tmps) = true := by simp [Region.wanted, hg]
    rw [if_pos hw]
    exact h os d K hK
/-- An order in which the last one comes last, if at all as an effect. -/
theorem wpAnyM_mix (hcl : ∀ w w', D w → Junk w w' → D w') {Q : Act → World → Prop} (hsel : Region.noSelect ops = true) (hlast : Region.lateT md ops late = true) : ∀ (π : List (Nat × Bool)) (listed : Array Bool) (a : Act) (w : World),
    Region.mixB md ops π listed = true → Region.endsM late π = true → Region.Closed md ops listed → (π.all (fun x => !x.2) = true ∨ D w) → wpMixM P ops D late Q π a w → wpAnyM P md ops D late Q π.length listed a w
  | [], _, _, _, hB, _, _, _, h => ⟨by simpa [Region.mixB] using hB, h⟩
  | (k, true) :: r, listed, a, w, hB, hE, hcs, hD, h => by
    have hD := hD.resolve_left (by simp)
    simp only [Region.mixB, if_true, Bool.and_eq_true] at hB
    obtain ⟨⟨hr, hf⟩, hB'⟩ := hB
    have hkl : k ∉ late ∧ Region.endsM late r = true := by
      simp only [Region.endsM, if_true, Bool.and_eq_true, Bool.not_eq_true', List.contains_eq_mem, decide_eq_false_iff_not] at hE
      exact hE
    unfold wpMixM at h
    split at h
    · exact h.elim
    · rename_i o ho
      have hk : ∃ v, YieldsJ P ops D o v a ∧ wpMixM P ops D late Q r (a.put o.dst v) w := by
        split at h
        · rename_i hw; obtain ⟨v, h1, h2⟩ := h; exact ⟨v, .inl ⟨hw, h1⟩, h2⟩
        · rename_i hw; exact ⟨undef, .inr ⟨by simpa using hw, rfl⟩, h⟩
      obtain ⟨v, hy, h2⟩ := hk
      exact wpAnyM_first hcl ho (Region.noSelect_spec hsel) hlast hkl.1 r.length listed a w (Region.free_spec ho hf) (by simpa using hr) hcs hy hD (wpAnyM_mix hcl hsel hlast r _ _ w hB' hkl.2 (hcs.set (by simpa using hr)) (.inr hD) h2)
  | (k, false) :: r, listed, a, w, hB, hE, hcs, hD, h => by
    simp only [Region.mixB, Bool.false_eq_true, if_false, Bool.and_eq_true, decide_eq_true_eq] at hB
    obtain ⟨hr, hB'⟩ := hB
    have hE' : Region.endsM late r = true ∧ (r.all (fun x => !x.2) = true ∨ k ∉ late) := by
      simp only [Region.endsM, Bool.false_eq_true, if_false, Bool.and_eq_true, Bool.or_eq_true, Bool.not_eq_true', List.contains_eq_mem, decide_eq_false_iff_not] at hE
      exact ⟨hE.2, hE.1.symm⟩
    unfold wpMixM at h
    refine ⟨fun h0 => (by rw [hr] at h0; cases h0), fun i hi w' hw' => ?_⟩
    rw [hr] at hi
    obtain rfl : i = k := by simpa using hi
    exact wpE_mono (fun a' w'' h' => ⟨h'.1, wpAnyM_mix hcl hsel hlast r _ a' w'' hB' hE'.1 (hcs.set (by rw [hr]; simp)) (hE'.2.elim .inl fun hne => .inr (h'.1.resolve_left hne)) h'.2⟩) (h w' hw')
theorem wp_region_mixm {id : Nat} {Q : Exit → Act → World → Prop} {a : Act} {w1 : World} {l : List Oper} (w : World) (late : List Nat) (π : List (Nat × Bool)) (hm : P.follows .mixedOrders = true)
    (hB : (Region.noSelect l.toArray && decide (π.length = l.length) && Region.mixB .any l.toArray π (Array.replicate l.length false) && Region.lateT .any l.toArray late && Region.endsM late π) = true) (hj : Junk w w1)
    (h : wpMixM P l.toArray (fun w' => ∃ x : Jk, w' = w.junk x.os x.d) late (fun a' w' => Q .normal a' w') π a w1.drew) : (Code.region id l.toArray true).wp P Q a w1 := by
  simp only [Bool.and_eq_true, decide_eq_true_eq] at hB
  refine wp_region_any hm (wpAny_of_M (D := fun w' => ∃ x : Jk, w' = w.junk x.os x.d) (late := late) (Q := fun a' w' => Q .normal a' w') (fun _ _ h => h) _ _ _ _ ?_)
  have := wpAnyM_mix (P := P) (md := .any) (D := fun w' => ∃ x : Jk, w' = w.junk x.os x.d) (late := late) (fun _ _ h1 h2 => InJunk.on (w := w) h1 h2) hB.1.1.1.1 hB.1.2 π _ a w1.drew hB.1.1.2 hB.2 (Region.Closed.none _) (.inr hj.drew.pair) h
  rw [hB.1.1.1.2] at this
  simpa using this
end
end Go
set_option linter.unusedVariables false
set_option maxRecDepth 100000
set_option linter.unusedSimpArgs false
namespace Go.Proofs.Ytgjppmkadmfibaa
open Go.RowKit
/-- A packet that is put together, as data. -/
structure Bq where
  src : Int
  dst : Int
  id : Int
  proto : Int
  born : Int
  head : Ip
  first : Bool
  total : Int
  runs : List Od
/-- .. and where it lies. -/
structure Bf where
  src : Int
  dst : Int
  id : Int
  proto : Int
  born : Int
  head : Ip
  first : Bool
  total : Int
  F : List Ot
  ho : Option Addr
  hoc : Nat
  hb : Option Addr
  hbc : Nat
  ro : Option Addr
  rc : Nat
def Bf.q (b : Bf) : Bq := ⟨b.src, b.dst, b.id, b.proto, b.born, b.head, b.first, b.total, b.F.map Ot.d⟩
def Bf.cells (b : Bf) : List Value := [.int .u32 b.src, .int .u32 b.dst, .int .i64 b.id, .int .i64 b.proto, .int .i64 b.born,
  .int .i64 b.head.tos, .int .i64 b.head.id, .bool b.head.df, .bool b.head.mf, .int .i64 b.head.off, .int .i64 b.head.ttl, .int .i64 b.head.proto, .int .u32 b.head.src, .int .u32 b.head.dst, .slice b.ho b.head.ol b.hoc, .slice b.hb b.head.bl b.hbc,
  .bool b.first, .int .i64 b.total, .slice b.ro b.F.length b.rc]
/-- What a buffer's slices hold. -/
structure BfIn (w : World) (b : Bf) : Prop where
  head : IpAt w b.head b.ho b.hoc b.hb b.hbc
  runs : OsAt w b.ro b.F
  nil : b.ro = none → b.F.length = 0 ∧ b.rc = 0
  cap : b.F.length ≤ b.rc
  max : b.rc ≤ maxLen
theorem BfIn.on {w w' : World} {b : Bf} (h : BfIn w b) (hj : Junk w w') : BfIn w' b := ⟨h.head.on hj, h.runs.on hj, h.nil, h.cap, h.max⟩
structure BfWf (b : Bf) : Prop where
  src : 0 ≤ b.src ∧ b.src ≤ 4294967295
  dst : 0 ≤ b.dst ∧ b.dst ≤ 4294967295
  id : -9223372036854775808 ≤ b.id ∧ b.id ≤ 9223372036854775807
  proto : -9223372036854775808 ≤ b.proto ∧ b.proto ≤ 9223372036854775807
  born : -9223372036854775808 ≤ b.born ∧ b.born ≤ 9223372036854775807
  total : -9223372036854775808 ≤ b.total ∧ b.total ≤ 9223372036854775807
  offs : ∀ f ∈ b.F, -9223372036854775808 ≤ f.k ∧ f.k ≤ 9223372036854775807
/-- Buffers in memory. -/
def PlAt (w : World) (oa : Option Addr) (L : List Bf) : Prop := ∀ i b, L[i]? = some b → ∃ g off, oa = some ⟨g, off, none⟩ ∧ g < w.heap.size ∧ (∀ j v, b.cells[j]? = some v → w.cell? ⟨g, off + i * 19 + j, none⟩ = some v) ∧ BfIn w b
theorem PlAt.on {w w' : World} {oa : Option Addr} {L : List Bf} (h : PlAt w oa L) (hj : Junk w w') : PlAt w' oa L := fun i b hb => by
  obtain ⟨g, off, he, hlt, hc, hin⟩ := h i b hb
  have hbl := hj.below (Nat.le_refl _)
  exact ⟨g, off, he, Nat.lt_of_lt_of_le hlt hbl.size, fun j v hv => (hbl.cell (p := ⟨g, _, none⟩) hlt).trans (hc j v hv), hin.on hj⟩
/-- The nineteen cells of a buffer, one by one. -/
theorem cells19 {w : World} {g o : Nat} {b : Bf} (h : ∀ j v, b.cells[j]? = some v → w.cell? ⟨g, o + j, none⟩ = some v) :
    w.cell? ⟨g, o, none⟩ = some (.int .u32 b.src) ∧ w.cell? ⟨g, o + 1, none⟩ = some (.int .u32 b.dst) ∧ w.cell? ⟨g, o + 2, none⟩ = some (.int .i64 b.id) ∧ w.cell? ⟨g, o + 3, none⟩ = some (.int .i64 b.proto) ∧ w.cell? ⟨g, o + 4, none⟩ = some (.int .i64 b.born) ∧
    w.cell? ⟨g, o + 5, none⟩ = some (.int .i64 b.head.tos) ∧ w.cell? ⟨g, o + 6, none⟩ = some (.int .i64 b.head.id) ∧ w.cell? ⟨g, o + 7, none⟩ = some (.bool b.head.df) ∧ w.cell? ⟨g, o + 8, none⟩ = some (.bool b.head.mf) ∧ w.cell? ⟨g, o + 9, none⟩ = some (.int .i64 b.head.off) ∧
    w.cell? ⟨g, o + 10, none⟩ = some (.int .i64 b.head.ttl) ∧ w.cell? ⟨g, o + 11, none⟩ = some (.int .i64 b.head.proto) ∧ w.cell? ⟨g, o + 12, none⟩ = some (.int .u32 b.head.src) ∧ w.cell? ⟨g, o + 13, none⟩ = some (.int .u32 b.head.dst) ∧ w.cell? ⟨g, o + 14, none⟩ = some (.slice b.ho b.head.ol b.hoc) ∧ w.cell? ⟨g, o + 15, none⟩ = some (.slice b.hb b.head.bl b.hbc) ∧
    w.cell? ⟨g, o + 16, none⟩ = some (.bool b.first) ∧ w.cell? ⟨g, o + 17, none⟩ = some (.int .i64 b.total) ∧ w.cell? ⟨g, o + 18, none⟩ = some (.slice b.ro b.F.length b.rc) :=
  ⟨h 0 _ rfl, h 1 _ rfl, h 2 _ rfl, h 3 _ rfl, h 4 _ rfl, h 5 _ rfl, h 6 _ rfl, h 7 _ rfl, h 8 _ rfl, h 9 _ rfl, h 10 _ rfl, h 11 _ rfl, h 12 _ rfl, h 13 _ rfl, h 14 _ rfl, h 15 _ rfl, h 16 _ rfl, h 17 _ rfl, h 18 _ rfl⟩
/-- A whole struct out of cells, into a variable that was just made. -/
theorem run_loadAgg {P : Program} {w : World} {t : TypeId} {g o : Nat} {cs : List Value} (hagg : ∀ w, (isAgg t).run P w = .ok true w) (hsz : ∀ w, (Go.sizeOf t).run P w = .ok cs.length w) (hc : ∀ j v, cs[j]? = some v → w.cell? ⟨g, o + j, none⟩ = some v) :
    (Instr.loadAt t (.pointer (some ⟨g, o, none⟩))).run P w = .ok (.agg cs.toArray) w := by
  have h := run_loadCells_list (P := P) (w := w) ⟨g, o, none⟩ cs (fun j v hv => by rw [Addr.add_lit]; exact hc j v hv)
  simp only [Instr.loadAt, Instr.sureAddr, loadVar, Sem.run_bind, Sem.run_pure, Result.andThen, hagg, hsz, if_true, h]
theorem wpList_loadAgg {P : Program} {ops : Array Oper} {rest : List Oper} {o : Oper} {a : Act} {w : World} {Q : Exit → Act → World → Prop} (hgd : o.guard = none) (t : TypeId) (x : Operand) (ho : o.op = .load t x)
    (hagg : ∀ w, (isAgg t).run P w = .ok true w) (g off : Nat) (cs : List Value) (hsz : ∀ w, (Go.sizeOf t).run P w = .ok cs.length w) (hx : a.eval x = .pointer (some ⟨g, off, none⟩)) (hc : ∀ j v, cs[j]? = some v → w.cell? ⟨g, off + j, none⟩ = some v)
    (h : wpList P ops Q rest (a.put o.dst (.agg cs.toArray)) w) : wpList P ops Q (o :: rest) a w :=
  wpList_plain hgd fun K hK => by
    have hrun := run_loadAgg (P := P) (w := w) hagg hsz hc
    have := hK _ _ h
    unfold Oper.wp
    simp only [execOp, ho, hx, hrun, Sem.run_bind, Sem.run_pure, Result.andThen]
    simpa [Oper.upon] using this
theorem wpList_storeNew {P : Program} {ops : Array Oper} {rest : List Oper} {o : Oper} {a : Act} {w : World} {Q : Exit → Act → World → Prop} (hgd : o.guard = none) (t : TypeId) (x y : Operand) (ho : o.op = .store t x y)
    (c c' : Array Value) (hi : (P.info? t).map (·.size) = some c'.size) (hs : c.size = c'.size) (h1 : c'.all (·.oneCell') = true) (n : Nat) (hn : n = w.heap.size) (hx : a.eval x = .pointer (some ⟨n, 0, none⟩)) (hy : a.eval y = .agg c')
    (h : wpList P ops Q rest (a.put o.dst undef) (w.alloc (.cells c' t))) : wpList P ops Q (o :: rest) a (w.alloc (.cells c t)) :=
  wpList_plain hgd fun K hK => by
    subst hn
    have hrun := run_storeAt_new (P := P) w t c c' hi hs h1
    have := hK _ _ h
    unfold Oper.wp
    simp only [execOp, ho, hx, hy, hrun, Sem.run_bind, Sem.run_pure, Result.andThen]
    simpa [Oper.upon] using this
def heldO (F : List Od) : Nat := (F.map (·.l)).sum
def heldQ (L : List Bq) : Nat := (L.map fun b => heldO b.runs).sum
theorem heldO_take {F : List Od} {i : Nat} {f : Od} (h : F[i]? = some f) : heldO (F.take (i + 1)) = heldO (F.take i) + f.l := by
  unfold heldO
  rw [List.take_add_one, h]
  simp
theorem sum_take_le (l : List Nat) (i : Nat) : (l.take i).sum ≤ l.sum := by
  conv => rhs; rw [← List.take_append_drop i l]
  rw [List.sum_append]
  omega
theorem heldO_take_le (F : List Od) (i : Nat) : heldO (F.take i) ≤ heldO F := by unfold heldO; rw [List.map_take]; exact sum_take_le _ _
theorem heldQ_take {L : List Bq} {i : Nat} {b : Bq} (h : L[i]? = some b) : heldQ (L.take (i + 1)) = heldQ (L.take i) + heldO b.runs := by
  unfold heldQ
  rw [List.take_add_one, h]
  simp
theorem heldQ_take_le (L : List Bq) (i : Nat) : heldQ (L.take i) ≤ heldQ L := by unfold heldQ; rw [List.map_take]; exact sum_take_le _ _
theorem held_bd {L : List Bq} {k m A B : Nat} {b : Bq} {f : Od} (hb : L[k]? = some b) (hf : b.runs[m]? = some f) (hA : A = heldQ (L.take k)) (hB : B = heldO (b.runs.take m)) : A + (B + f.l) ≤ heldQ L := by
  have h1 := heldQ_take_le L (k + 1)
  have h2 := heldO_take_le b.runs (m + 1)
  rw [heldQ_take hb] at h1
  rw [heldO_take hf] at h2
  omega
end Go.Proofs.Ytgjppmkadmfibaa
set_option linter.unusedVariables false
set_option maxRecDepth 100000
set_option linter.unusedSimpArgs false
namespace Go.Proofs.Ytgjppmkadmfibaa
open Go.RowKit
set_option maxHeartbeats 16000000 in
theorem held_any (room life now : Int) (oa : Option Addr) (l c : Nat) (L : List Bf) (w : World) (hP : PlAt w oa L) (hl : L.length = l) (hl2 : l ≤ 1000000) (hs : heldQ (L.map Bf.q) ≤ 1000000000000) (hF : ∀ b ∈ L, b.F.length ≤ 1000000) :
    Calls Try.prog 14 #[.agg #[.int .i64 room, .int .i64 life, .int .i64 now, .slice oa l c]] w fun e w' => e = .returned (.int .i64 (heldQ (L.map Bf.q))) ∧ Junk w w' := by
  have HP := Lib.hid hP
  have HL := Lib.hid hl
  have HF := Lib.hid hF
  have HSM := Lib.hid hs
  clear hP hl hF hs
  go_enter Try.func14, Try.ntmps14
  go_wp2
  go_loopw [3, 11] (fun s i wr => ∃ k A : Nat, k ≤ l ∧ s = .int .i64 (A : Int) ∧ i = .int .i64 (k : Int) ∧ Junk (w.alloc (.cells #[.int .i64 room, .int .i64 life, .int .i64 now, .slice oa l c] 31)) wr ∧ Hid (A = heldQ ((L.map Bf.q).take k))) (fun _ i _ => l + 1 - (intOf i).toNat)
  case atStart => exact ⟨0, 0, by omega, rfl, rfl, Junk.refl _, Lib.hid rfl⟩
  case round =>
    obtain ⟨k, A, hk, rfl, rfl, hj, hA⟩ := hrel
    have HJ := Lib.hid hj
    have HA := Lib.hid hA.out
    clear hj hA
    by_cases hkl : k < l
    · have hkl2 : (k : Int) < (l : Int) := by omega
      have pk := wrapk_i64 ((k : Int) + 1) (by omega) (by omega)
      obtain ⟨b, hb⟩ : ∃ b, L[k]? = some b := ⟨_, List.getElem?_eq_getElem (by rw [HL.out]; exact hkl)⟩
      obtain ⟨g, off, hob, hgl, hc, hin⟩ := (HP.out.on ((show Junk w _ by (exact jkc)).trans HJ.out)) k b hb
      have HBQ := Lib.hid (show (L.map Bf.q)[k]? = some b.q by rw [List.getElem?_map, hb]; rfl)
      have hn6 := HF.out b (List.mem_of_getElem? hb)
      obtain ⟨n, hn⟩ : ∃ n, b.F.length = n := ⟨_, rfl⟩
      have HC := Lib.hid (show ∀ j v, ([.int .u32 b.src, .int .u32 b.dst, .int .i64 b.id, .int .i64 b.proto, .int .i64 b.born, .int .i64 b.head.tos, .int .i64 b.head.id, .bool b.head.df, .bool b.head.mf, .int .i64 b.head.off, .int .i64 b.head.ttl, .int .i64 b.head.proto, .int .u32 b.head.src, .int .u32 b.head.dst, .slice b.ho b.head.ol b.hoc, .slice b.hb b.head.bl b.hbc, .bool b.first, .int .i64 b.total, .slice b.ro n b.rc])[j]? = some v → wr.cell? ⟨g, off + k * 19 + j, none⟩ = some v from by rw [← hn]; exact hc)
      rw [hn] at hn6
      have HN := Lib.hid hn
      have HIN := Lib.hid hin
      subst hob
      clear hc hin hb hn
      go_wp2_with (first | ((with_reducible show wpList _ _ _ _ _ _); refine wpList_loadAgg rfl 45 _ rfl Try.isAgg45 g (off + k * 19) [.int .u32 b.src, .int .u32 b.dst, .int .i64 b.id, .int .i64 b.proto, .int .i64 b.born, .int .i64 b.head.tos, .int .i64 b.head.id, .bool b.head.df, .bool b.head.mf, .int .i64 b.head.off, .int .i64 b.head.ttl, .int .i64 b.head.proto, .int .u32 b.head.src, .int .u32 b.head.dst, .slice b.ho b.head.ol b.hoc, .slice b.hb b.head.bl b.hbc, .bool b.first, .int .i64 b.total, .slice b.ro n b.rc] Try.sizeOf45 rfl HC.out ?_) | ((with_reducible show wpList _ _ _ _ _ _); refine wpList_storeNew rfl 45 _ _ rfl #[.int .u32 0, .int .u32 0, .int .i64 0, .int .i64 0, .int .i64 0, .int .i64 0, .int .i64 0, .bool false, .bool false, .int .i64 0, .int .i64 0, .int .i64 0, .int .u32 0, .int .u32 0, .slice none 0 0, .slice none 0 0, .bool false, .int .i64 0, .slice none 0 0] #[.int .u32 b.src, .int .u32 b.dst, .int .i64 b.id, .int .i64 b.proto, .int .i64 b.born, .int .i64 b.head.tos, .int .i64 b.head.id, .bool b.head.df, .bool b.head.mf, .int .i64 b.head.off, .int .i64 b.head.ttl, .int .i64 b.head.proto, .int .u32 b.head.src, .int .u32 b.head.dst, .slice b.ho b.head.ol b.hoc, .slice b.hb b.head.bl b.hbc, .bool b.first, .int .i64 b.total, .slice b.ro n b.rc] (show (Try.prog.info? 45).map (·.size) = some 19 from by kernel_rfl) rfl (by simp [Value.oneCell']) _ (by first | rfl | simp) rfl rfl ?_))
      go_loopw [3, 18] (fun s i wq => ∃ m B : Nat, m ≤ n ∧ s = .int .i64 ((A : Int) + (B : Int)) ∧ i = .int .i64 (m : Int) ∧ Junk wr wq ∧ Hid (B = heldO (b.q.runs.take m))) (fun _ i _ => n + 1 - (intOf i).toNat)
      case atStart => exact ⟨0, 0, by omega, by simp, rfl, by (exact jkc), Lib.hid rfl⟩
      case round =>
        obtain ⟨m, B, hm, rfl, rfl, hjq, hB⟩ := hrel
        have HJQ := Lib.hid hjq
        have HB := Lib.hid hB.out
        clear hjq hB
        by_cases hml : m < n
        · have hml2 : (m : Int) < (n : Int) := by omega
          have pm := wrapk_i64 ((m : Int) + 1) (by omega) (by omega)
          obtain ⟨f, hf⟩ : ∃ f, b.F[m]? = some f := ⟨_, List.getElem?_eq_getElem (by rw [HN.out]; exact hml)⟩
          obtain ⟨gx, ox, hox, hgx, d0, d1, _⟩ := (HIN.out.runs.on HJQ.out) m f hf
          have hfq : b.q.runs[m]? = some f.d := by show (b.F.map Ot.d)[m]? = _; rw [List.getElem?_map, hf]; rfl
          have HO := Lib.hid (heldO_take hfq)
          have hbd : A + (B + f.l) ≤ 1000000000000 := Nat.le_trans (held_bd HBQ.out hfq HA.out HB.out) HSM.out
          have pw := wrapk_i64 ((A : Int) + (B : Int) + (f.l : Int)) (by omega) (by omega)
          rw [hox]
          clear hf hfq hbd
          go_wp2
          exact ⟨⟨m + 1, B + f.l, by omega, by go_num, by go_num, HJQ.out.trans (by (exact jkc)), Lib.hid (by rw [HO.out, ← HB.out]; rfl)⟩, by simp [intOf]; omega⟩
        · have hml2 : ¬ (m : Int) < (n : Int) := by omega
          obtain rfl : m = n := by omega
          go_wp2
          exact ⟨⟨k + 1, A + B, by omega, by go_num, by go_num, HJ.out.trans HJQ.out, Lib.hid (by
            rw [heldQ_take HBQ.out, ← HA.out, HB.out, List.take_of_length_le (by show (b.F.map Ot.d).length ≤ m; rw [List.length_map, HN.out]; exact Nat.le_refl _)])⟩, by simp [intOf]; omega⟩
    · have hkl2 : ¬ (k : Int) < (l : Int) := by omega
      obtain rfl : k = l := by omega
      go_wp2
      go_ret
      refine ⟨?_, (show Junk w _ by (exact jkc)).trans HJ.out⟩
      have := HA.out
      rw [List.take_of_length_le (by rw [List.length_map, HL.out]; exact Nat.le_refl _)] at this
      rw [← this]
      rfl
end Go.Proofs.Ytgjppmkadmfibaa
