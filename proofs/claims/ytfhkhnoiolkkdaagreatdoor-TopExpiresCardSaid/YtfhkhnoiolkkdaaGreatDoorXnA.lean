/- Loans in memory; the small contracts of layer 17. -/
import Derived.Test.YtfhkhnoiolkkdaaGreatDoorMixP
import Derived.Test.YtfhkhnoiolkkdaaGreatDoorIpA
import Derived.Lib.Hide
import Derived.Test.YtfhkhnoiolkkdaaGreatDoorTcpA
import Derived.LoopN
set_option linter.unusedVariables false
set_option maxRecDepth 100000
set_option linter.unusedSimpArgs false
namespace Go
section
variable {P : Program} {ops : Array Oper} {md : Region.Mode} {D : World → Prop} {late fl : List Nat} {Le : Array Bool}
def Region.readyF (md : Region.Mode) (ops : Array Oper) (late fl : List Nat) (listed : Array Bool) : List Nat := (Region.ready md ops listed).filter fun i => !late.contains i || fl.all fun k => listed.getD k false
theorem readyF_iff {listed : Array Bool} {i : Nat} : i ∈ Region.readyF md ops late fl listed ↔ i ∈ Region.ready md ops listed ∧ (i ∈ late → ∀ k ∈ fl, listed.getD k false = true) := by
  unfold Region.readyF
  rw [List.mem_filter]
  simp only [Bool.or_eq_true, Bool.not_eq_true', List.contains_eq_mem, decide_eq_false_iff_not, List.all_eq_true]
  constructor
  · rintro ⟨h1, h2⟩
    exact ⟨h1, fun h => h2.resolve_left (fun h3 => h3 h)⟩
  · rintro ⟨h1, h2⟩
    refine ⟨h1, ?_⟩
    by_cases h : i ∈ late
    · exact .inr (h2 h)
    · exact .inl h
theorem getD_put_true {listed : Array Bool} {i j : Nat} (h : listed.getD i false = true) : (listed.setIfInBounds j true).getD i false = true := by
  by_cases hji : j = i
  · subst hji
    rcases Nat.lt_or_ge j listed.size with h' | h'
    · simp [h']
    · simp [Array.getElem?_eq_none h'] at h
  · rw [getD_set_ne false hji]; exact h
theorem readyF_mono {listed : Array Bool} {i j : Nat} (h : j ∈ Region.readyF md ops late fl listed) (hne : j ≠ i) : j ∈ Region.readyF md ops late fl (listed.setIfInBounds i true) := by
  rw [readyF_iff] at h ⊢
  exact ⟨ready_mono h.1 hne, fun hl k hk => getD_put_true (h.2 hl k hk)⟩
def Region.lateF (md : Region.Mode) (ops : Array Oper) (late fl : List Nat) : Bool := late.all fun t => (List.range ops.size).all fun i => late.contains i || fl.contains i || Region.downB md ops ops.size i t
theorem Region.lateF_spec (h : Region.lateF md ops late fl = true) {t : Nat} (ht : t ∈ late) {listed : Array Bool} {i : Nat} (hc : Region.Closed md ops listed) (hr : t ∈ Region.readyF md ops late fl listed) (hi : i ∉ late) (his : i < ops.size) : listed.getD i false = true := by
  unfold Region.lateF at h
  rw [readyF_iff] at hr
  obtain ⟨_, o, ho, hall⟩ := mem_ready.1 hr.1
  simp only [List.all_eq_true, List.mem_range, Bool.or_eq_true, List.contains_eq_mem, decide_eq_true_eq] at h
  rcases h t ht i his with (h1 | h1) | h1
  · exact absurd h1 hi
  · exact hr.2 ht i h1
  · refine Region.downB_listed hc _ t (fun o' ho' e he hb => ?_) h1
    rw [ho] at ho'
    cases ho'
    exact hall e he hb
def wpAnyB (P : Program) (md : Region.Mode) (ops : Array Oper) (late fl : List Nat) (Le : Array Bool) (B : Act → World → Prop) : Nat → Array Bool → Act → World → Prop
  | 0, listed, a, w => listed = Le ∧ ∀ w', Junk w w' → B a w'
  | f + 1, listed, a, w => Region.readyF md ops late fl listed ≠ [] ∧
    ∀ i ∈ Region.readyF md ops late fl listed, i ∉ late ∧ ∀ w', Junk w w' → wpE P ops i (fun a' w'' => Junk w' w'' ∧ wpAnyB P md ops late fl Le B f (listed.setIfInBounds i true) a' w'') a w'
theorem wpAnyB_junk {B : Act → World → Prop} : ∀ {f : Nat} {listed : Array Bool} {a : Act} {w w' : World}, Junk w w' → wpAnyB P md ops late fl Le B f listed a w → wpAnyB P md ops late fl Le B f listed a w'
  | 0, _, _, _, _, hj, h => ⟨h.1, fun _ h' => h.2 _ (hj.trans h')⟩
  | _ + 1, _, _, _, _, hj, h => ⟨h.1, fun i hi => ⟨(h.2 i hi).1, fun _ h' => (h.2 i hi).2 _ (hj.trans h')⟩⟩
theorem wpE_put' {j : Nat} {oi oj : Oper} {v : Value} (hj : ops[j]? = some oj) (hap : oi.apart ops oj = true) (hsj : ∀ cs b, oj.op ≠ .select cs b)
    {K : Act → World → Prop} {a : Act} {w : World} (h : wpE P ops j K a w) : wpE P ops j (fun a' w' => ∃ a0, a' = a0.put oi.dst v ∧ K a0 w') (a.put oi.dst v) w := by
  obtain ⟨h1, h2, h3⟩ := Oper.apart_spec hap
  unfold wpE at *
  simp only [hj] at *
  rw [wanted_put oj a oi.dst v h1]
  split
  · rename_i hw
    simp only [hw, if_true] at h
    unfold Oper.wp at *
    rw [execOp_put oj hsj a oi.dst v h1]
    generalize (execOp a.eval oj).run P w = r at *
    cases r with
    | ok n w' =>
      cases n with
      | enter f args =>
        simp only [Oper.upon] at h ⊢
        refine h.mono fun e w'' he => ?_
        cases e with
        | returned u => exact ⟨_, Act.put_comm a v u h2, he⟩
        | panicked c => exact he.elim
        | outgrown => obtain ⟨_, _, h⟩ := he; exact h.elim
      | value u => exact ⟨_, Act.put_comm a v u h2, h⟩
      | skip => exact ⟨_, Act.put_comm a v undef h2, h⟩
      | defer d =>
        simp only [Oper.upon] at h ⊢
        refine ⟨_, ?_, h⟩
        rw [← Act.put_comm _ v undef h2]
        cases hd : oi.dst <;> simp [Act.put]
      | row r args => exact Rows.mono h fun u w'' he => ⟨_, Act.put_comm a v u h2, he⟩
      | _ => exact h.elim
    | halt x w' => cases x <;> exact h.elim
  · rename_i hw
    simp only [hw] at h
    exact ⟨_, Act.put_comm a v undef h2, h⟩
theorem getD_true_ne {listed : Array Bool} {i j : Nat} (hi : listed.getD i false = true) (hj : j ∈ Region.readyF md ops late fl listed) : j ≠ i := fun e => by
  subst e
  have h0 := (mem_ready.1 (readyF_iff.1 hj).1).1
  rcases Nat.lt_or_ge j listed.size with h' | h'
  · simp [h'] at h0 hi; rw [h0] at hi; cases hi
  · simp [Array.getElem?_eq_none h'] at hi
theorem getD_set_self {listed : Array Bool} {i : Nat} (hr : i ∈ Region.readyF md ops late fl listed) : (listed.setIfInBounds i true).getD i false = true := by
  have h0 := (mem_ready.1 (readyF_iff.1 hr).1).1
  rcases Nat.lt_or_ge i listed.size with h' | h'
  · simp [h']
  · simp [Array.getElem?_eq_none h'] at h0
theorem wpAnyB_put {B : Act → World → Prop} {R : Value → World → Prop} (hR : ∀ v w w', R v w → Junk w w' → R v w') {i : Nat} {oi : Oper} {v : Value} (hsel : ∀ (j : Nat) (o : Oper) cs b, ops[j]? = some o → o.op ≠ .select cs b)
    (hap : ∀ j oj, ops[j]? = some oj → j ≠ i → j ∉ late → oi.apart ops oj = true) :
    ∀ (f : Nat) (listed : Array Bool) (a : Act) (w : World), listed.getD i false = true → R v w →
      wpAnyB P md ops late fl Le (fun a w => ∀ v, R v w → B (a.put oi.dst v) w) f listed a w → wpAnyB P md ops late fl Le B f listed (a.put oi.dst v) w := by
  intro f
  induction f with
  | zero => intro listed a w hi hr h; exact ⟨h.1, fun w' hw' => h.2 w' hw' v (hR _ _ _ hr hw')⟩
  | succ f ih =>
    intro listed a w hi hr h
    refine ⟨h.1, fun j hj => ⟨(h.2 j hj).1, fun w' hw' => ?_⟩⟩
    obtain ⟨-, oj, hoj, -⟩ := mem_ready.1 (readyF_iff.1 hj).1
    refine wpE_mono ?_ (wpE_put' (v := v) hoj (hap j oj hoj (getD_true_ne hi hj) (h.2 j hj).1) (fun cs b => hsel j oj cs b hoj) ((h.2 j hj).2 w' hw'))
    rintro a' w'' ⟨a0, rfl, h1, h2⟩
    exact ⟨h1, ih _ a0 w'' (getD_put_true hi) (hR _ _ _ (hR _ _ _ hr hw') h1) h2⟩
theorem wpAnyB_new (hcl : ∀ w w', D w → Junk w w' → D w') {B : Act → World → Prop} {R : Value → World → Prop} (hR : ∀ v w w', R v w → Junk w w' → R v w') {i : Nat} {oi : Oper} (hi : ops[i]? = some oi) (hsel : ∀ (j : Nat) (o : Oper) cs b, ops[j]? = some o → o.op ≠ .select cs b)
    (hap : ∀ j oj, ops[j]? = some oj → j ≠ i → j ∉ late → oi.apart ops oj = true) (hlast : Region.lateF md ops late fl = true) (hLe : ∀ j ∈ Region.readyF md ops late fl Le, j ∈ late) (hil : i ∉ late)
    (hspec : ∀ a w, D w → wpE P ops i (fun a' w' => ∃ v, a' = a.put oi.dst v ∧ Junk w w' ∧ R v w') a w) :
    ∀ (f : Nat) (listed : Array Bool) (a : Act) (w : World), i ∈ Region.readyF md ops late fl listed → Region.Closed md ops listed → D w →
      wpAnyB P md ops late fl Le (fun a w => ∀ v, R v w → B (a.put oi.dst v) w) f (listed.setIfInBounds i true) a w → wpAnyB P md ops late fl Le B (f + 1) listed a w := by
  have hself : ∀ (f : Nat) (listed : Array Bool) (a : Act) (w : World), i ∈ Region.readyF md ops late fl listed → D w →
      wpAnyB P md ops late fl Le (fun a w => ∀ v, R v w → B (a.put oi.dst v) w) f (listed.setIfInBounds i true) a w → ∀ w', Junk w w' →
      wpE P ops i (fun a' w'' => Junk w' w'' ∧ wpAnyB P md ops late fl Le B f (listed.setIfInBounds i true) a' w'') a w' := fun f listed a w hr hD H w' hw' => by
    refine wpE_mono ?_ (hspec a w' (hcl _ _ hD hw'))
    rintro a' w'' ⟨v, rfl, h1, h2⟩
    exact ⟨h1, wpAnyB_put hR hsel hap f _ a w'' (getD_set_self hr) h2 (wpAnyB_junk (hw'.trans h1) H)⟩
  intro f
  induction f with
  | zero =>
    intro listed a w hr hcs hD H
    refine ⟨fun h => (by rw [h] at hr; cases hr), fun j hj => ?_⟩
    by_cases hji : j = i
    · subst hji; exact ⟨hil, hself 0 listed a w hr hD H⟩
    · have h1 := readyF_mono hj hji
      rw [H.1] at h1
      have h2 := Region.lateF_spec hlast (hLe j h1) hcs hj hil (Array.getElem?_eq_some_iff.1 hi).1
      have h0 := (mem_ready.1 (readyF_iff.1 hr).1).1
      rcases Nat.lt_or_ge i listed.size with h' | h'
      · simp [h'] at h0 h2; rw [h0] at h2; cases h2
      · simp [Array.getElem?_eq_none h'] at h2
  | succ f ih =>
    intro listed a w hr hcs hD H
    refine ⟨fun h => (by rw [h] at hr; cases hr), fun j hj => ?_⟩
    by_cases hji : j = i
    · subst hji; exact ⟨hil, hself _ listed a w hr hD H⟩
    · have h1 := H.2 j (readyF_mono hj hji)
      refine ⟨h1.1, fun w' hw' => wpE_mono (fun a' w'' h3 => ⟨h3.1, ih (listed.setIfInBounds j true) a' w'' (readyF_mono hr (Ne.symm hji)) (hcs.set (readyF_iff.1 hj).1) (hcl _ _ (hcl _ _ hD hw') h3.1) ?_⟩) (h1.2 w' hw')⟩
      rw [Array.setIfInBounds_comm _ _ hji]
      exact h3.2
theorem wpAnyB_first (hcl : ∀ w w', D w → Junk w w' → D w') {B : Act → World → Prop} {i : Nat} {oi : Oper} {v : Value} (hi : ops[i]? = some oi) (hsel : ∀ (j : Nat) (o : Oper) cs b, ops[j]? = some o → o.op ≠ .select cs b) (hlast : Region.lateF md ops late fl = true) (hLe : ∀ j ∈ Region.readyF md ops late fl Le, j ∈ late) (hil : i ∉ late) :
    ∀ (f : Nat) (listed : Array Bool) (a : Act) (w : World),
      (∀ j oj, ops[j]? = some oj → j ≠ i → listed.getD j true = false → (∀ e ∈ oj.after, Region.binds md e = true → e.on ≠ i) → oi.apart ops oj = true) →
      i ∈ Region.readyF md ops late fl listed → Region.Closed md ops listed → YieldsJ P ops D oi v a → D w →
      wpAnyB P md ops late fl Le B f (listed.setIfInBounds i true) (a.put oi.dst v) w → wpAnyB P md ops late fl Le B (f + 1) listed a w := by
  intro f
  induction f with
  | zero =>
    intro listed a w _ hr hcs hy hD H
    refine ⟨fun h => (by rw [h] at hr; cases hr), fun j hj => ?_⟩
    by_cases hji : j = i
    · subst hji; exact ⟨hil, fun w' hw' => hy.wpE hi (hcl _ _ hD hw') fun w'' hw'' => ⟨hw'', wpAnyB_junk (hw'.trans hw'') H⟩⟩
    · have h1 := readyF_mono hj hji
      rw [H.1] at h1
      have h2 := Region.lateF_spec hlast (hLe j h1) hcs hj hil (Array.getElem?_eq_some_iff.1 hi).1
      have h0 := (mem_ready.1 (readyF_iff.1 hr).1).1
      rcases Nat.lt_or_ge i listed.size with h' | h'
      · simp [h'] at h0 h2; rw [h0] at h2; cases h2
      · simp [Array.getElem?_eq_none h'] at h2
  | succ f ih =>
    intro listed a w hfree hr hcs hy hD H
    refine ⟨fun h => (by rw [h] at hr; cases hr), fun j hj => ?_⟩
    by_cases hji : j = i
    · subst hji; exact ⟨hil, fun w' hw' => hy.wpE hi (hcl _ _ hD hw') fun w'' hw'' => ⟨hw'', wpAnyB_junk (hw'.trans hw'') H⟩⟩
    · have h1 := H.2 j (readyF_mono hj hji)
      obtain ⟨hjun, oj, hoj, hall⟩ := mem_ready.1 (readyF_iff.1 hj).1
      have hnot : ∀ e ∈ oj.after, Region.binds md e = true → e.on ≠ i := fun e he hb heq => by
        have h1 := hall e he hb
        have h0 := (mem_ready.1 (readyF_iff.1 hr).1).1
        rw [heq] at h1
        rcases Nat.lt_or_ge i listed.size with h' | h'
        · simp [h'] at h0 h1; rw [h0] at h1; cases h1
        · simp [Array.getElem?_eq_none h'] at h1
      refine ⟨h1.1, fun w' hw' => ?_⟩
      have h2 := wpE_put hoj (hfree j oj hoj hji hjun hnot) (fun cs b => hsel i oi cs b hi) (fun cs b => hsel j oj cs b hoj) hy (h1.2 w' hw')
      have hfree' : ∀ k ok, ops[k]? = some ok → k ≠ i → (listed.setIfInBounds j true).getD k true = false →
          (∀ e ∈ ok.after, Region.binds md e = true → e.on ≠ i) → oi.apart ops ok = true := fun k ok hk hki hun hno => by
        refine hfree k ok hk hki ?_ hno
        by_cases hjk : j = k
        · subst hjk; exact hjun
        · rw [getD_set_ne true hjk] at hun; exact hun
      refine wpE_mono (fun a' w'' h3 => ⟨h3.2.1, ih (listed.setIfInBounds j true) a' w'' hfree' (readyF_mono hr (Ne.symm hji)) (hcs.set (readyF_iff.1 hj).1) h3.1 (hcl _ _ (hcl _ _ hD hw') h3.2.1) ?_⟩) h2
      rw [Array.setIfInBounds_comm _ _ hji]
      exact h3.2.2
def Region.mixBB (md : Region.Mode) (ops : Array Oper) (late fl : List Nat) (Le : Array Bool) : List (Nat × Bool) → Array Bool → Bool
  | [], listed => decide (listed = Le)
  | (k, q) :: r, listed => !late.contains k && (if q then (Region.readyF md ops late fl listed).contains k && Region.free md ops listed k else decide (Region.readyF md ops late fl listed = [k])) && Region.mixBB md ops late fl Le r (listed.setIfInBounds k true)
def wpMixB (P : Program) (ops : Array Oper) (D : World → Prop) (B : Act → World → Prop) : List (Nat × Bool) → Act → World → Prop
  | [], a, w => ∀ w', Junk w w' → B a w'
  | (k, true) :: r, a, w => match ops[k]? with
    | none => False
    | some o => if Region.wanted o (yielded ops a.tmps) then ∃ v, (∀ w, D w → o.quietAt P a (Junk w) w v) ∧ wpMixB P ops D B r (a.put o.dst v) w else wpMixB P ops D B r (a.put o.dst undef) w
  | (k, false) :: r, a, w => ∀ w', Junk w w' → wpE P ops k (fun a' w'' => Junk w' w'' ∧ wpMixB P ops D B r a' w'') a w'
theorem wpMixB_q {B : Act → World → Prop} {k : Nat} {r : List (Nat × Bool)} {o : Oper} {a : Act} {w : World} (ho : ops[k]? = some o)
    (h : ∀ K : Act → Prop, (∀ a, wpMixB P ops D B r a w → K a) → if Region.wanted o (yielded ops a.tmps) then ∃ v, (∀ w, D w → o.quietAt P a (Junk w) w v) ∧ K (a.put o.dst v) else K (a.put o.dst undef)) :
    wpMixB P ops D B ((k, true) :: r) a w := by
  unfold wpMixB
  simp only [ho]
  exact h _ (fun _ h => h)
theorem wpMixB_e {B : Act → World → Prop} {k : Nat} {r : List (Nat × Bool)} {o : Oper} {a : Act} {w : World} (ho : ops[k]? = some o)
    (h : ∀ os d, ∀ K : Act → World → Prop, (∀ a w', Junk (w.junk os d) w' → wpMixB P ops D B r a w' → K a w') → if Region.wanted o (yielded ops a.tmps) then o.wp P a (w.junk os d) K NoExit else K (a.put o.dst undef) (w.junk os d)) :
    wpMixB P ops D B ((k, false) :: r) a w := by
  unfold wpMixB
  rintro w' ⟨os, d, rfl⟩
  unfold wpE
  simp only [ho]
  exact h os d _ (fun _ _ hd h => ⟨hd, h⟩)
theorem wpMixB_nil {B : Act → World → Prop} {a : Act} {w : World} (h : ∀ os d, B a (w.junk os d)) : wpMixB P ops D B [] a w := by
  unfold wpMixB
  rintro w' ⟨os, d, rfl⟩
  exact h os d
theorem wpAnyB_mix (hcl : ∀ w w', D w → Junk w w' → D w') {B : Act → World → Prop} (hsel : Region.noSelect ops = true) (hlast : Region.lateF md ops late fl = true) (hLe : ∀ j ∈ Region.readyF md ops late fl Le, j ∈ late) : ∀ (π : List (Nat × Bool)) (listed : Array Bool) (a : Act) (w : World),
    Region.mixBB md ops late fl Le π listed = true → Region.Closed md ops listed → D w → wpMixB P ops D B π a w → wpAnyB P md ops late fl Le B π.length listed a w
  | [], _, _, _, hB, _, _, h => ⟨by simpa [Region.mixBB] using hB, by unfold wpMixB at h; exact h⟩
  | (k, true) :: r, listed, a, w, hB, hcs, hD, h => by
    simp only [Region.mixBB, if_true, Bool.and_eq_true, Bool.not_eq_true', List.contains_eq_mem, decide_eq_false_iff_not] at hB
    obtain ⟨⟨hkl, hr, hf⟩, hB'⟩ := hB
    unfold wpMixB at h
    split at h
    · exact h.elim
    · rename_i o ho
      have hk : ∃ v, YieldsJ P ops D o v a ∧ wpMixB P ops D B r (a.put o.dst v) w := by
        split at h
        · rename_i hw; obtain ⟨v, h1, h2⟩ := h; exact ⟨v, .inl ⟨hw, h1⟩, h2⟩
        · rename_i hw; exact ⟨undef, .inr ⟨by simpa using hw, rfl⟩, h⟩
      obtain ⟨v, hy, h2⟩ := hk
      have hr' : k ∈ Region.readyF md ops late fl listed := by simpa using hr
      exact wpAnyB_first hcl ho (Region.noSelect_spec hsel) hlast hLe hkl r.length listed a w (Region.free_spec ho hf) hr' hcs hy hD (wpAnyB_mix hcl hsel hlast hLe r _ _ w hB' (hcs.set (readyF_iff.1 hr').1) hD h2)
  | (k, false) :: r, listed, a, w, hB, hcs, hD, h => by
    simp only [Region.mixBB, Bool.false_eq_true, if_false, Bool.and_eq_true, Bool.not_eq_true', List.contains_eq_mem, decide_eq_false_iff_not, decide_eq_true_eq] at hB
    obtain ⟨⟨hkl, hr⟩, hB'⟩ := hB
    unfold wpMixB at h
    refine ⟨by rw [hr]; simp, fun i hi => ?_⟩
    rw [hr] at hi
    obtain rfl : i = k := by simpa using hi
    exact ⟨hkl, fun w' hw' => wpE_mono (fun a' w'' h' => ⟨h'.1, wpAnyB_mix hcl hsel hlast hLe r _ a' w'' hB' (hcs.set (readyF_iff.1 (show i ∈ Region.readyF md ops late fl listed by rw [hr]; simp)).1) (hcl _ _ (hcl _ _ hD hw') h'.1) h'.2⟩) (h w' hw')⟩
def dstOf (ops : Array Oper) (e : Nat) : Option Tmp := match ops[e]? with
  | some o => o.dst
  | none => none
def nestB (ops : Array Oper) (R : Nat → Value → World → Prop) : List Nat → (Act → World → Prop) → Act → World → Prop
  | [], B => B
  | e :: E, B => nestB ops R E fun a w => ∀ v, R e v w → B (a.put (dstOf ops e) v) w
def Region.earlyB (md : Region.Mode) (ops : Array Oper) (late fl : List Nat) : List Nat → Array Bool → Bool
  | [], _ => true
  | e :: E, listed => (Region.readyF md ops late fl listed).contains e && !late.contains e && (match ops[e]? with
      | some oe => (List.range ops.size).all fun j => j == e || late.contains j || match ops[j]? with
        | some oj => oe.apart ops oj
        | none => true
      | none => false) && Region.earlyB md ops late fl E (listed.setIfInBounds e true)
def listAll (E : List Nat) (listed : Array Bool) : Array Bool := E.foldl (fun l e => l.setIfInBounds e true) listed
theorem wpAnyB_news (hcl : ∀ w w', D w → Junk w w' → D w') {R : Nat → Value → World → Prop} (hR : ∀ e v w w', R e v w → Junk w w' → R e v w') (hsel : Region.noSelect ops = true) (hlast : Region.lateF md ops late fl = true) (hLe : ∀ j ∈ Region.readyF md ops late fl Le, j ∈ late) {f : Nat} :
    ∀ (E : List Nat) (B : Act → World → Prop) (listed : Array Bool) (a : Act) (w : World), Region.earlyB md ops late fl E listed = true → Region.Closed md ops listed → D w →
      (∀ e ∈ E, ∀ a w, D w → wpE P ops e (fun a' w' => ∃ v, a' = a.put (dstOf ops e) v ∧ Junk w w' ∧ R e v w') a w) →
      (Region.Closed md ops (listAll E listed) → wpAnyB P md ops late fl Le (nestB ops R E B) f (listAll E listed) a w) → wpAnyB P md ops late fl Le B (f + E.length) listed a w
  | [], B, listed, a, w, _, hcs, _, _, H => H hcs
  | e :: E, B, listed, a, w, hE, hcs, hD, hs, H => by
    simp only [Region.earlyB, Bool.and_eq_true, Bool.not_eq_true', List.contains_eq_mem, decide_eq_false_iff_not, decide_eq_true_eq] at hE
    obtain ⟨⟨⟨hr, hel⟩, hap⟩, hE'⟩ := hE
    obtain ⟨-, oe, ho, -⟩ := mem_ready.1 (readyF_iff.1 hr).1
    simp only [ho, List.all_eq_true, List.mem_range, Bool.or_eq_true, beq_iff_eq, decide_eq_true_eq] at hap
    have hd : dstOf ops e = oe.dst := by unfold dstOf; rw [ho]
    have h1 := wpAnyB_news hcl hR hsel hlast hLe E _ (listed.setIfInBounds e true) a w hE' (hcs.set (readyF_iff.1 hr).1) hD (fun e' he' => hs e' (List.mem_cons_of_mem _ he')) H
    rw [List.length_cons, ← Nat.add_assoc]
    refine wpAnyB_new hcl (R := R e) (hR e) ho (Region.noSelect_spec hsel) (fun j oj hj hne hjl => ?_) hlast hLe hel (fun a w hD => ?_) _ listed a w hr hcs hD ?_
    · have h2 := hap j (Array.getElem?_eq_some_iff.1 hj).1
      rw [hj] at h2
      rcases h2 with (h2 | h2) | h2
      · exact absurd h2 hne
      · exact absurd h2 hjl
      · exact h2
    · have := hs e (List.mem_cons_self ..) a w hD
      rw [hd] at this
      exact this
    · rw [← hd]; exact h1
def NewVar (W0 : World) (L : List (Nat × TypeId × List Value)) (e : Nat) (v : Value) (w : World) : Prop := match L.find? (fun p => p.1 == e) with
  | some p => ∃ r, v = .pointer (some ⟨r, 0, none⟩) ∧ W0.heap.size ≤ r ∧ Box w r p.2.1 p.2.2
  | none => False
theorem NewVar.on {W0 : World} {L : List (Nat × TypeId × List Value)} {e : Nat} {v : Value} {w w' : World} (h : NewVar W0 L e v w) (hj : Junk w w') : NewVar W0 L e v w' := by
  unfold NewVar at *
  split at h
  · obtain ⟨r, h1, h2, h3⟩ := h
    exact ⟨r, h1, h2, h3.on hj⟩
  · exact h
theorem newVar_wpE {W0 : World} {L : List (Nat × TypeId × List Value)} {e : Nat} {o : Oper} {p : Nat × TypeId × List Value} (ho : ops[e]? = some o) (hg : o.guard = none) (hop : o.op = .alloc p.2.1) (hf : L.find? (fun p => p.1 == e) = some p)
    (hal : ∀ w, (Instr.alloc p.2.1 true (.tuple #[])).run P w = .ok (.pointer (some ⟨w.heap.size, 0, none⟩)) (w.alloc (.cells p.2.2.toArray p.2.1))) (a : Act) (w : World) (hj : Junk W0 w) :
    wpE P ops e (fun a' w' => ∃ v, a' = a.put (dstOf ops e) v ∧ Junk w w' ∧ NewVar W0 L e v w') a w := by
  unfold wpE
  have hd : dstOf ops e = o.dst := by unfold dstOf; rw [ho]
  have hw : Region.wanted o (yielded ops a.tmps) = true := by simp [Region.wanted, hg]
  simp only [ho, if_pos hw]
  unfold Oper.wp
  simp only [execOp, hop, hal, Sem.run_bind, Sem.run_pure, Result.andThen, Oper.upon]
  refine ⟨.pointer (some ⟨w.heap.size, 0, none⟩), by rw [hd], (Junk.refl w).alloc _, ?_⟩
  unfold NewVar
  rw [hf]
  exact ⟨_, rfl, hj.size, by have := box_new w p.2.2.toArray p.2.1; simpa using this⟩
def Oper.floats (o : Oper) : Bool := match o.op, o.guard with
  | .move _, none => true
  | .extract _ _, none => true
  | _, _ => false
theorem float_spec {i : Nat} {o : Oper} {a : Act} {w : World} {K : Act → World → Prop} (ho : ops[i]? = some o) (hf : o.floats = true) (h : wpE P ops i K a w) : ∃ v, YieldsJ P ops (fun _ => True) o v a ∧ K (a.put o.dst v) w := by
  unfold wpE at h
  simp only [ho] at h
  unfold Oper.floats at hf
  split at hf
  · rename_i x hop hg
    have hw : Region.wanted o (yielded ops a.tmps) = true := by simp [Region.wanted, hg]
    rw [if_pos hw] at h
    refine ⟨a.eval x, .inl ⟨hw, fun w' _ => ?_⟩, ?_⟩
    · unfold Oper.quietAt Oper.quietUpon
      simp [execOp, hop, Sem.run_pure]
    · unfold Oper.wp at h
      simpa only [execOp, hop, Sem.run_pure, Oper.upon] using h
  · rename_i x k hop hg
    have hw : Region.wanted o (yielded ops a.tmps) = true := by simp [Region.wanted, hg]
    rw [if_pos hw] at h
    unfold Oper.wp at h
    simp only [execOp, hop, Sem.run_bind] at h
    generalize hy : a.eval x = y at h
    cases y
    case tuple vs =>
      cases hv : (vs[k]? : Option Value) with
      | some v =>
        refine ⟨v, .inl ⟨hw, fun w' _ => ?_⟩, ?_⟩
        · unfold Oper.quietAt Oper.quietUpon
          simp [execOp, hop, hy, Instr.extract, hv, Sem.run_bind, Sem.run_pure, Result.andThen]
        · simpa [Instr.extract, hv, Sem.run_pure, Result.andThen, Oper.upon] using h
      | none => simp [Instr.extract, hv, stuck, Result.andThen, Oper.upon, NoExit] at h
    all_goals simp [Instr.extract, stuck, Result.andThen, Oper.upon, NoExit] at h
  · cases hf
def Region.floatB (md : Region.Mode) (ops : Array Oper) (late fl : List Nat) : Bool := fl.all fun i => !late.contains i && match ops[i]? with
  | some o => o.floats && (late.all fun t => o.after.all fun e => !Region.binds md e || Region.downB md ops ops.size e.on t) && (List.range ops.size).all fun j => j == i || Region.downB md ops ops.size j i || match ops[j]? with
    | some oj => oj.after.any (fun e => Region.binds md e && e.on == i) || o.apart ops oj
    | none => true
  | none => false
theorem wpAnyD_of_B {B : Act → World → Prop} {Q : Act → World → Prop} {n : Nat} (hfl : Region.floatB md ops late fl = true) (hsel : ∀ (j : Nat) (o : Oper) cs b, ops[j]? = some o → o.op ≠ .select cs b)
    (hB : ∀ a w, B a w → wpAnyD P md ops (fun _ => True) Q n Le a w) : ∀ (f : Nat) (listed : Array Bool) (a : Act) (w : World), Region.Closed md ops listed → listed.size = ops.size → wpAnyB P md ops late fl Le B f listed a w → wpAnyD P md ops (fun _ => True) Q (f + n) listed a w
  | 0, _, _, _, _, _, h => by
    obtain ⟨rfl, h2⟩ := h
    rw [Nat.zero_add]
    exact hB _ _ (h2 _ (Junk.refl _))
  | f + 1, listed, a, w, hcs, hsz, h => by
    have hspec : ∀ i ∈ fl, i ∉ late ∧ ∃ o, ops[i]? = some o ∧ o.floats = true ∧ (∀ t ∈ late, ∀ e ∈ o.after, Region.binds md e = true → Region.downB md ops ops.size e.on t = true) ∧
        ∀ j oj, ops[j]? = some oj → j ≠ i → Region.downB md ops ops.size j i = false → (∀ e ∈ oj.after, Region.binds md e = true → e.on ≠ i) → o.apart ops oj = true := fun i hi => by
      have h1 := List.all_eq_true.1 hfl i hi
      simp only [Bool.and_eq_true, Bool.not_eq_true', List.contains_eq_mem, decide_eq_false_iff_not] at h1
      refine ⟨h1.1, ?_⟩
      have h2 := h1.2
      split at h2
      · rename_i o ho
        simp only [Bool.and_eq_true, List.all_eq_true, Array.all_eq_true_iff_forall_mem, Bool.or_eq_true, Bool.not_eq_true', List.mem_range, beq_iff_eq] at h2
        refine ⟨o, ho, h2.1.1, fun t ht e he hb => ?_, fun j oj hj hne hdn hno => ?_⟩
        · rcases h2.1.2 t ht e he with h3 | h3
          · rw [hb] at h3; cases h3
          · exact h3
        · have h3 := h2.2 j (Array.getElem?_eq_some_iff.1 hj).1
          rw [hj] at h3
          rcases h3 with (h3 | h3) | h3
          · exact absurd h3 hne
          · rw [hdn] at h3; cases h3
          · simp only [Bool.or_eq_true] at h3
            rcases h3 with h3 | h3
            · obtain ⟨e, he, hb⟩ := Array.any_eq_true'.1 h3
              simp only [Bool.and_eq_true, beq_iff_eq] at hb
              exact absurd hb.2 (hno e he hb.1)
            · exact h3
      · cases h2
    have hsz' : ∀ i, (listed.setIfInBounds i true).size = ops.size := fun i => by simpa using hsz
    rw [show f + 1 + n = (f + n) + 1 by omega]
    by_cases hx : ∃ i, i ∈ fl ∧ i ∈ Region.ready md ops listed
    · obtain ⟨i, hif, hir⟩ := hx
      obtain ⟨hil, o, ho, hof, _, hap⟩ := hspec i hif
      have hρ : i ∈ Region.readyF md ops late fl listed := readyF_iff.2 ⟨hir, fun hl => absurd hl hil⟩
      obtain ⟨v, hy, hj, h2⟩ := float_spec ho hof ((h.2 i hρ).2 w (Junk.refl _))
      refine wpAnyD_first (D := fun _ => True) (fun _ _ _ _ => trivial) ho hsel (f + n) listed a w (fun j oj hj hne hun hno => ?_) hir hy trivial (wpAnyD_of_B hfl hsel hB f _ _ w (hcs.set hir) (hsz' i) h2)
      refine hap j oj hj hne ?_ hno
      cases hd : Region.downB md ops ops.size j i with
      | false => rfl
      | true =>
        obtain ⟨_, o', ho', hall⟩ := mem_ready.1 hir
        have h3 := Region.downB_listed hcs ops.size i (fun o'' ho'' e he hb => by rw [ho'] at ho''; cases ho''; exact hall e he hb) hd
        rcases Nat.lt_or_ge j listed.size with h' | h'
        · simp [h'] at hun h3; rw [hun] at h3; cases h3
        · simp [Array.getElem?_eq_none h'] at h3
    · refine ⟨fun h0 => absurd ?_ h.1, fun j hj w' hw' => ?_⟩
      · unfold Region.readyF; rw [h0]; rfl
      · have hρ : j ∈ Region.readyF md ops late fl listed := readyF_iff.2 ⟨hj, fun hl k hk => by
          obtain ⟨_, o, ho, _, hdn, _⟩ := hspec k hk
          cases hg : listed.getD k false with
          | true => rfl
          | false =>
            refine absurd ⟨k, hk, mem_ready.2 ⟨?_, o, ho, fun e he hb => ?_⟩⟩ hx
            · have hk' : k < listed.size := by rw [hsz]; exact (Array.getElem?_eq_some_iff.1 ho).1
              simp [hk'] at hg ⊢; exact hg
            · obtain ⟨_, o', ho', hall⟩ := mem_ready.1 hj
              exact Region.downB_listed hcs ops.size j (fun o'' ho'' e he hb => by rw [ho'] at ho''; cases ho''; exact hall e he hb) (hdn j hl e he hb)⟩
        exact wpE_mono (fun a' w'' h' => ⟨trivial, wpAnyD_of_B hfl hsel hB f _ a' w'' (hcs.set hj) (hsz' j) h'.2⟩) ((h.2 j hρ).2 w' hw')
theorem wp_region_mixa {id : Nat} {Q : Exit → Act → World → Prop} {a : Act} {w1 : World} {l : List Oper} (W0 : World) (L : List (Nat × TypeId × List Value)) (late fl : List Nat) (Le : Array Bool) (π π2 : List (Nat × Bool)) (hm : P.follows .mixedOrders = true)
    (hB : (Region.noSelect l.toArray && decide (L.length + π.length + π2.length = l.length) && Region.earlyB .any l.toArray late fl (L.map Prod.fst) (Array.replicate l.length false) && Region.mixBB .any l.toArray late fl Le π (listAll (L.map Prod.fst) (Array.replicate l.length false))
      && Region.lateF .any l.toArray late fl && (Region.readyF .any l.toArray late fl Le).all late.contains && Region.mixB .any l.toArray π2 Le && Region.floatB .any l.toArray late fl) = true)
    (hj : Junk W0 w1) (hL : ∀ e ∈ L.map Prod.fst, ∀ a w, Junk W0 w → wpE P l.toArray e (fun a' w' => ∃ v, a' = a.put (dstOf l.toArray e) v ∧ Junk w w' ∧ NewVar W0 L e v w') a w)
    (h : wpMixB P l.toArray (fun w' => ∃ x : Jk, w' = W0.junk x.os x.d) (nestB l.toArray (NewVar W0 L) (L.map Prod.fst) fun a w => wpMix P l.toArray (fun _ => True) (fun a' w' => Q .normal a' w') π2 a w) π a w1.drew) : (Code.region id l.toArray true).wp P Q a w1 := by
  simp only [Bool.and_eq_true, decide_eq_true_eq] at hB
  obtain ⟨⟨⟨⟨⟨⟨⟨hsel, hlen⟩, hE⟩, hπ⟩, hlast⟩, hLe0⟩, hπ2⟩, hfl⟩ := hB
  have hLe : ∀ j ∈ Region.readyF .any l.toArray late fl Le, j ∈ late := fun j hj => by
    have := List.all_eq_true.1 hLe0 j hj
    simpa using this
  have hcl : ∀ w w' : World, (∃ x : Jk, w = W0.junk x.os x.d) → Junk w w' → ∃ x : Jk, w' = W0.junk x.os x.d := fun _ _ h1 h2 => InJunk.on (w := W0) h1 h2
  have hcE : ∀ (E : List Nat) (listed : Array Bool), Region.earlyB .any l.toArray late fl E listed = true → Region.Closed .any l.toArray listed → Region.Closed .any l.toArray (listAll E listed) := by
    intro E
    induction E with
    | nil => intro listed _ h; exact h
    | cons e E ih =>
      intro listed hE hc
      simp only [Region.earlyB, Bool.and_eq_true, List.contains_eq_mem, decide_eq_true_eq] at hE
      exact ih _ hE.2 (hc.set (readyF_iff.1 hE.1.1.1).1)
  have hjd : ∃ x : Jk, w1.drew = W0.junk x.os x.d := hj.drew.pair
  refine wp_region_any hm (wpAny_of_D (D := fun _ => True) (Q := fun a' w' => Q .normal a' w') (fun _ _ h => h) _ _ _ _ ?_)
  have h1 := wpAnyB_mix (P := P) (md := .any) (B := nestB l.toArray (NewVar W0 L) (L.map Prod.fst) fun a w => wpMix P l.toArray (fun _ => True) (fun a' w' => Q .normal a' w') π2 a w) hcl hsel hlast hLe π (listAll (L.map Prod.fst) (Array.replicate l.length false)) a w1.drew hπ (hcE _ _ hE (Region.Closed.none _)) hjd h
  have h2 := wpAnyB_news (P := P) (md := .any) hcl (R := NewVar W0 L) (fun _ _ _ _ h hj => h.on hj) hsel hlast hLe (L.map Prod.fst) (fun a w => wpMix P l.toArray (fun _ => True) (fun a' w' => Q .normal a' w') π2 a w) (Array.replicate l.length false) a w1.drew hE (Region.Closed.none _) hjd
    (fun e he a w hD => hL e he a w (by obtain ⟨x, rfl⟩ := hD; exact ⟨_, _, rfl⟩)) (fun _ => h1)
  have h3 := wpAnyD_of_B (P := P) (md := .any) (n := π2.length) hfl (Region.noSelect_spec hsel) (fun a w hb => wpAnyD_mix (P := P) (md := .any) (D := fun _ => True) (fun _ _ _ _ => trivial) hsel π2 Le a w hπ2 trivial hb) _ _ _ _ (Region.Closed.none _) (by simp) h2
  rw [List.length_map, show π.length + L.length + π2.length = l.length by omega] at h3
  simpa using h3
end
end Go
set_option linter.unusedVariables false
set_option maxRecDepth 100000
set_option linter.unusedSimpArgs false
namespace Go.Proofs.YtfhkhnoiolkkdaaGreatDoor
open Go.RowKit
def rightB (lo hi : Int) : Bool := decide (1 ≤ lo ∧ lo ≤ hi ∧ hi ≤ 65535)
theorem pright_any (lo hi : Int) (w : World) : Calls Tryz.prog 285 #[.int .i64 lo, .int .i64 hi] w fun e w' => e = .returned (.bool (rightB lo hi)) ∧ w = w' := by
  by_cases h1 : 1 ≤ lo
  case neg =>
    go_enter Tryz.func285, Tryz.ntmps285
    go_wp2
    go_ret
    exact ⟨ret_bool (by simp [rightB]; omega), rfl⟩
  by_cases h2 : lo ≤ hi
  case neg =>
    go_enter Tryz.func285, Tryz.ntmps285
    go_wp2
    go_ret
    exact ⟨ret_bool (by simp [rightB]; omega), rfl⟩
  go_enter Tryz.func285, Tryz.ntmps285
  go_wp2
  go_ret
  exact ⟨ret_bool (by simp [rightB, h1, h2]), rfl⟩
structure Marks (w : World) (g : Nat) (W : Nat → Nat) : Prop where
  lt : g < w.heap.size
  cell : ∀ i, i < 1024 → w.cell? ⟨g, i, none⟩ = some (.int .u64 (W i : Int))
  word : ∀ i, W i < 18446744073709551616
def markB (W : Nat → Nat) (p : Nat) : Bool := (W (p / 64)).testBit (p % 64)
theorem mark_read (x k : Nat) (hx : x < 18446744073709551616) : (bits .and .u64 ((x : Int) / 2 ^ k) 1 == 0) = !x.testBit k := by
  have e : ((x : Int) / 2 ^ k) = ((x / 2 ^ k : Nat) : Int) := by simp
  have hlt : x / 2 ^ k ≤ x := Nat.div_le_self _ _
  rw [Nat.testBit_eq_decide_div_mod_eq, e]
  generalize x / 2 ^ k = y at hlt ⊢
  rw [and_u64_1 _ (by omega) (by omega)]
  rw [Bool.eq_iff_iff]
  simp
  omega
theorem free_any (g : Nat) (W : Nat → Nat) (p : Nat) (w : World) (hM : Marks w g W) (hp : p < 65536) :
    Calls Tryz.prog 290 #[.pointer (some ⟨g, 0, none⟩), .int .i64 (p : Int)] w fun e w' => e = .returned (.bool (!markB W p)) ∧ w = w' := by
  have hlt := hM.lt
  have hc := hM.cell (p / 64) (by omega)
  have hw := hM.word (p / 64)
  obtain ⟨i, hi⟩ : ∃ i, i = p / 64 := ⟨_, rfl⟩
  obtain ⟨k, hk⟩ : ∃ k, k = p % 64 := ⟨_, rfl⟩
  have e1 : (p : Int) / 64 = (i : Int) := by omega
  have e2 : (p : Int) % 64 = (k : Int) := by omega
  rw [← hi] at hc hw
  have hk9 : k < 64 := by omega
  have hi9 : i < 1024 := by omega
  have HI := Lib.hid hi
  have HK := Lib.hid hk
  have HM := Lib.hid hM
  clear hi hk hM
  have hi8 : (i : Int) < 1024 := by omega
  have hk8 : (k : Int) < 64 := by omega
  go_enter Tryz.func290, Tryz.ntmps290
  go_wp2
  go_ret
  exact ⟨ret_bool (by rw [mark_read _ _ hw]; unfold markB; rw [← HI.out, ← HK.out]), rfl⟩
def portsL (F : Nat → Bool) (step hi : Nat) : Nat → Nat → List Nat
  | 0, _ => []
  | n + 1, p => if p ≤ hi then (if F p then portsL F step hi n (p + step) else p :: portsL F step hi n (p + step)) else []
theorem portsL_more (F : Nat → Bool) (step hi : Nat) (hs : 0 < step) : ∀ n p, hi + 1 ≤ n + p → portsL F step hi n p = portsL F step hi (n + 1) p
  | 0, p, h => by simp only [portsL]; rw [if_neg (by omega)]
  | n + 1, p, h => by
    rw [portsL, portsL]
    rw [portsL_more F step hi hs n (p + step) (by omega)]
def freeL (F : Nat → Bool) (step hi p : Nat) : List Nat := portsL F step hi (hi + 1) p
theorem freeL_step (F : Nat → Bool) (step hi p : Nat) (hs : 0 < step) : freeL F step hi p = if p ≤ hi then (if F p then freeL F step hi (p + step) else p :: freeL F step hi (p + step)) else [] := by
  unfold freeL
  rw [portsL_more F step hi hs (hi + 1) p (by omega), portsL]
theorem freeL_len (F : Nat → Bool) (step hi : Nat) : ∀ n p, (portsL F step hi n p).length ≤ n
  | 0, _ => by simp [portsL]
  | n + 1, p => by
    have := freeL_len F step hi n (p + step)
    rw [portsL]
    split
    · split
      · omega
      · simp; omega
    · simp
set_option maxHeartbeats 1000000 in
theorem count_any (g : Nat) (W : Nat → Nat) (from_ hi step : Nat) (w : World) (hM : Marks w g W) (hs : 0 < step) (hs2 : step ≤ 2) (hh : hi < 65536) (hf : from_ ≤ 65537) :
    Calls Tryz.prog 291 #[.pointer (some ⟨g, 0, none⟩), .int .i64 (from_ : Int), .int .i64 (hi : Int), .int .i64 (step : Int)] w fun e w' => e = .returned (.int .i64 ((freeL (markB W) step hi from_).length : Int)) ∧ w = w' := by
  have HM := Lib.hid hM
  clear hM
  go_enter Tryz.func291, Tryz.ntmps291
  go_wp2
  go_loopw [9, 10] (fun n i wr => ∃ m p : Nat, n = .int .i64 (m : Int) ∧ i = .int .i64 (p : Int) ∧ wr = w ∧ Hid (m + (freeL (markB W) step hi p).length = (freeL (markB W) step hi from_).length) ∧ m ≤ p ∧ p ≤ 65537) (fun _ i _ => 65538 - (intOf i).toNat)
  case atStart => exact ⟨0, from_, rfl, rfl, rfl, Lib.hid (by simp), by omega, by omega⟩
  case round =>
    obtain ⟨m, p, rfl, rfl, rfl, hl, hmp, hp⟩ := hrel
    by_cases hle : p ≤ hi
    · have hle2 : (p : Int) ≤ (hi : Int) := by omega
      cases hb : markB W p with
      | true =>
        have HL := Lib.hid (show m + (freeL (markB W) step hi (p + step)).length = (freeL (markB W) step hi from_).length by have := hl.out; rw [freeL_step _ _ _ _ hs, if_pos hle, if_pos hb] at this; exact this)
        clear hl
        go_wp2_with (first | (go_at_call 290; refine (free_any g W p _ HM.out (by omega)).mono ?_; rintro e w' ⟨rfl, rfl⟩))
        exact ⟨⟨m, p + step, rfl, by go_num, by first | rfl | trivial, HL, by omega, by omega⟩, by simp [intOf]; omega⟩
      | false =>
        have HL := Lib.hid (show (m + 1) + (freeL (markB W) step hi (p + step)).length = (freeL (markB W) step hi from_).length by have := hl.out; rw [freeL_step _ _ _ _ hs, if_pos hle, if_neg (by simp [hb])] at this; simp at this; omega)
        clear hl
        go_wp2_with (first | (go_at_call 290; refine (free_any g W p _ HM.out (by omega)).mono ?_; rintro e w' ⟨rfl, rfl⟩))
        exact ⟨⟨m + 1, p + step, by go_num, by go_num, by first | rfl | trivial, HL, by omega, by omega⟩, by simp [intOf]; omega⟩
    · have hle2 : ¬ (p : Int) ≤ (hi : Int) := by omega
      have hm : m = (freeL (markB W) step hi from_).length := by have := hl.out; rw [freeL_step _ _ _ _ hs, if_neg hle] at this; simpa using this
      have HL := Lib.hid hm
      clear hm hl
      go_wp2
      go_ret
      exact ⟨ret_int (by rw [HL.out]), rfl⟩
set_option maxHeartbeats 1000000 in
theorem pick_any (g : Nat) (W : Nat → Nat) (from_ hi step place : Nat) (w : World) (hM : Marks w g W) (hs : 0 < step) (hs2 : step ≤ 2) (hh : hi < 65536) (hf : from_ ≤ 65537) (hpl : place ≤ 4294967295) :
    Calls Tryz.prog 292 #[.pointer (some ⟨g, 0, none⟩), .int .i64 (from_ : Int), .int .i64 (hi : Int), .int .i64 (step : Int), .int .i64 (place : Int)] w fun e w' => e = .returned (.int .i64 (((freeL (markB W) step hi from_)[place]?.getD 0 : Nat) : Int)) ∧ w = w' := by
  have HM := Lib.hid hM
  clear hM
  go_enter Tryz.func292, Tryz.ntmps292
  go_wp2
  go_loopw [4, 11] (fun n i wr => ∃ m p : Nat, n = .int .i64 (m : Int) ∧ i = .int .i64 (p : Int) ∧ wr = w ∧ Hid ((freeL (markB W) step hi p)[m]?.getD 0 = (freeL (markB W) step hi from_)[place]?.getD 0) ∧ m ≤ place ∧ p ≤ 65537) (fun _ i _ => 65538 - (intOf i).toNat)
  case atStart => exact ⟨place, from_, rfl, rfl, rfl, Lib.hid rfl, by omega, by omega⟩
  case round =>
    obtain ⟨m, p, rfl, rfl, rfl, hl, hmp, hp⟩ := hrel
    by_cases hle : p ≤ hi
    · have hle2 : (p : Int) ≤ (hi : Int) := by omega
      cases hb : markB W p with
      | true =>
        have HL := Lib.hid (show (freeL (markB W) step hi (p + step))[m]?.getD 0 = (freeL (markB W) step hi from_)[place]?.getD 0 by have := hl.out; rw [freeL_step _ _ _ _ hs, if_pos hle, if_pos hb] at this; exact this)
        clear hl
        go_wp2_with (first | (go_at_call 290; refine (free_any g W p _ HM.out (by omega)).mono ?_; rintro e w' ⟨rfl, rfl⟩))
        exact ⟨⟨m, p + step, rfl, by go_num, by first | rfl | trivial, HL, by omega, by omega⟩, by simp [intOf]; omega⟩
      | false =>
        by_cases hm0 : m = 0
        · have hz : ((m : Int) == 0) = true := by simp [hm0]
          have HL := Lib.hid (show p = (freeL (markB W) step hi from_)[place]?.getD 0 by have := hl.out; rw [freeL_step _ _ _ _ hs, if_pos hle, if_neg (by simp [hb]), hm0] at this; simpa using this)
          clear hl hm0
          go_wp2_with (first | (go_at_call 290; refine (free_any g W p _ HM.out (by omega)).mono ?_; rintro e w' ⟨rfl, rfl⟩))
          go_ret
          exact ⟨ret_int (by rw [← HL.out]), rfl⟩
        · have hz : ((m : Int) == 0) = false := by simp; omega
          have HL := Lib.hid (show (freeL (markB W) step hi (p + step))[m - 1]?.getD 0 = (freeL (markB W) step hi from_)[place]?.getD 0 by
            have := hl.out
            rw [freeL_step _ _ _ _ hs, if_pos hle, if_neg (by simp [hb]), show m = (m - 1) + 1 by omega] at this
            simpa using this)
          clear hl
          go_wp2_with (first | (go_at_call 290; refine (free_any g W p _ HM.out (by omega)).mono ?_; rintro e w' ⟨rfl, rfl⟩))
          exact ⟨⟨m - 1, p + step, by go_num, by go_num, by first | rfl | trivial, HL, by omega, by omega⟩, by simp [intOf]; omega⟩
    · have hle2 : ¬ (p : Int) ≤ (hi : Int) := by omega
      have HL := Lib.hid (show (0 : Nat) = (freeL (markB W) step hi from_)[place]?.getD 0 by have := hl.out; rw [freeL_step _ _ _ _ hs, if_neg hle] at this; simpa using this)
      clear hl
      go_wp2
      go_ret
      exact ⟨ret_int (by rw [← HL.out]; rfl), rfl⟩
end Go.Proofs.YtfhkhnoiolkkdaaGreatDoor
set_option linter.unusedVariables false
set_option maxRecDepth 100000
set_option linter.unusedSimpArgs false
namespace Go.Proofs.YtfhkhnoiolkkdaaGreatDoor
open Go.RowKit
def wordRow (W : Nat → Nat) : Array Value := ((List.range 1024).map fun i => Value.int .u64 (W i : Int)).toArray
theorem zero_marks (w : World) : (zeroValue 429).run Tryz.prog w = .ok (.agg (wordRow fun _ => 0)) w := by kernel_rfl
@[simp, go_sem] theorem wordRow_size (W : Nat → Nat) : (wordRow W).size = 1024 := by simp [wordRow]
def updW (W : Nat → Nat) (i v : Nat) : Nat → Nat := fun k => if k = i then v else W k
@[go_sem] theorem wordRow_set (W : Nat → Nat) (i v : Nat) : (wordRow W).setIfInBounds i (.int .u64 (v : Int)) = wordRow (updW W i v) := by
  unfold wordRow updW
  apply Array.ext_getElem?
  intro j
  simp only [Array.getElem?_setIfInBounds, List.getElem?_toArray, List.getElem?_map]
  by_cases h : i = j
  · subst h
    by_cases h2 : i < 1024
    · simp [h2]
    · simp [h2]; try omega
  · have h3 : ¬ j = i := fun e => h e.symm
    by_cases h2 : j < 1024
    · simp [h, h2, h3]
    · simp [h, h2]
theorem wordRow_cell (w : World) (W : Nat → Nat) (t : TypeId) (os : Array Obj) (d i : Nat) (hi : i < 1024) : ((w.alloc (.cells (wordRow W) t)).junk os d).cell? ⟨w.heap.size, i, none⟩ = some (.int .u64 (W i : Int)) := by
  rw [World.cell?_junk _ _ _ _ _ (by simp), World.cell?_alloc_new]
  simp [wordRow, hi]
theorem junk_nil2 (w : World) : w = w.junk #[] w.drawn := by simp [World.junk]
def takenB (lo hi : Int) (xs : Nat → Int) (l p : Nat) : Bool := decide (lo ≤ p ∧ (p : Int) ≤ hi ∧ ∃ i, i < l ∧ xs i = (p : Int))
theorem or_word (x q : Nat) (hx : x < 18446744073709551616) (hq : q < 64) : bits .or .u64 (x : Int) (IntKind.u64.wrap (2 ^ q)) = ((x ||| 2 ^ q : Nat) : Int) := by
  have h2 : (2 : Nat) ^ q < 2 ^ 64 := Nat.pow_lt_pow_right (by decide) hq
  have h64 : (2 : Nat) ^ 64 = 18446744073709551616 := by decide
  have e : ((2 : Int) ^ q) = ((2 ^ q : Nat) : Int) := by simp
  rw [e]
  generalize (2 : Nat) ^ q = y at *
  rw [wrapk_u64 _ (by omega) (by omega), (bits_nat .u64 64 (by decide) wrapk_u64 x _ (by omega) (by omega)).2]
theorem markB_upd (W : Nat → Nat) (p p' : Nat) : markB (updW W (p / 64) (W (p / 64) ||| 2 ^ (p % 64))) p' = (markB W p' || p' == p) := by
  unfold markB updW
  by_cases h : p' / 64 = p / 64
  · rw [if_pos h, h, Nat.testBit_or, Nat.testBit_two_pow]
    congr 1
    rw [Bool.eq_iff_iff]
    simp
    omega
  · rw [if_neg h]
    have : (p' == p) = false := by simp; rintro rfl; exact h rfl
    rw [this, Bool.or_false]
theorem takenB_succ (lo hi : Int) (xs : Nat → Int) (k p : Nat) : takenB lo hi xs (k + 1) p = (takenB lo hi xs k p || decide (lo ≤ p ∧ (p : Int) ≤ hi ∧ xs k = p)) := by
  unfold takenB
  rw [Bool.eq_iff_iff]
  simp only [decide_eq_true_eq, Bool.or_eq_true]
  constructor
  · rintro ⟨h1, h2, i, hi, hx⟩
    by_cases h : i = k
    · subst h; exact .inr ⟨h1, h2, hx⟩
    · exact .inl ⟨h1, h2, i, by omega, hx⟩
  · rintro (⟨h1, h2, i, hi, hx⟩ | ⟨h1, h2, hx⟩)
    · exact ⟨h1, h2, i, by omega, hx⟩
    · exact ⟨h1, h2, k, by omega, hx⟩
set_option maxHeartbeats 1000000 in
theorem marked_any (lo hi : Int) (oa : Option Addr) (l c : Nat) (xs : Nat → Int) (w : World) (hl : l ≤ 100000000) (h1 : 1 ≤ lo) (h2 : hi ≤ 65535) (hS : IntsAt w oa l .i64 xs) :
    Calls Tryz.prog 289 #[.int .i64 lo, .int .i64 hi, .slice oa l c] w fun e w' => ∃ g, e = .returned (.pointer (some ⟨g, 0, none⟩)) ∧ Junk w w' ∧ ∃ W, Marks w' g W ∧ ∀ p, p < 65536 → markB W p = takenB lo hi xs l p := by
  have hz := zero_marks
  generalize hZ : wordRow (fun _ => 0) = Z at hz
  go_enter Tryz.func289, Tryz.ntmps289
  go_wp2
  go_loopw [14] (fun i wr => ∃ (k : Nat) (W : Nat → Nat) (os : Array Obj) (d : Nat), i = .int .i64 (k : Int) ∧ wr = (w.alloc (.cells (wordRow W) 429)).junk os d ∧ (∀ i, W i < 18446744073709551616) ∧ (∀ p, p < 65536 → markB W p = takenB lo hi xs k p) ∧ k ≤ l) (fun i _ => l + 1 - (intOf i).toNat)
  case atStart => exact ⟨0, fun _ => 0, #[], _, rfl, by rw [hZ]; exact junk_nil2 _, fun _ => (by show (0 : Nat) < _; decide), fun p _ => by simp [markB, takenB], by omega⟩
  case round =>
    obtain ⟨k, W, os, d, rfl, rfl, hw, hm, hk⟩ := hrel
    by_cases hlt : k < l
    · obtain ⟨b, off, rfl, hblk, hc⟩ := hS k hlt
      have j1 : (k : Int) < (l : Int) := by omega
      obtain ⟨x, hx⟩ : ∃ x, x = xs k := ⟨_, rfl⟩
      rw [← hx] at hc
      by_cases hin : lo ≤ x ∧ x ≤ hi
      · obtain ⟨i1, i2⟩ := hin
        obtain ⟨p, rfl⟩ : ∃ p : Nat, x = (p : Int) := ⟨x.toNat, by omega⟩
        obtain ⟨i, hi⟩ : ∃ i, i = p / 64 := ⟨_, rfl⟩
        obtain ⟨q, hq⟩ : ∃ q, q = p % 64 := ⟨_, rfl⟩
        have e1 : (p : Int) / 64 = (i : Int) := by omega
        have e2 : (p : Int) % 64 = (q : Int) := by omega
        have e3 : (q : Int) < 64 := by omega
        have e4 : (i : Int) < 1024 := by omega
        have e5 : i < 1024 := by omega
        have hcl := fun os d => wordRow_cell w W 429 os d i e5
        have hsz := wordRow_size W
        have HW := Lib.hid hw
        have HM := Lib.hid hm
        have HX := Lib.hid hx
        have HI := Lib.hid hi
        have HQ := Lib.hid hq
        clear hw hm hx hS hi hq
        go_wp2
        refine wp_region_mixl ((w.alloc (.cells (wordRow W) 429)).junk os d) 12 [(0, true), (1, true), (2, true), (3, true), (4, true), (5, true), (6, true), (7, true), (8, true), (9, true), (10, true), (11, true), (12, false)] (by kernel_rfl) (by kernel_rfl) (by (exact jkc)) ?_; (iterate 12 (refine wpMixL_q rfl (fun K hK => ?_); (go_simp; try go_bits); (refine hK _ ?_; clear hK K))); refine wpMixL_last rfl (fun osm6_0 dm6_0 K hK => ?_); (go_simp; try go_bits); refine hK _ _ ?_; clear hK K; refine wpMixL_nil (fun osm dm => ?_)
        go_wp2
        have hb : W i ||| 2 ^ q < 18446744073709551616 := by
          have h3 : (2 : Nat) ^ q < 2 ^ 64 := Nat.pow_lt_pow_right (by decide) (by omega)
          have h4 := Nat.or_lt_two_pow (x := W i) (y := 2 ^ q) (n := 64) (by have := HW.out i; omega) h3
          omega
        refine ⟨⟨k + 1, updW W i (W i ||| 2 ^ q), _, _, by go_num, by rw [or_word _ _ (HW.out i) (by omega), wordRow_set], fun j => ?_, fun p' hp' => ?_, by omega⟩, by simp [intOf]; omega⟩
        · unfold updW; split
          · exact hb
          · exact HW.out j
        · rw [takenB_succ, ← HM.out p' hp', ← HX.out, HI.out, HQ.out, markB_upd]
          congr 1
          rw [Bool.eq_iff_iff]
          simp
          omega
      · have HW := Lib.hid hw
        have HM := Lib.hid hm
        have HX := Lib.hid hx
        have hnot : ∀ p' : Nat, decide (lo ≤ p' ∧ (p' : Int) ≤ hi ∧ xs k = p') = false := fun p' => by rw [← hx]; simp; intro a b c; omega
        have HN := Lib.hid hnot
        by_cases i1 : lo ≤ x
        · have i2 : ¬ x ≤ hi := fun h => hin ⟨i1, h⟩
          clear hw hm hx hS hnot hin
          go_wp2
          exact ⟨⟨k + 1, W, _, _, by go_num, rfl, HW.out, fun p' hp' => by rw [takenB_succ, HN.out p', Bool.or_false]; exact HM.out p' hp', by omega⟩, by simp [intOf]; omega⟩
        · clear hw hm hx hS hnot hin
          go_wp2
          exact ⟨⟨k + 1, W, _, _, by go_num, rfl, HW.out, fun p' hp' => by rw [takenB_succ, HN.out p', Bool.or_false]; exact HM.out p' hp', by omega⟩, by simp [intOf]; omega⟩
    · have j1 : ¬ (k : Int) < (l : Int) := by omega
      obtain rfl : k = l := by omega
      have HW := Lib.hid hw
      have HM := Lib.hid hm
      clear hw hm hS
      go_wp2
      go_ret
      exact ⟨_, rfl, by (exact jkc), W, ⟨by simp; omega, fun i hi => wordRow_cell w W _ os d i hi, HW.out⟩, HM.out⟩
end Go.Proofs.YtfhkhnoiolkkdaaGreatDoor
set_option linter.unusedVariables false
set_option maxRecDepth 100000
set_option linter.unusedSimpArgs false
namespace Go.Proofs.YtfhkhnoiolkkdaaGreatDoor
open Go.RowKit
theorem portsL_congr {F G : Nat → Bool} {step hi : Nat} (h : ∀ p, p ≤ hi → F p = G p) : ∀ n p, portsL F step hi n p = portsL G step hi n p
  | 0, _ => rfl
  | n + 1, p => by
    rw [portsL, portsL, portsL_congr h n (p + step)]
    by_cases hp : p ≤ hi
    · rw [if_pos hp, if_pos hp, h p hp]
    · rw [if_neg hp, if_neg hp]
theorem freeL_congr {F G : Nat → Bool} {step hi : Nat} (h : ∀ p, p ≤ hi → F p = G p) (p : Nat) : freeL F step hi p = freeL G step hi p := portsL_congr h _ _
def poolL (lo hi : Int) (xs : Nat → Int) (l step from_ : Nat) : List Nat := freeL (takenB lo hi xs l) step hi.toNat from_
end Go.Proofs.YtfhkhnoiolkkdaaGreatDoor
set_option linter.unusedVariables false
set_option maxRecDepth 100000
set_option linter.unusedSimpArgs false
namespace Go.Proofs.YtfhkhnoiolkkdaaGreatDoor
open Go.RowKit
theorem Marks.on {w w' : World} {g : Nat} {W : Nat → Nat} (h : Marks w g W) (hj : Junk w w') : Marks w' g W := by
  obtain ⟨os, d, rfl⟩ := hj
  exact ⟨by have := h.lt; simp; omega, fun i hi => by rw [World.cell?_junk _ _ _ _ _ h.lt]; exact h.cell i hi, h.word⟩
theorem and_one (x : Int) : bits .and .i64 x 1 = x % 2 := by
  show IntKind.i64.wrap (((BitVec.ofInt 64 x) &&& (BitVec.ofInt 64 1)).toNat : Int) = x % 2
  rw [BitVec.toNat_and, BitVec.toNat_ofInt, BitVec.toNat_ofInt]
  rw [show ((1 : Int) % ((2 ^ 64 : Nat) : Int)).toNat = 1 by decide, Nat.and_one_is_mod, wrapk_i64 _ (by omega) (by omega)]
  omega
theorem count1_any (g : Nat) (W : Nat → Nat) (from_ hi : Nat) (w : World) (hM : Marks w g W) (hh : hi < 65536) (hf : from_ ≤ 65537) :
    Calls Tryz.prog 291 #[.pointer (some ⟨g, 0, none⟩), .int .i64 (from_ : Int), .int .i64 (hi : Int), .int .i64 1] w fun e w' => e = .returned (.int .i64 ((freeL (markB W) 1 hi from_).length : Int)) ∧ w = w' :=
  count_any g W from_ hi 1 w hM (by decide) (by decide) hh hf
theorem pick1_any (g : Nat) (W : Nat → Nat) (from_ hi place : Nat) (w : World) (hM : Marks w g W) (hh : hi < 65536) (hf : from_ ≤ 65537) (hpl : place ≤ 4294967295) :
    Calls Tryz.prog 292 #[.pointer (some ⟨g, 0, none⟩), .int .i64 (from_ : Int), .int .i64 (hi : Int), .int .i64 1, .int .i64 (place : Int)] w fun e w' => e = .returned (.int .i64 (((freeL (markB W) 1 hi from_)[place]?.getD 0 : Nat) : Int)) ∧ w = w' :=
  pick_any g W from_ hi 1 place w hM (by decide) (by decide) hh hf hpl
theorem count2_any (g : Nat) (W : Nat → Nat) (from_ hi : Nat) (w : World) (hM : Marks w g W) (hh : hi < 65536) (hf : from_ ≤ 65537) :
    Calls Tryz.prog 291 #[.pointer (some ⟨g, 0, none⟩), .int .i64 (from_ : Int), .int .i64 (hi : Int), .int .i64 2] w fun e w' => e = .returned (.int .i64 ((freeL (markB W) 2 hi from_).length : Int)) ∧ w = w' :=
  count_any g W from_ hi 2 w hM (by decide) (by decide) hh hf
theorem pick2_any (g : Nat) (W : Nat → Nat) (from_ hi place : Nat) (w : World) (hM : Marks w g W) (hh : hi < 65536) (hf : from_ ≤ 65537) (hpl : place ≤ 4294967295) :
    Calls Tryz.prog 292 #[.pointer (some ⟨g, 0, none⟩), .int .i64 (from_ : Int), .int .i64 (hi : Int), .int .i64 2, .int .i64 (place : Int)] w fun e w' => e = .returned (.int .i64 (((freeL (markB W) 2 hi from_)[place]?.getD 0 : Nat) : Int)) ∧ w = w' :=
  pick_any g W from_ hi 2 place w hM (by decide) (by decide) hh hf hpl
def firstP (a : Nat) (wish : Int) : Nat := if (a : Int) % 2 = wish % 2 then a else a + 1
def poolChoose (lo hi : Int) (xs : Nat → Int) (l : Nat) (wish : Int) (D : Nat) : Int × Bool :=
  if rightB lo hi = false then (0, false) else
  if lo ≤ wish ∧ wish ≤ hi ∧ takenB lo hi xs l wish.toNat = false then (wish, true) else
  if 0 < (poolL lo hi xs l 2 (firstP lo.toNat wish)).length then (((poolL lo hi xs l 2 (firstP lo.toNat wish))[D % (poolL lo hi xs l 2 (firstP lo.toNat wish)).length]?.getD 0 : Nat), true) else
  if 0 < (poolL lo hi xs l 1 lo.toNat).length then (((poolL lo hi xs l 1 lo.toNat)[D % (poolL lo hi xs l 1 lo.toNat).length]?.getD 0 : Nat), true) else (0, false)
theorem ret_pair {a a' : Int} {b b' : Bool} (h : a = a') (h2 : b = b') : Ending.returned (.tuple #[.int .i64 a, .bool b]) = .returned (.tuple #[.int .i64 a', .bool b']) := by rw [h, h2]
set_option maxHeartbeats 16000000 in
theorem choose_any (lo hi : Int) (oa : Option Addr) (l c : Nat) (xs : Nat → Int) (wish : Int) (D : Nat) (w : World) (hl : l ≤ 100000000) (hD : D < 4294967296) (hS : IntsAt w oa l .i64 xs) :
    Calls Tryz.prog 233 #[.int .i64 lo, .int .i64 hi, .slice oa l c, .int .i64 wish, .int .u32 (D : Int)] w fun e w' => e = .returned (.tuple #[.int .i64 (poolChoose lo hi xs l wish D).1, .bool (poolChoose lo hi xs l wish D).2]) ∧ Junk w w' := by
  have HS := Lib.hid hS
  clear hS
  cases hr : rightB lo hi with
  | false =>
    have HR := Lib.hid (show poolChoose lo hi xs l wish D = (0, false) by unfold poolChoose; rw [if_pos hr])
    rw [HR.out]
    go_enter Tryz.func233, Tryz.ntmps233
    go_wp2_with (first | (go_at_call 285; refine (pright_any _ _ _).mono ?_; rintro e w' ⟨rfl, rfl⟩))
    go_returns
    exact ⟨rfl, by (exact jkc)⟩
  | true =>
  have hr2 : 1 ≤ lo ∧ lo ≤ hi ∧ hi ≤ 65535 := by simpa [rightB] using hr
  obtain ⟨r1, r2, r3⟩ := hr2
  obtain ⟨a, rfl⟩ : ∃ a : Nat, lo = (a : Int) := ⟨lo.toNat, by omega⟩
  obtain ⟨b, rfl⟩ : ∃ b : Nat, hi = (b : Int) := ⟨hi.toNat, by omega⟩
  by_cases hq : (a : Int) ≤ wish ∧ wish ≤ (b : Int) ∧ takenB a b xs l wish.toNat = false
  · have HR := Lib.hid (show poolChoose a b xs l wish D = (wish, true) by unfold poolChoose; rw [if_neg (by simp [hr]), if_pos hq])
    obtain ⟨q1, q2, q3⟩ := hq
    rw [HR.out]
    obtain ⟨q, rfl⟩ : ∃ q : Nat, wish = (q : Int) := ⟨wish.toNat, by omega⟩
    have HT := Lib.hid (show takenB a b xs l q = false from q3)
    clear q3
    go_enter Tryz.func233, Tryz.ntmps233
    go_wp2_with (first | (go_at_call 285; refine (pright_any _ _ _).mono ?_; rintro e w' ⟨rfl, rfl⟩) | (go_at_call 289; refine (marked_any (a : Int) (b : Int) oa l c xs _ hl r1 r3 (HS.out.on (by (exact jkc)))).mono ?_; rintro e w' ⟨g, rfl, ⟨osj, dj, rfl⟩, W, hM, hmk⟩; have HM := Lib.hid hM; have HK := Lib.hid hmk; clear hM hmk) | (go_at_call 290; refine (free_any g W q _ (HM.out.on (by (exact jkc))) (by omega)).mono ?_; rintro e w' ⟨rfl, rfl⟩; rw [HK.out q (by omega), HT.out]))
    go_returns
    exact ⟨rfl, by (exact jkc)⟩
  · have hw3 : wish < (a : Int) ∨ ((a : Int) ≤ wish ∧ (b : Int) < wish) ∨ ∃ q : Nat, wish = (q : Int) ∧ (a : Int) ≤ (q : Int) ∧ (q : Int) ≤ (b : Int) ∧ Hid (takenB a b xs l q = true) := by
      by_cases h1 : (a : Int) ≤ wish
      · by_cases h2 : wish ≤ (b : Int)
        · refine .inr (.inr ⟨wish.toNat, by omega, by omega, by omega, Lib.hid ?_⟩)
          cases h3 : takenB a b xs l wish.toNat with
          | true => rfl
          | false => exact absurd ⟨h1, h2, h3⟩ hq
        · exact .inr (.inl ⟨h1, by omega⟩)
      · exact .inl (by omega)
    obtain ⟨f, hf⟩ : ∃ f, f = firstP a wish := ⟨_, rfl⟩
    obtain ⟨A, hA⟩ : ∃ A, A = (freeL (takenB a b xs l) 2 b f).length := ⟨_, rfl⟩
    obtain ⟨B, hB⟩ : ∃ B, B = (freeL (takenB a b xs l) 1 b a).length := ⟨_, rfl⟩
    have hR : poolChoose a b xs l wish D = if 0 < A then ((((freeL (takenB a b xs l) 2 b f)[D % A]?.getD 0 : Nat) : Int), true) else if 0 < B then ((((freeL (takenB a b xs l) 1 b a)[D % B]?.getD 0 : Nat) : Int), true) else ((0 : Int), false) := by
      unfold poolChoose
      rw [if_neg (by simp [hr]), if_neg hq, hA, hB, hf]
      rfl
    have hA9 : A ≤ 65536 := by rw [hA]; have := freeL_len (takenB a b xs l) 2 b (b + 1) f; unfold freeL; omega
    have hB9 : B ≤ 65536 := by rw [hB]; have := freeL_len (takenB a b xs l) 1 b (b + 1) a; unfold freeL; omega
    have HA := Lib.hid hA
    have HB := Lib.hid hB
    clear hA hB hq
    have pa : bits .and .i64 (a : Int) 1 = (a : Int) % 2 := and_one _
    have pw : bits .and .i64 wish 1 = wish % 2 := and_one _
    have hfc : (a = f ∧ ((a : Int) % 2 != wish % 2) = false) ∨ ((a : Int) + 1 = (f : Int) ∧ ((a : Int) % 2 != wish % 2) = true) := by
      unfold firstP at hf
      split at hf
      · exact .inl ⟨hf.symm, by simp; assumption⟩
      · exact .inr ⟨by omega, by simp; assumption⟩
    clear hf
    by_cases hA0 : 0 < A
    · obtain ⟨PL, hPL⟩ : ∃ PL, PL = D % A := ⟨_, rfl⟩
      have hz1 : ((A : Int) == 0) = false := by simp; omega
      have hz2 : ¬ (A : Int) = 0 := by omega
      have hz3 : ¬ A = 0 := by omega
      have hpl : (D : Int) % (A : Int) = (PL : Int) := by omega
      rw [if_pos hA0, ← hPL] at hR
      rw [hR]
      have hpl9 : PL ≤ 4294967295 := by have := Nat.mod_lt D hA0; omega
      clear hR hPL
      rcases hfc with ⟨rfl, hp⟩ | ⟨hf1, hp⟩
      · rcases hw3 with h3 | ⟨h3, h4⟩ | ⟨q, rfl, h3, h4, HT⟩
        · go_enter Tryz.func233, Tryz.ntmps233
          go_wp2_with (first | (go_at_call 285; refine (pright_any _ _ _).mono ?_; rintro e w' ⟨rfl, rfl⟩) | (go_at_call 289; refine (marked_any (a : Int) (b : Int) oa l c xs _ hl r1 r3 (HS.out.on (by (exact jkc)))).mono ?_; rintro e w' ⟨g, rfl, ⟨osj, dj, rfl⟩, W, hM, hmk⟩; have HM := Lib.hid hM; have HK := Lib.hid hmk; clear hM hmk) | (go_at_call 290; refine (free_any g W q _ (HM.out.on (by (exact jkc))) (by omega)).mono ?_; rintro e w' ⟨rfl, rfl⟩; rw [HK.out q (by omega), HT.out]))
          refine wp_loop_rounds 4 ?_
          rw [rounds_succ]
          go_wp2_with (first | (go_at_call 291; first | ((with_reducible refine (count2_any g W a b _ (HM.out.on (by (exact jkc))) (by omega) (by omega)).mono ?_); rintro e w' ⟨rfl, rfl⟩; rw [freeL_congr (fun p hp => HK.out p (by omega)), ← HA.out]) | ((with_reducible refine (count2_any g W f b _ (HM.out.on (by (exact jkc))) (by omega) (by omega)).mono ?_); rintro e w' ⟨rfl, rfl⟩; rw [freeL_congr (fun p hp => HK.out p (by omega)), ← HA.out]) | ((with_reducible refine (count1_any g W a b _ (HM.out.on (by (exact jkc))) (by omega) (by omega)).mono ?_); rintro e w' ⟨rfl, rfl⟩; rw [freeL_congr (fun p hp => HK.out p (by omega)), ← HB.out])))
          refine wp_region_junk (by kernel_rfl) (by kernel_rfl) ?_; (repeat (refine wpQuiet_step (fun K hK => ?_); (go_simp; try go_bits); first | (refine hK _ ?_; clear hK K) | (apply Exists.intro; refine ⟨fun _ => ?_, hK _ ?_⟩; (first | (go_at_call 292; first | with_reducible exact Calls.junk_of (Calls.junk_of_same (pick2_any g W a b PL _ (HM.out.on (by (exact jkc))) (by omega) (by omega) hpl9)) | with_reducible exact Calls.junk_of (Calls.junk_of_same (pick2_any g W f b PL _ (HM.out.on (by (exact jkc))) (by omega) (by omega) hpl9)))); clear hK K))); refine wpQuiet_nil ?_; rintro _ ⟨⟨osq, dq⟩, rfl⟩
          go_wp2
          go_returns
          exact ⟨ret_pair (by rw [freeL_congr (fun p hp => HK.out p (by omega))]) rfl, by (exact jkc)⟩
        · go_enter Tryz.func233, Tryz.ntmps233
          go_wp2_with (first | (go_at_call 285; refine (pright_any _ _ _).mono ?_; rintro e w' ⟨rfl, rfl⟩) | (go_at_call 289; refine (marked_any (a : Int) (b : Int) oa l c xs _ hl r1 r3 (HS.out.on (by (exact jkc)))).mono ?_; rintro e w' ⟨g, rfl, ⟨osj, dj, rfl⟩, W, hM, hmk⟩; have HM := Lib.hid hM; have HK := Lib.hid hmk; clear hM hmk) | (go_at_call 290; refine (free_any g W q _ (HM.out.on (by (exact jkc))) (by omega)).mono ?_; rintro e w' ⟨rfl, rfl⟩; rw [HK.out q (by omega), HT.out]))
          refine wp_loop_rounds 4 ?_
          rw [rounds_succ]
          go_wp2_with (first | (go_at_call 291; first | ((with_reducible refine (count2_any g W a b _ (HM.out.on (by (exact jkc))) (by omega) (by omega)).mono ?_); rintro e w' ⟨rfl, rfl⟩; rw [freeL_congr (fun p hp => HK.out p (by omega)), ← HA.out]) | ((with_reducible refine (count2_any g W f b _ (HM.out.on (by (exact jkc))) (by omega) (by omega)).mono ?_); rintro e w' ⟨rfl, rfl⟩; rw [freeL_congr (fun p hp => HK.out p (by omega)), ← HA.out]) | ((with_reducible refine (count1_any g W a b _ (HM.out.on (by (exact jkc))) (by omega) (by omega)).mono ?_); rintro e w' ⟨rfl, rfl⟩; rw [freeL_congr (fun p hp => HK.out p (by omega)), ← HB.out])))
          refine wp_region_junk (by kernel_rfl) (by kernel_rfl) ?_; (repeat (refine wpQuiet_step (fun K hK => ?_); (go_simp; try go_bits); first | (refine hK _ ?_; clear hK K) | (apply Exists.intro; refine ⟨fun _ => ?_, hK _ ?_⟩; (first | (go_at_call 292; first | with_reducible exact Calls.junk_of (Calls.junk_of_same (pick2_any g W a b PL _ (HM.out.on (by (exact jkc))) (by omega) (by omega) hpl9)) | with_reducible exact Calls.junk_of (Calls.junk_of_same (pick2_any g W f b PL _ (HM.out.on (by (exact jkc))) (by omega) (by omega) hpl9)))); clear hK K))); refine wpQuiet_nil ?_; rintro _ ⟨⟨osq, dq⟩, rfl⟩
          go_wp2
          go_returns
          exact ⟨ret_pair (by rw [freeL_congr (fun p hp => HK.out p (by omega))]) rfl, by (exact jkc)⟩
        · go_enter Tryz.func233, Tryz.ntmps233
          go_wp2_with (first | (go_at_call 285; refine (pright_any _ _ _).mono ?_; rintro e w' ⟨rfl, rfl⟩) | (go_at_call 289; refine (marked_any (a : Int) (b : Int) oa l c xs _ hl r1 r3 (HS.out.on (by (exact jkc)))).mono ?_; rintro e w' ⟨g, rfl, ⟨osj, dj, rfl⟩, W, hM, hmk⟩; have HM := Lib.hid hM; have HK := Lib.hid hmk; clear hM hmk) | (go_at_call 290; refine (free_any g W q _ (HM.out.on (by (exact jkc))) (by omega)).mono ?_; rintro e w' ⟨rfl, rfl⟩; rw [HK.out q (by omega), HT.out]))
          refine wp_loop_rounds 4 ?_
          rw [rounds_succ]
          go_wp2_with (first | (go_at_call 291; first | ((with_reducible refine (count2_any g W a b _ (HM.out.on (by (exact jkc))) (by omega) (by omega)).mono ?_); rintro e w' ⟨rfl, rfl⟩; rw [freeL_congr (fun p hp => HK.out p (by omega)), ← HA.out]) | ((with_reducible refine (count2_any g W f b _ (HM.out.on (by (exact jkc))) (by omega) (by omega)).mono ?_); rintro e w' ⟨rfl, rfl⟩; rw [freeL_congr (fun p hp => HK.out p (by omega)), ← HA.out]) | ((with_reducible refine (count1_any g W a b _ (HM.out.on (by (exact jkc))) (by omega) (by omega)).mono ?_); rintro e w' ⟨rfl, rfl⟩; rw [freeL_congr (fun p hp => HK.out p (by omega)), ← HB.out])))
          refine wp_region_junk (by kernel_rfl) (by kernel_rfl) ?_; (repeat (refine wpQuiet_step (fun K hK => ?_); (go_simp; try go_bits); first | (refine hK _ ?_; clear hK K) | (apply Exists.intro; refine ⟨fun _ => ?_, hK _ ?_⟩; (first | (go_at_call 292; first | with_reducible exact Calls.junk_of (Calls.junk_of_same (pick2_any g W a b PL _ (HM.out.on (by (exact jkc))) (by omega) (by omega) hpl9)) | with_reducible exact Calls.junk_of (Calls.junk_of_same (pick2_any g W f b PL _ (HM.out.on (by (exact jkc))) (by omega) (by omega) hpl9)))); clear hK K))); refine wpQuiet_nil ?_; rintro _ ⟨⟨osq, dq⟩, rfl⟩
          go_wp2
          go_returns
          exact ⟨ret_pair (by rw [freeL_congr (fun p hp => HK.out p (by omega))]) rfl, by (exact jkc)⟩
      · rcases hw3 with h3 | ⟨h3, h4⟩ | ⟨q, rfl, h3, h4, HT⟩
        · go_enter Tryz.func233, Tryz.ntmps233
          go_wp2_with (first | (go_at_call 285; refine (pright_any _ _ _).mono ?_; rintro e w' ⟨rfl, rfl⟩) | (go_at_call 289; refine (marked_any (a : Int) (b : Int) oa l c xs _ hl r1 r3 (HS.out.on (by (exact jkc)))).mono ?_; rintro e w' ⟨g, rfl, ⟨osj, dj, rfl⟩, W, hM, hmk⟩; have HM := Lib.hid hM; have HK := Lib.hid hmk; clear hM hmk) | (go_at_call 290; refine (free_any g W q _ (HM.out.on (by (exact jkc))) (by omega)).mono ?_; rintro e w' ⟨rfl, rfl⟩; rw [HK.out q (by omega), HT.out]))
          refine wp_loop_rounds 4 ?_
          rw [rounds_succ]
          go_wp2_with (first | (go_at_call 291; first | ((with_reducible refine (count2_any g W a b _ (HM.out.on (by (exact jkc))) (by omega) (by omega)).mono ?_); rintro e w' ⟨rfl, rfl⟩; rw [freeL_congr (fun p hp => HK.out p (by omega)), ← HA.out]) | ((with_reducible refine (count2_any g W f b _ (HM.out.on (by (exact jkc))) (by omega) (by omega)).mono ?_); rintro e w' ⟨rfl, rfl⟩; rw [freeL_congr (fun p hp => HK.out p (by omega)), ← HA.out]) | ((with_reducible refine (count1_any g W a b _ (HM.out.on (by (exact jkc))) (by omega) (by omega)).mono ?_); rintro e w' ⟨rfl, rfl⟩; rw [freeL_congr (fun p hp => HK.out p (by omega)), ← HB.out])))
          refine wp_region_junk (by kernel_rfl) (by kernel_rfl) ?_; (repeat (refine wpQuiet_step (fun K hK => ?_); (go_simp; try go_bits); first | (refine hK _ ?_; clear hK K) | (apply Exists.intro; refine ⟨fun _ => ?_, hK _ ?_⟩; (first | (go_at_call 292; first | with_reducible exact Calls.junk_of (Calls.junk_of_same (pick2_any g W a b PL _ (HM.out.on (by (exact jkc))) (by omega) (by omega) hpl9)) | with_reducible exact Calls.junk_of (Calls.junk_of_same (pick2_any g W f b PL _ (HM.out.on (by (exact jkc))) (by omega) (by omega) hpl9)))); clear hK K))); refine wpQuiet_nil ?_; rintro _ ⟨⟨osq, dq⟩, rfl⟩
          go_wp2
          go_returns
          exact ⟨ret_pair (by rw [freeL_congr (fun p hp => HK.out p (by omega))]) rfl, by (exact jkc)⟩
        · go_enter Tryz.func233, Tryz.ntmps233
          go_wp2_with (first | (go_at_call 285; refine (pright_any _ _ _).mono ?_; rintro e w' ⟨rfl, rfl⟩) | (go_at_call 289; refine (marked_any (a : Int) (b : Int) oa l c xs _ hl r1 r3 (HS.out.on (by (exact jkc)))).mono ?_; rintro e w' ⟨g, rfl, ⟨osj, dj, rfl⟩, W, hM, hmk⟩; have HM := Lib.hid hM; have HK := Lib.hid hmk; clear hM hmk) | (go_at_call 290; refine (free_any g W q _ (HM.out.on (by (exact jkc))) (by omega)).mono ?_; rintro e w' ⟨rfl, rfl⟩; rw [HK.out q (by omega), HT.out]))
          refine wp_loop_rounds 4 ?_
          rw [rounds_succ]
          go_wp2_with (first | (go_at_call 291; first | ((with_reducible refine (count2_any g W a b _ (HM.out.on (by (exact jkc))) (by omega) (by omega)).mono ?_); rintro e w' ⟨rfl, rfl⟩; rw [freeL_congr (fun p hp => HK.out p (by omega)), ← HA.out]) | ((with_reducible refine (count2_any g W f b _ (HM.out.on (by (exact jkc))) (by omega) (by omega)).mono ?_); rintro e w' ⟨rfl, rfl⟩; rw [freeL_congr (fun p hp => HK.out p (by omega)), ← HA.out]) | ((with_reducible refine (count1_any g W a b _ (HM.out.on (by (exact jkc))) (by omega) (by omega)).mono ?_); rintro e w' ⟨rfl, rfl⟩; rw [freeL_congr (fun p hp => HK.out p (by omega)), ← HB.out])))
          refine wp_region_junk (by kernel_rfl) (by kernel_rfl) ?_; (repeat (refine wpQuiet_step (fun K hK => ?_); (go_simp; try go_bits); first | (refine hK _ ?_; clear hK K) | (apply Exists.intro; refine ⟨fun _ => ?_, hK _ ?_⟩; (first | (go_at_call 292; first | with_reducible exact Calls.junk_of (Calls.junk_of_same (pick2_any g W a b PL _ (HM.out.on (by (exact jkc))) (by omega) (by omega) hpl9)) | with_reducible exact Calls.junk_of (Calls.junk_of_same (pick2_any g W f b PL _ (HM.out.on (by (exact jkc))) (by omega) (by omega) hpl9)))); clear hK K))); refine wpQuiet_nil ?_; rintro _ ⟨⟨osq, dq⟩, rfl⟩
          go_wp2
          go_returns
          exact ⟨ret_pair (by rw [freeL_congr (fun p hp => HK.out p (by omega))]) rfl, by (exact jkc)⟩
        · go_enter Tryz.func233, Tryz.ntmps233
          go_wp2_with (first | (go_at_call 285; refine (pright_any _ _ _).mono ?_; rintro e w' ⟨rfl, rfl⟩) | (go_at_call 289; refine (marked_any (a : Int) (b : Int) oa l c xs _ hl r1 r3 (HS.out.on (by (exact jkc)))).mono ?_; rintro e w' ⟨g, rfl, ⟨osj, dj, rfl⟩, W, hM, hmk⟩; have HM := Lib.hid hM; have HK := Lib.hid hmk; clear hM hmk) | (go_at_call 290; refine (free_any g W q _ (HM.out.on (by (exact jkc))) (by omega)).mono ?_; rintro e w' ⟨rfl, rfl⟩; rw [HK.out q (by omega), HT.out]))
          refine wp_loop_rounds 4 ?_
          rw [rounds_succ]
          go_wp2_with (first | (go_at_call 291; first | ((with_reducible refine (count2_any g W a b _ (HM.out.on (by (exact jkc))) (by omega) (by omega)).mono ?_); rintro e w' ⟨rfl, rfl⟩; rw [freeL_congr (fun p hp => HK.out p (by omega)), ← HA.out]) | ((with_reducible refine (count2_any g W f b _ (HM.out.on (by (exact jkc))) (by omega) (by omega)).mono ?_); rintro e w' ⟨rfl, rfl⟩; rw [freeL_congr (fun p hp => HK.out p (by omega)), ← HA.out]) | ((with_reducible refine (count1_any g W a b _ (HM.out.on (by (exact jkc))) (by omega) (by omega)).mono ?_); rintro e w' ⟨rfl, rfl⟩; rw [freeL_congr (fun p hp => HK.out p (by omega)), ← HB.out])))
          refine wp_region_junk (by kernel_rfl) (by kernel_rfl) ?_; (repeat (refine wpQuiet_step (fun K hK => ?_); (go_simp; try go_bits); first | (refine hK _ ?_; clear hK K) | (apply Exists.intro; refine ⟨fun _ => ?_, hK _ ?_⟩; (first | (go_at_call 292; first | with_reducible exact Calls.junk_of (Calls.junk_of_same (pick2_any g W a b PL _ (HM.out.on (by (exact jkc))) (by omega) (by omega) hpl9)) | with_reducible exact Calls.junk_of (Calls.junk_of_same (pick2_any g W f b PL _ (HM.out.on (by (exact jkc))) (by omega) (by omega) hpl9)))); clear hK K))); refine wpQuiet_nil ?_; rintro _ ⟨⟨osq, dq⟩, rfl⟩
          go_wp2
          go_returns
          exact ⟨ret_pair (by rw [freeL_congr (fun p hp => HK.out p (by omega))]) rfl, by (exact jkc)⟩
    · obtain rfl : A = 0 := by omega
      rw [if_neg (by omega)] at hR
      by_cases hB0 : 0 < B
      · obtain ⟨PL, hPL⟩ : ∃ PL, PL = D % B := ⟨_, rfl⟩
        have hz1 : ((B : Int) == 0) = false := by simp; omega
        have hz2 : ¬ (B : Int) = 0 := by omega
        have hz3 : ¬ B = 0 := by omega
        have hpl : (D : Int) % (B : Int) = (PL : Int) := by omega
        rw [if_pos hB0, ← hPL] at hR
        rw [hR]
        have hpl9 : PL ≤ 4294967295 := by have := Nat.mod_lt D hB0; omega
        clear hR hPL hA0
        rcases hfc with ⟨rfl, hp⟩ | ⟨hf1, hp⟩
        · rcases hw3 with h3 | ⟨h3, h4⟩ | ⟨q, rfl, h3, h4, HT⟩
          · go_enter Tryz.func233, Tryz.ntmps233
            go_wp2_with (first | (go_at_call 285; refine (pright_any _ _ _).mono ?_; rintro e w' ⟨rfl, rfl⟩) | (go_at_call 289; refine (marked_any (a : Int) (b : Int) oa l c xs _ hl r1 r3 (HS.out.on (by (exact jkc)))).mono ?_; rintro e w' ⟨g, rfl, ⟨osj, dj, rfl⟩, W, hM, hmk⟩; have HM := Lib.hid hM; have HK := Lib.hid hmk; clear hM hmk) | (go_at_call 290; refine (free_any g W q _ (HM.out.on (by (exact jkc))) (by omega)).mono ?_; rintro e w' ⟨rfl, rfl⟩; rw [HK.out q (by omega), HT.out]))
            refine wp_loop_rounds 4 ?_
            rw [rounds_succ]
            go_wp2_with (first | (go_at_call 291; first | ((with_reducible refine (count2_any g W a b _ (HM.out.on (by (exact jkc))) (by omega) (by omega)).mono ?_); rintro e w' ⟨rfl, rfl⟩; rw [freeL_congr (fun p hp => HK.out p (by omega)), ← HA.out]) | ((with_reducible refine (count2_any g W f b _ (HM.out.on (by (exact jkc))) (by omega) (by omega)).mono ?_); rintro e w' ⟨rfl, rfl⟩; rw [freeL_congr (fun p hp => HK.out p (by omega)), ← HA.out]) | ((with_reducible refine (count1_any g W a b _ (HM.out.on (by (exact jkc))) (by omega) (by omega)).mono ?_); rintro e w' ⟨rfl, rfl⟩; rw [freeL_congr (fun p hp => HK.out p (by omega)), ← HB.out])))
            rw [rounds_succ]
            go_wp2_with (first | (go_at_call 291; first | ((with_reducible refine (count2_any g W a b _ (HM.out.on (by (exact jkc))) (by omega) (by omega)).mono ?_); rintro e w' ⟨rfl, rfl⟩; rw [freeL_congr (fun p hp => HK.out p (by omega)), ← HA.out]) | ((with_reducible refine (count2_any g W f b _ (HM.out.on (by (exact jkc))) (by omega) (by omega)).mono ?_); rintro e w' ⟨rfl, rfl⟩; rw [freeL_congr (fun p hp => HK.out p (by omega)), ← HA.out]) | ((with_reducible refine (count1_any g W a b _ (HM.out.on (by (exact jkc))) (by omega) (by omega)).mono ?_); rintro e w' ⟨rfl, rfl⟩; rw [freeL_congr (fun p hp => HK.out p (by omega)), ← HB.out])))
            refine wp_region_junk (by kernel_rfl) (by kernel_rfl) ?_; (repeat (refine wpQuiet_step (fun K hK => ?_); (go_simp; try go_bits); first | (refine hK _ ?_; clear hK K) | (apply Exists.intro; refine ⟨fun _ => ?_, hK _ ?_⟩; (first | (go_at_call 292; with_reducible exact Calls.junk_of (Calls.junk_of_same (pick1_any g W a b PL _ (HM.out.on (by (exact jkc))) (by omega) (by omega) hpl9)))); clear hK K))); refine wpQuiet_nil ?_; rintro _ ⟨⟨osq, dq⟩, rfl⟩
            go_wp2
            go_returns
            exact ⟨ret_pair (by rw [freeL_congr (fun p hp => HK.out p (by omega))]) rfl, by (exact jkc)⟩
          · go_enter Tryz.func233, Tryz.ntmps233
            go_wp2_with (first | (go_at_call 285; refine (pright_any _ _ _).mono ?_; rintro e w' ⟨rfl, rfl⟩) | (go_at_call 289; refine (marked_any (a : Int) (b : Int) oa l c xs _ hl r1 r3 (HS.out.on (by (exact jkc)))).mono ?_; rintro e w' ⟨g, rfl, ⟨osj, dj, rfl⟩, W, hM, hmk⟩; have HM := Lib.hid hM; have HK := Lib.hid hmk; clear hM hmk) | (go_at_call 290; refine (free_any g W q _ (HM.out.on (by (exact jkc))) (by omega)).mono ?_; rintro e w' ⟨rfl, rfl⟩; rw [HK.out q (by omega), HT.out]))
            refine wp_loop_rounds 4 ?_
            rw [rounds_succ]
            go_wp2_with (first | (go_at_call 291; first | ((with_reducible refine (count2_any g W a b _ (HM.out.on (by (exact jkc))) (by omega) (by omega)).mono ?_); rintro e w' ⟨rfl, rfl⟩; rw [freeL_congr (fun p hp => HK.out p (by omega)), ← HA.out]) | ((with_reducible refine (count2_any g W f b _ (HM.out.on (by (exact jkc))) (by omega) (by omega)).mono ?_); rintro e w' ⟨rfl, rfl⟩; rw [freeL_congr (fun p hp => HK.out p (by omega)), ← HA.out]) | ((with_reducible refine (count1_any g W a b _ (HM.out.on (by (exact jkc))) (by omega) (by omega)).mono ?_); rintro e w' ⟨rfl, rfl⟩; rw [freeL_congr (fun p hp => HK.out p (by omega)), ← HB.out])))
            rw [rounds_succ]
            go_wp2_with (first | (go_at_call 291; first | ((with_reducible refine (count2_any g W a b _ (HM.out.on (by (exact jkc))) (by omega) (by omega)).mono ?_); rintro e w' ⟨rfl, rfl⟩; rw [freeL_congr (fun p hp => HK.out p (by omega)), ← HA.out]) | ((with_reducible refine (count2_any g W f b _ (HM.out.on (by (exact jkc))) (by omega) (by omega)).mono ?_); rintro e w' ⟨rfl, rfl⟩; rw [freeL_congr (fun p hp => HK.out p (by omega)), ← HA.out]) | ((with_reducible refine (count1_any g W a b _ (HM.out.on (by (exact jkc))) (by omega) (by omega)).mono ?_); rintro e w' ⟨rfl, rfl⟩; rw [freeL_congr (fun p hp => HK.out p (by omega)), ← HB.out])))
            refine wp_region_junk (by kernel_rfl) (by kernel_rfl) ?_; (repeat (refine wpQuiet_step (fun K hK => ?_); (go_simp; try go_bits); first | (refine hK _ ?_; clear hK K) | (apply Exists.intro; refine ⟨fun _ => ?_, hK _ ?_⟩; (first | (go_at_call 292; with_reducible exact Calls.junk_of (Calls.junk_of_same (pick1_any g W a b PL _ (HM.out.on (by (exact jkc))) (by omega) (by omega) hpl9)))); clear hK K))); refine wpQuiet_nil ?_; rintro _ ⟨⟨osq, dq⟩, rfl⟩
            go_wp2
            go_returns
            exact ⟨ret_pair (by rw [freeL_congr (fun p hp => HK.out p (by omega))]) rfl, by (exact jkc)⟩
          · go_enter Tryz.func233, Tryz.ntmps233
            go_wp2_with (first | (go_at_call 285; refine (pright_any _ _ _).mono ?_; rintro e w' ⟨rfl, rfl⟩) | (go_at_call 289; refine (marked_any (a : Int) (b : Int) oa l c xs _ hl r1 r3 (HS.out.on (by (exact jkc)))).mono ?_; rintro e w' ⟨g, rfl, ⟨osj, dj, rfl⟩, W, hM, hmk⟩; have HM := Lib.hid hM; have HK := Lib.hid hmk; clear hM hmk) | (go_at_call 290; refine (free_any g W q _ (HM.out.on (by (exact jkc))) (by omega)).mono ?_; rintro e w' ⟨rfl, rfl⟩; rw [HK.out q (by omega), HT.out]))
            refine wp_loop_rounds 4 ?_
            rw [rounds_succ]
            go_wp2_with (first | (go_at_call 291; first | ((with_reducible refine (count2_any g W a b _ (HM.out.on (by (exact jkc))) (by omega) (by omega)).mono ?_); rintro e w' ⟨rfl, rfl⟩; rw [freeL_congr (fun p hp => HK.out p (by omega)), ← HA.out]) | ((with_reducible refine (count2_any g W f b _ (HM.out.on (by (exact jkc))) (by omega) (by omega)).mono ?_); rintro e w' ⟨rfl, rfl⟩; rw [freeL_congr (fun p hp => HK.out p (by omega)), ← HA.out]) | ((with_reducible refine (count1_any g W a b _ (HM.out.on (by (exact jkc))) (by omega) (by omega)).mono ?_); rintro e w' ⟨rfl, rfl⟩; rw [freeL_congr (fun p hp => HK.out p (by omega)), ← HB.out])))
            rw [rounds_succ]
            go_wp2_with (first | (go_at_call 291; first | ((with_reducible refine (count2_any g W a b _ (HM.out.on (by (exact jkc))) (by omega) (by omega)).mono ?_); rintro e w' ⟨rfl, rfl⟩; rw [freeL_congr (fun p hp => HK.out p (by omega)), ← HA.out]) | ((with_reducible refine (count2_any g W f b _ (HM.out.on (by (exact jkc))) (by omega) (by omega)).mono ?_); rintro e w' ⟨rfl, rfl⟩; rw [freeL_congr (fun p hp => HK.out p (by omega)), ← HA.out]) | ((with_reducible refine (count1_any g W a b _ (HM.out.on (by (exact jkc))) (by omega) (by omega)).mono ?_); rintro e w' ⟨rfl, rfl⟩; rw [freeL_congr (fun p hp => HK.out p (by omega)), ← HB.out])))
            refine wp_region_junk (by kernel_rfl) (by kernel_rfl) ?_; (repeat (refine wpQuiet_step (fun K hK => ?_); (go_simp; try go_bits); first | (refine hK _ ?_; clear hK K) | (apply Exists.intro; refine ⟨fun _ => ?_, hK _ ?_⟩; (first | (go_at_call 292; with_reducible exact Calls.junk_of (Calls.junk_of_same (pick1_any g W a b PL _ (HM.out.on (by (exact jkc))) (by omega) (by omega) hpl9)))); clear hK K))); refine wpQuiet_nil ?_; rintro _ ⟨⟨osq, dq⟩, rfl⟩
            go_wp2
            go_returns
            exact ⟨ret_pair (by rw [freeL_congr (fun p hp => HK.out p (by omega))]) rfl, by (exact jkc)⟩
        · rcases hw3 with h3 | ⟨h3, h4⟩ | ⟨q, rfl, h3, h4, HT⟩
          · go_enter Tryz.func233, Tryz.ntmps233
            go_wp2_with (first | (go_at_call 285; refine (pright_any _ _ _).mono ?_; rintro e w' ⟨rfl, rfl⟩) | (go_at_call 289; refine (marked_any (a : Int) (b : Int) oa l c xs _ hl r1 r3 (HS.out.on (by (exact jkc)))).mono ?_; rintro e w' ⟨g, rfl, ⟨osj, dj, rfl⟩, W, hM, hmk⟩; have HM := Lib.hid hM; have HK := Lib.hid hmk; clear hM hmk) | (go_at_call 290; refine (free_any g W q _ (HM.out.on (by (exact jkc))) (by omega)).mono ?_; rintro e w' ⟨rfl, rfl⟩; rw [HK.out q (by omega), HT.out]))
            refine wp_loop_rounds 4 ?_
            rw [rounds_succ]
            go_wp2_with (first | (go_at_call 291; first | ((with_reducible refine (count2_any g W a b _ (HM.out.on (by (exact jkc))) (by omega) (by omega)).mono ?_); rintro e w' ⟨rfl, rfl⟩; rw [freeL_congr (fun p hp => HK.out p (by omega)), ← HA.out]) | ((with_reducible refine (count2_any g W f b _ (HM.out.on (by (exact jkc))) (by omega) (by omega)).mono ?_); rintro e w' ⟨rfl, rfl⟩; rw [freeL_congr (fun p hp => HK.out p (by omega)), ← HA.out]) | ((with_reducible refine (count1_any g W a b _ (HM.out.on (by (exact jkc))) (by omega) (by omega)).mono ?_); rintro e w' ⟨rfl, rfl⟩; rw [freeL_congr (fun p hp => HK.out p (by omega)), ← HB.out])))
            rw [rounds_succ]
            go_wp2_with (first | (go_at_call 291; first | ((with_reducible refine (count2_any g W a b _ (HM.out.on (by (exact jkc))) (by omega) (by omega)).mono ?_); rintro e w' ⟨rfl, rfl⟩; rw [freeL_congr (fun p hp => HK.out p (by omega)), ← HA.out]) | ((with_reducible refine (count2_any g W f b _ (HM.out.on (by (exact jkc))) (by omega) (by omega)).mono ?_); rintro e w' ⟨rfl, rfl⟩; rw [freeL_congr (fun p hp => HK.out p (by omega)), ← HA.out]) | ((with_reducible refine (count1_any g W a b _ (HM.out.on (by (exact jkc))) (by omega) (by omega)).mono ?_); rintro e w' ⟨rfl, rfl⟩; rw [freeL_congr (fun p hp => HK.out p (by omega)), ← HB.out])))
            refine wp_region_junk (by kernel_rfl) (by kernel_rfl) ?_; (repeat (refine wpQuiet_step (fun K hK => ?_); (go_simp; try go_bits); first | (refine hK _ ?_; clear hK K) | (apply Exists.intro; refine ⟨fun _ => ?_, hK _ ?_⟩; (first | (go_at_call 292; with_reducible exact Calls.junk_of (Calls.junk_of_same (pick1_any g W a b PL _ (HM.out.on (by (exact jkc))) (by omega) (by omega) hpl9)))); clear hK K))); refine wpQuiet_nil ?_; rintro _ ⟨⟨osq, dq⟩, rfl⟩
            go_wp2
            go_returns
            exact ⟨ret_pair (by rw [freeL_congr (fun p hp => HK.out p (by omega))]) rfl, by (exact jkc)⟩
          · go_enter Tryz.func233, Tryz.ntmps233
            go_wp2_with (first | (go_at_call 285; refine (pright_any _ _ _).mono ?_; rintro e w' ⟨rfl, rfl⟩) | (go_at_call 289; refine (marked_any (a : Int) (b : Int) oa l c xs _ hl r1 r3 (HS.out.on (by (exact jkc)))).mono ?_; rintro e w' ⟨g, rfl, ⟨osj, dj, rfl⟩, W, hM, hmk⟩; have HM := Lib.hid hM; have HK := Lib.hid hmk; clear hM hmk) | (go_at_call 290; refine (free_any g W q _ (HM.out.on (by (exact jkc))) (by omega)).mono ?_; rintro e w' ⟨rfl, rfl⟩; rw [HK.out q (by omega), HT.out]))
            refine wp_loop_rounds 4 ?_
            rw [rounds_succ]
            go_wp2_with (first | (go_at_call 291; first | ((with_reducible refine (count2_any g W a b _ (HM.out.on (by (exact jkc))) (by omega) (by omega)).mono ?_); rintro e w' ⟨rfl, rfl⟩; rw [freeL_congr (fun p hp => HK.out p (by omega)), ← HA.out]) | ((with_reducible refine (count2_any g W f b _ (HM.out.on (by (exact jkc))) (by omega) (by omega)).mono ?_); rintro e w' ⟨rfl, rfl⟩; rw [freeL_congr (fun p hp => HK.out p (by omega)), ← HA.out]) | ((with_reducible refine (count1_any g W a b _ (HM.out.on (by (exact jkc))) (by omega) (by omega)).mono ?_); rintro e w' ⟨rfl, rfl⟩; rw [freeL_congr (fun p hp => HK.out p (by omega)), ← HB.out])))
            rw [rounds_succ]
            go_wp2_with (first | (go_at_call 291; first | ((with_reducible refine (count2_any g W a b _ (HM.out.on (by (exact jkc))) (by omega) (by omega)).mono ?_); rintro e w' ⟨rfl, rfl⟩; rw [freeL_congr (fun p hp => HK.out p (by omega)), ← HA.out]) | ((with_reducible refine (count2_any g W f b _ (HM.out.on (by (exact jkc))) (by omega) (by omega)).mono ?_); rintro e w' ⟨rfl, rfl⟩; rw [freeL_congr (fun p hp => HK.out p (by omega)), ← HA.out]) | ((with_reducible refine (count1_any g W a b _ (HM.out.on (by (exact jkc))) (by omega) (by omega)).mono ?_); rintro e w' ⟨rfl, rfl⟩; rw [freeL_congr (fun p hp => HK.out p (by omega)), ← HB.out])))
            refine wp_region_junk (by kernel_rfl) (by kernel_rfl) ?_; (repeat (refine wpQuiet_step (fun K hK => ?_); (go_simp; try go_bits); first | (refine hK _ ?_; clear hK K) | (apply Exists.intro; refine ⟨fun _ => ?_, hK _ ?_⟩; (first | (go_at_call 292; with_reducible exact Calls.junk_of (Calls.junk_of_same (pick1_any g W a b PL _ (HM.out.on (by (exact jkc))) (by omega) (by omega) hpl9)))); clear hK K))); refine wpQuiet_nil ?_; rintro _ ⟨⟨osq, dq⟩, rfl⟩
            go_wp2
            go_returns
            exact ⟨ret_pair (by rw [freeL_congr (fun p hp => HK.out p (by omega))]) rfl, by (exact jkc)⟩
          · go_enter Tryz.func233, Tryz.ntmps233
            go_wp2_with (first | (go_at_call 285; refine (pright_any _ _ _).mono ?_; rintro e w' ⟨rfl, rfl⟩) | (go_at_call 289; refine (marked_any (a : Int) (b : Int) oa l c xs _ hl r1 r3 (HS.out.on (by (exact jkc)))).mono ?_; rintro e w' ⟨g, rfl, ⟨osj, dj, rfl⟩, W, hM, hmk⟩; have HM := Lib.hid hM; have HK := Lib.hid hmk; clear hM hmk) | (go_at_call 290; refine (free_any g W q _ (HM.out.on (by (exact jkc))) (by omega)).mono ?_; rintro e w' ⟨rfl, rfl⟩; rw [HK.out q (by omega), HT.out]))
            refine wp_loop_rounds 4 ?_
            rw [rounds_succ]
            go_wp2_with (first | (go_at_call 291; first | ((with_reducible refine (count2_any g W a b _ (HM.out.on (by (exact jkc))) (by omega) (by omega)).mono ?_); rintro e w' ⟨rfl, rfl⟩; rw [freeL_congr (fun p hp => HK.out p (by omega)), ← HA.out]) | ((with_reducible refine (count2_any g W f b _ (HM.out.on (by (exact jkc))) (by omega) (by omega)).mono ?_); rintro e w' ⟨rfl, rfl⟩; rw [freeL_congr (fun p hp => HK.out p (by omega)), ← HA.out]) | ((with_reducible refine (count1_any g W a b _ (HM.out.on (by (exact jkc))) (by omega) (by omega)).mono ?_); rintro e w' ⟨rfl, rfl⟩; rw [freeL_congr (fun p hp => HK.out p (by omega)), ← HB.out])))
            rw [rounds_succ]
            go_wp2_with (first | (go_at_call 291; first | ((with_reducible refine (count2_any g W a b _ (HM.out.on (by (exact jkc))) (by omega) (by omega)).mono ?_); rintro e w' ⟨rfl, rfl⟩; rw [freeL_congr (fun p hp => HK.out p (by omega)), ← HA.out]) | ((with_reducible refine (count2_any g W f b _ (HM.out.on (by (exact jkc))) (by omega) (by omega)).mono ?_); rintro e w' ⟨rfl, rfl⟩; rw [freeL_congr (fun p hp => HK.out p (by omega)), ← HA.out]) | ((with_reducible refine (count1_any g W a b _ (HM.out.on (by (exact jkc))) (by omega) (by omega)).mono ?_); rintro e w' ⟨rfl, rfl⟩; rw [freeL_congr (fun p hp => HK.out p (by omega)), ← HB.out])))
            refine wp_region_junk (by kernel_rfl) (by kernel_rfl) ?_; (repeat (refine wpQuiet_step (fun K hK => ?_); (go_simp; try go_bits); first | (refine hK _ ?_; clear hK K) | (apply Exists.intro; refine ⟨fun _ => ?_, hK _ ?_⟩; (first | (go_at_call 292; with_reducible exact Calls.junk_of (Calls.junk_of_same (pick1_any g W a b PL _ (HM.out.on (by (exact jkc))) (by omega) (by omega) hpl9)))); clear hK K))); refine wpQuiet_nil ?_; rintro _ ⟨⟨osq, dq⟩, rfl⟩
            go_wp2
            go_returns
            exact ⟨ret_pair (by rw [freeL_congr (fun p hp => HK.out p (by omega))]) rfl, by (exact jkc)⟩
      · obtain rfl : B = 0 := by omega
        rw [if_neg (by omega)] at hR
        rw [hR]
        clear hR hA0 hB0
        rcases hfc with ⟨rfl, hp⟩ | ⟨hf1, hp⟩
        · rcases hw3 with h3 | ⟨h3, h4⟩ | ⟨q, rfl, h3, h4, HT⟩
          · go_enter Tryz.func233, Tryz.ntmps233
            go_wp2_with (first | (go_at_call 285; refine (pright_any _ _ _).mono ?_; rintro e w' ⟨rfl, rfl⟩) | (go_at_call 289; refine (marked_any (a : Int) (b : Int) oa l c xs _ hl r1 r3 (HS.out.on (by (exact jkc)))).mono ?_; rintro e w' ⟨g, rfl, ⟨osj, dj, rfl⟩, W, hM, hmk⟩; have HM := Lib.hid hM; have HK := Lib.hid hmk; clear hM hmk) | (go_at_call 290; refine (free_any g W q _ (HM.out.on (by (exact jkc))) (by omega)).mono ?_; rintro e w' ⟨rfl, rfl⟩; rw [HK.out q (by omega), HT.out]))
            refine wp_loop_rounds 4 ?_
            rw [rounds_succ]
            go_wp2_with (first | (go_at_call 291; first | ((with_reducible refine (count2_any g W a b _ (HM.out.on (by (exact jkc))) (by omega) (by omega)).mono ?_); rintro e w' ⟨rfl, rfl⟩; rw [freeL_congr (fun p hp => HK.out p (by omega)), ← HA.out]) | ((with_reducible refine (count2_any g W f b _ (HM.out.on (by (exact jkc))) (by omega) (by omega)).mono ?_); rintro e w' ⟨rfl, rfl⟩; rw [freeL_congr (fun p hp => HK.out p (by omega)), ← HA.out]) | ((with_reducible refine (count1_any g W a b _ (HM.out.on (by (exact jkc))) (by omega) (by omega)).mono ?_); rintro e w' ⟨rfl, rfl⟩; rw [freeL_congr (fun p hp => HK.out p (by omega)), ← HB.out])))
            rw [rounds_succ]
            go_wp2_with (first | (go_at_call 291; first | ((with_reducible refine (count2_any g W a b _ (HM.out.on (by (exact jkc))) (by omega) (by omega)).mono ?_); rintro e w' ⟨rfl, rfl⟩; rw [freeL_congr (fun p hp => HK.out p (by omega)), ← HA.out]) | ((with_reducible refine (count2_any g W f b _ (HM.out.on (by (exact jkc))) (by omega) (by omega)).mono ?_); rintro e w' ⟨rfl, rfl⟩; rw [freeL_congr (fun p hp => HK.out p (by omega)), ← HA.out]) | ((with_reducible refine (count1_any g W a b _ (HM.out.on (by (exact jkc))) (by omega) (by omega)).mono ?_); rintro e w' ⟨rfl, rfl⟩; rw [freeL_congr (fun p hp => HK.out p (by omega)), ← HB.out])))
            rw [rounds_succ]
            go_wp2
            go_returns
            exact ⟨ret_pair rfl rfl, by (exact jkc)⟩
          · go_enter Tryz.func233, Tryz.ntmps233
            go_wp2_with (first | (go_at_call 285; refine (pright_any _ _ _).mono ?_; rintro e w' ⟨rfl, rfl⟩) | (go_at_call 289; refine (marked_any (a : Int) (b : Int) oa l c xs _ hl r1 r3 (HS.out.on (by (exact jkc)))).mono ?_; rintro e w' ⟨g, rfl, ⟨osj, dj, rfl⟩, W, hM, hmk⟩; have HM := Lib.hid hM; have HK := Lib.hid hmk; clear hM hmk) | (go_at_call 290; refine (free_any g W q _ (HM.out.on (by (exact jkc))) (by omega)).mono ?_; rintro e w' ⟨rfl, rfl⟩; rw [HK.out q (by omega), HT.out]))
            refine wp_loop_rounds 4 ?_
            rw [rounds_succ]
            go_wp2_with (first | (go_at_call 291; first | ((with_reducible refine (count2_any g W a b _ (HM.out.on (by (exact jkc))) (by omega) (by omega)).mono ?_); rintro e w' ⟨rfl, rfl⟩; rw [freeL_congr (fun p hp => HK.out p (by omega)), ← HA.out]) | ((with_reducible refine (count2_any g W f b _ (HM.out.on (by (exact jkc))) (by omega) (by omega)).mono ?_); rintro e w' ⟨rfl, rfl⟩; rw [freeL_congr (fun p hp => HK.out p (by omega)), ← HA.out]) | ((with_reducible refine (count1_any g W a b _ (HM.out.on (by (exact jkc))) (by omega) (by omega)).mono ?_); rintro e w' ⟨rfl, rfl⟩; rw [freeL_congr (fun p hp => HK.out p (by omega)), ← HB.out])))
            rw [rounds_succ]
            go_wp2_with (first | (go_at_call 291; first | ((with_reducible refine (count2_any g W a b _ (HM.out.on (by (exact jkc))) (by omega) (by omega)).mono ?_); rintro e w' ⟨rfl, rfl⟩; rw [freeL_congr (fun p hp => HK.out p (by omega)), ← HA.out]) | ((with_reducible refine (count2_any g W f b _ (HM.out.on (by (exact jkc))) (by omega) (by omega)).mono ?_); rintro e w' ⟨rfl, rfl⟩; rw [freeL_congr (fun p hp => HK.out p (by omega)), ← HA.out]) | ((with_reducible refine (count1_any g W a b _ (HM.out.on (by (exact jkc))) (by omega) (by omega)).mono ?_); rintro e w' ⟨rfl, rfl⟩; rw [freeL_congr (fun p hp => HK.out p (by omega)), ← HB.out])))
            rw [rounds_succ]
            go_wp2
            go_returns
            exact ⟨ret_pair rfl rfl, by (exact jkc)⟩
          · go_enter Tryz.func233, Tryz.ntmps233
            go_wp2_with (first | (go_at_call 285; refine (pright_any _ _ _).mono ?_; rintro e w' ⟨rfl, rfl⟩) | (go_at_call 289; refine (marked_any (a : Int) (b : Int) oa l c xs _ hl r1 r3 (HS.out.on (by (exact jkc)))).mono ?_; rintro e w' ⟨g, rfl, ⟨osj, dj, rfl⟩, W, hM, hmk⟩; have HM := Lib.hid hM; have HK := Lib.hid hmk; clear hM hmk) | (go_at_call 290; refine (free_any g W q _ (HM.out.on (by (exact jkc))) (by omega)).mono ?_; rintro e w' ⟨rfl, rfl⟩; rw [HK.out q (by omega), HT.out]))
            refine wp_loop_rounds 4 ?_
            rw [rounds_succ]
            go_wp2_with (first | (go_at_call 291; first | ((with_reducible refine (count2_any g W a b _ (HM.out.on (by (exact jkc))) (by omega) (by omega)).mono ?_); rintro e w' ⟨rfl, rfl⟩; rw [freeL_congr (fun p hp => HK.out p (by omega)), ← HA.out]) | ((with_reducible refine (count2_any g W f b _ (HM.out.on (by (exact jkc))) (by omega) (by omega)).mono ?_); rintro e w' ⟨rfl, rfl⟩; rw [freeL_congr (fun p hp => HK.out p (by omega)), ← HA.out]) | ((with_reducible refine (count1_any g W a b _ (HM.out.on (by (exact jkc))) (by omega) (by omega)).mono ?_); rintro e w' ⟨rfl, rfl⟩; rw [freeL_congr (fun p hp => HK.out p (by omega)), ← HB.out])))
            rw [rounds_succ]
            go_wp2_with (first | (go_at_call 291; first | ((with_reducible refine (count2_any g W a b _ (HM.out.on (by (exact jkc))) (by omega) (by omega)).mono ?_); rintro e w' ⟨rfl, rfl⟩; rw [freeL_congr (fun p hp => HK.out p (by omega)), ← HA.out]) | ((with_reducible refine (count2_any g W f b _ (HM.out.on (by (exact jkc))) (by omega) (by omega)).mono ?_); rintro e w' ⟨rfl, rfl⟩; rw [freeL_congr (fun p hp => HK.out p (by omega)), ← HA.out]) | ((with_reducible refine (count1_any g W a b _ (HM.out.on (by (exact jkc))) (by omega) (by omega)).mono ?_); rintro e w' ⟨rfl, rfl⟩; rw [freeL_congr (fun p hp => HK.out p (by omega)), ← HB.out])))
            rw [rounds_succ]
            go_wp2
            go_returns
            exact ⟨ret_pair rfl rfl, by (exact jkc)⟩
        · rcases hw3 with h3 | ⟨h3, h4⟩ | ⟨q, rfl, h3, h4, HT⟩
          · go_enter Tryz.func233, Tryz.ntmps233
            go_wp2_with (first | (go_at_call 285; refine (pright_any _ _ _).mono ?_; rintro e w' ⟨rfl, rfl⟩) | (go_at_call 289; refine (marked_any (a : Int) (b : Int) oa l c xs _ hl r1 r3 (HS.out.on (by (exact jkc)))).mono ?_; rintro e w' ⟨g, rfl, ⟨osj, dj, rfl⟩, W, hM, hmk⟩; have HM := Lib.hid hM; have HK := Lib.hid hmk; clear hM hmk) | (go_at_call 290; refine (free_any g W q _ (HM.out.on (by (exact jkc))) (by omega)).mono ?_; rintro e w' ⟨rfl, rfl⟩; rw [HK.out q (by omega), HT.out]))
            refine wp_loop_rounds 4 ?_
            rw [rounds_succ]
            go_wp2_with (first | (go_at_call 291; first | ((with_reducible refine (count2_any g W a b _ (HM.out.on (by (exact jkc))) (by omega) (by omega)).mono ?_); rintro e w' ⟨rfl, rfl⟩; rw [freeL_congr (fun p hp => HK.out p (by omega)), ← HA.out]) | ((with_reducible refine (count2_any g W f b _ (HM.out.on (by (exact jkc))) (by omega) (by omega)).mono ?_); rintro e w' ⟨rfl, rfl⟩; rw [freeL_congr (fun p hp => HK.out p (by omega)), ← HA.out]) | ((with_reducible refine (count1_any g W a b _ (HM.out.on (by (exact jkc))) (by omega) (by omega)).mono ?_); rintro e w' ⟨rfl, rfl⟩; rw [freeL_congr (fun p hp => HK.out p (by omega)), ← HB.out])))
            rw [rounds_succ]
            go_wp2_with (first | (go_at_call 291; first | ((with_reducible refine (count2_any g W a b _ (HM.out.on (by (exact jkc))) (by omega) (by omega)).mono ?_); rintro e w' ⟨rfl, rfl⟩; rw [freeL_congr (fun p hp => HK.out p (by omega)), ← HA.out]) | ((with_reducible refine (count2_any g W f b _ (HM.out.on (by (exact jkc))) (by omega) (by omega)).mono ?_); rintro e w' ⟨rfl, rfl⟩; rw [freeL_congr (fun p hp => HK.out p (by omega)), ← HA.out]) | ((with_reducible refine (count1_any g W a b _ (HM.out.on (by (exact jkc))) (by omega) (by omega)).mono ?_); rintro e w' ⟨rfl, rfl⟩; rw [freeL_congr (fun p hp => HK.out p (by omega)), ← HB.out])))
            rw [rounds_succ]
            go_wp2
            go_returns
            exact ⟨ret_pair rfl rfl, by (exact jkc)⟩
          · go_enter Tryz.func233, Tryz.ntmps233
            go_wp2_with (first | (go_at_call 285; refine (pright_any _ _ _).mono ?_; rintro e w' ⟨rfl, rfl⟩) | (go_at_call 289; refine (marked_any (a : Int) (b : Int) oa l c xs _ hl r1 r3 (HS.out.on (by (exact jkc)))).mono ?_; rintro e w' ⟨g, rfl, ⟨osj, dj, rfl⟩, W, hM, hmk⟩; have HM := Lib.hid hM; have HK := Lib.hid hmk; clear hM hmk) | (go_at_call 290; refine (free_any g W q _ (HM.out.on (by (exact jkc))) (by omega)).mono ?_; rintro e w' ⟨rfl, rfl⟩; rw [HK.out q (by omega), HT.out]))
            refine wp_loop_rounds 4 ?_
            rw [rounds_succ]
            go_wp2_with (first | (go_at_call 291; first | ((with_reducible refine (count2_any g W a b _ (HM.out.on (by (exact jkc))) (by omega) (by omega)).mono ?_); rintro e w' ⟨rfl, rfl⟩; rw [freeL_congr (fun p hp => HK.out p (by omega)), ← HA.out]) | ((with_reducible refine (count2_any g W f b _ (HM.out.on (by (exact jkc))) (by omega) (by omega)).mono ?_); rintro e w' ⟨rfl, rfl⟩; rw [freeL_congr (fun p hp => HK.out p (by omega)), ← HA.out]) | ((with_reducible refine (count1_any g W a b _ (HM.out.on (by (exact jkc))) (by omega) (by omega)).mono ?_); rintro e w' ⟨rfl, rfl⟩; rw [freeL_congr (fun p hp => HK.out p (by omega)), ← HB.out])))
            rw [rounds_succ]
            go_wp2_with (first | (go_at_call 291; first | ((with_reducible refine (count2_any g W a b _ (HM.out.on (by (exact jkc))) (by omega) (by omega)).mono ?_); rintro e w' ⟨rfl, rfl⟩; rw [freeL_congr (fun p hp => HK.out p (by omega)), ← HA.out]) | ((with_reducible refine (count2_any g W f b _ (HM.out.on (by (exact jkc))) (by omega) (by omega)).mono ?_); rintro e w' ⟨rfl, rfl⟩; rw [freeL_congr (fun p hp => HK.out p (by omega)), ← HA.out]) | ((with_reducible refine (count1_any g W a b _ (HM.out.on (by (exact jkc))) (by omega) (by omega)).mono ?_); rintro e w' ⟨rfl, rfl⟩; rw [freeL_congr (fun p hp => HK.out p (by omega)), ← HB.out])))
            rw [rounds_succ]
            go_wp2
            go_returns
            exact ⟨ret_pair rfl rfl, by (exact jkc)⟩
          · go_enter Tryz.func233, Tryz.ntmps233
            go_wp2_with (first | (go_at_call 285; refine (pright_any _ _ _).mono ?_; rintro e w' ⟨rfl, rfl⟩) | (go_at_call 289; refine (marked_any (a : Int) (b : Int) oa l c xs _ hl r1 r3 (HS.out.on (by (exact jkc)))).mono ?_; rintro e w' ⟨g, rfl, ⟨osj, dj, rfl⟩, W, hM, hmk⟩; have HM := Lib.hid hM; have HK := Lib.hid hmk; clear hM hmk) | (go_at_call 290; refine (free_any g W q _ (HM.out.on (by (exact jkc))) (by omega)).mono ?_; rintro e w' ⟨rfl, rfl⟩; rw [HK.out q (by omega), HT.out]))
            refine wp_loop_rounds 4 ?_
            rw [rounds_succ]
            go_wp2_with (first | (go_at_call 291; first | ((with_reducible refine (count2_any g W a b _ (HM.out.on (by (exact jkc))) (by omega) (by omega)).mono ?_); rintro e w' ⟨rfl, rfl⟩; rw [freeL_congr (fun p hp => HK.out p (by omega)), ← HA.out]) | ((with_reducible refine (count2_any g W f b _ (HM.out.on (by (exact jkc))) (by omega) (by omega)).mono ?_); rintro e w' ⟨rfl, rfl⟩; rw [freeL_congr (fun p hp => HK.out p (by omega)), ← HA.out]) | ((with_reducible refine (count1_any g W a b _ (HM.out.on (by (exact jkc))) (by omega) (by omega)).mono ?_); rintro e w' ⟨rfl, rfl⟩; rw [freeL_congr (fun p hp => HK.out p (by omega)), ← HB.out])))
            rw [rounds_succ]
            go_wp2_with (first | (go_at_call 291; first | ((with_reducible refine (count2_any g W a b _ (HM.out.on (by (exact jkc))) (by omega) (by omega)).mono ?_); rintro e w' ⟨rfl, rfl⟩; rw [freeL_congr (fun p hp => HK.out p (by omega)), ← HA.out]) | ((with_reducible refine (count2_any g W f b _ (HM.out.on (by (exact jkc))) (by omega) (by omega)).mono ?_); rintro e w' ⟨rfl, rfl⟩; rw [freeL_congr (fun p hp => HK.out p (by omega)), ← HA.out]) | ((with_reducible refine (count1_any g W a b _ (HM.out.on (by (exact jkc))) (by omega) (by omega)).mono ?_); rintro e w' ⟨rfl, rfl⟩; rw [freeL_congr (fun p hp => HK.out p (by omega)), ← HB.out])))
            rw [rounds_succ]
            go_wp2
            go_returns
            exact ⟨ret_pair rfl rfl, by (exact jkc)⟩
end Go.Proofs.YtfhkhnoiolkkdaaGreatDoor
set_option linter.unusedVariables false
set_option maxRecDepth 100000
set_option linter.unusedSimpArgs false
namespace Go.Proofs.YtfhkhnoiolkkdaaGreatDoor
open Go.RowKit
structure Ln where
  proto : Int
  inn : Int
  inport : Int
  port : Int
  till : Int
deriving DecidableEq
def Ln.cells (x : Ln) : List Value := [.int .i64 x.proto, .int .u32 x.inn, .int .i64 x.inport, .int .i64 x.port, .int .i64 x.till]
abbrev Ln.val (x : Ln) : Value := .agg #[.int .i64 x.proto, .int .u32 x.inn, .int .i64 x.inport, .int .i64 x.port, .int .i64 x.till]
def LsAt (w : World) (oa : Option Addr) (L : List Ln) : Prop := ∀ i x, L[i]? = some x → ∃ b off, oa = some ⟨b, off, none⟩ ∧ b < w.heap.size ∧
  w.cell? ⟨b, off + i * 5, none⟩ = some (.int .i64 x.proto) ∧ w.cell? ⟨b, off + i * 5 + 1, none⟩ = some (.int .u32 x.inn) ∧ w.cell? ⟨b, off + i * 5 + 2, none⟩ = some (.int .i64 x.inport) ∧ w.cell? ⟨b, off + i * 5 + 3, none⟩ = some (.int .i64 x.port) ∧ w.cell? ⟨b, off + i * 5 + 4, none⟩ = some (.int .i64 x.till)
theorem LsAt.on {w w' : World} {oa : Option Addr} {L : List Ln} (h : LsAt w oa L) (hj : Junk w w') : LsAt w' oa L := fun i x hx => by
  obtain ⟨b, off, he, hlt, h0, h1, h2, h3, h4⟩ := h i x hx
  have hb := hj.below (Nat.le_refl _)
  exact ⟨b, off, he, Nat.lt_of_lt_of_le hlt hb.size, (hb.cell (p := ⟨b, _, none⟩) hlt).trans h0, (hb.cell (p := ⟨b, _, none⟩) hlt).trans h1, (hb.cell (p := ⟨b, _, none⟩) hlt).trans h2, (hb.cell (p := ⟨b, _, none⟩) hlt).trans h3, (hb.cell (p := ⟨b, _, none⟩) hlt).trans h4⟩
theorem LsAt.take {w : World} {oa : Option Addr} {L : List Ln} (h : LsAt w oa L) (k : Nat) : LsAt w oa (L.take k) := fun i x hx => h i x (by
  rw [List.getElem?_take] at hx
  split at hx
  · exact hx
  · cases hx)
theorem LsAt.nil (w : World) (oa : Option Addr) : LsAt w oa [] := fun i x hx => by simp at hx
def lnsL (L : List Ln) : List Value := (L.map Ln.cells).flatten
theorem Ln.cells_len (x : Ln) : x.cells.length = 5 := rfl
theorem lnsL_cons (x : Ln) (L : List Ln) : lnsL (x :: L) = x.cells ++ lnsL L := rfl
theorem lnsL_len : ∀ L : List Ln, (lnsL L).length = L.length * 5
  | [] => rfl
  | x :: L => by rw [lnsL_cons, List.length_append, lnsL_len L, Ln.cells_len, List.length_cons]; omega
theorem lnsL_one (L : List Ln) (x : Ln) : lnsL L ++ x.cells = lnsL (L ++ [x]) := by unfold lnsL; rw [List.map_append, List.flatten_append]; simp
theorem lnsL_get : ∀ (L : List Ln) (i : Nat) (x : Ln), L[i]? = some x → ∀ j, j < 5 → (lnsL L)[i * 5 + j]? = x.cells[j]?
  | [], i, x, h, _, _ => by simp at h
  | g :: L, 0, x, h, j, hj => by
    simp only [List.getElem?_cons_zero, Option.some.injEq] at h
    subst h
    rw [lnsL_cons, Nat.zero_mul, Nat.zero_add, List.getElem?_append_left (by rw [Ln.cells_len]; exact hj)]
  | g :: L, i + 1, x, h, j, hj => by
    rw [List.getElem?_cons_succ] at h
    rw [lnsL_cons, List.getElem?_append_right (by rw [Ln.cells_len]; omega), Ln.cells_len, show (i + 1) * 5 + j - 5 = i * 5 + j by omega]
    exact lnsL_get L i x h j hj
theorem own_ls {B : Nat} {w : World} {e : TypeId} {oa : Option Addr} {cap n : Nat} {L : List Ln} (h : Own B w e 5 oa cap n (lnsL L)) : LsAt w oa L := fun i x hx => by
  have hk : ∀ k v, k < 5 → x.cells[k]? = some v → ∃ g, oa = some ⟨g, 0, none⟩ ∧ g < w.heap.size ∧ w.cell? ⟨g, 0 + i * 5 + k, none⟩ = some v := fun k v hk hv => by
    obtain ⟨g', h1, _, h3, h2, _⟩ := h.cells (i * 5 + k) v (by rw [lnsL_get L i x hx k hk]; exact hv)
    exact ⟨g', h1, h3, by rw [Nat.zero_add]; exact h2⟩
  obtain ⟨g, h1, h2, c0⟩ := hk 0 _ (by decide) rfl
  obtain ⟨g1, e1, _, c1⟩ := hk 1 _ (by decide) rfl
  obtain ⟨g2, e2, _, c2⟩ := hk 2 _ (by decide) rfl
  obtain ⟨g3, e3, _, c3⟩ := hk 3 _ (by decide) rfl
  obtain ⟨g4, e4, _, c4⟩ := hk 4 _ (by decide) rfl
  rw [h1] at e1 e2 e3 e4
  cases e1; cases e2; cases e3; cases e4
  exact ⟨g, 0, h1, h2, c0, c1, c2, c3, c4⟩
theorem Ln.one (x : Ln) : ∀ u ∈ x.cells, u.oneCell' = true := by intro u hu; simp only [Ln.cells, List.mem_cons, List.not_mem_nil, or_false] at hu; rcases hu with rfl | rfl | rfl | rfl | rfl <;> rfl
theorem lnsL_one' (L : List Ln) : ∀ u ∈ lnsL L, u.oneCell' = true := by
  intro u hu
  simp only [lnsL, List.mem_flatten, List.mem_map] at hu
  obtain ⟨l, ⟨x, _, rfl⟩, hu⟩ := hu
  exact x.one u hu
theorem LsAt.src {w : World} {oa : Option Addr} {L : List Ln} (h : LsAt w oa L) : ∀ ad, oa = some ad → ∀ j u, (lnsL L)[j]? = some u → w.cell? (ad.add j) = some u := by
  intro ad had j u hu
  have hj : j < L.length * 5 := by rw [← lnsL_len]; exact (List.getElem?_eq_some_iff.1 hu).1
  obtain ⟨i, k, hk, rfl⟩ : ∃ i k, k < 5 ∧ j = i * 5 + k := ⟨j / 5, j % 5, by omega, by omega⟩
  have hi : i < L.length := by omega
  have hx : L[i]? = some L[i] := List.getElem?_eq_getElem hi
  rw [lnsL_get L i _ hx k hk] at hu
  obtain ⟨b, off, he, _, h0, h1, h2, h3, h4⟩ := h i _ hx
  rw [had] at he
  cases he
  rw [Addr.add_lit]
  rw [← Nat.add_assoc]
  rcases k with _ | _ | _ | _ | _ | k
  · simp [Ln.cells] at hu; rw [← hu]; exact h0
  · simp [Ln.cells] at hu; rw [← hu]; exact h1
  · simp [Ln.cells] at hu; rw [← hu]; exact h2
  · simp [Ln.cells] at hu; rw [← hu]; exact h3
  · simp [Ln.cells] at hu; rw [← hu]; exact h4
  · omega
def withinN (n lo hi : Int) : Bool := decide (lo ≤ n ∧ n ≤ hi)
theorem nwithin_any (n lo hi : Int) (w : World) : Calls Tryz.prog 286 #[.int .i64 n, .int .i64 lo, .int .i64 hi] w fun e w' => e = .returned (.bool (withinN n lo hi)) ∧ w = w' := by
  by_cases h1 : lo ≤ n
  · go_enter Tryz.func286, Tryz.ntmps286
    go_wp2
    go_ret
    exact ⟨ret_bool (by simp [withinN, h1]), rfl⟩
  · go_enter Tryz.func286, Tryz.ntmps286
    go_wp2
    go_ret
    exact ⟨ret_bool (by simp [withinN]; omega), rfl⟩
def namedB (x : Ln) : Bool := withinN x.proto 0 255 && withinN x.inport 0 65535 && withinN x.till 0 1099511627776
theorem named_any (x : Ln) (w : World) : Calls Tryz.prog 230 #[x.val] w fun e w' => e = .returned (.bool (namedB x)) ∧ Junk w w' := by
  obtain ⟨xp, xi, xn, xo, xt⟩ := x
  cases h1 : withinN xp 0 255 with
  | false =>
    go_enter Tryz.func230, Tryz.ntmps230
    go_wp2_with (first | (go_at_call 286; refine (nwithin_any _ _ _ _).mono ?_; rintro e w' ⟨rfl, rfl⟩; (try rw [h1])))
    go_ret
    exact ⟨ret_bool (by simp [namedB, h1]), by (exact jkc)⟩
  | true =>
    cases h2 : withinN xn 0 65535 with
    | false =>
      go_enter Tryz.func230, Tryz.ntmps230
      go_wp2_with (first | (go_at_call 286; refine (nwithin_any _ _ _ _).mono ?_; rintro e w' ⟨rfl, rfl⟩; (try rw [h1]); (try rw [h2])))
      go_ret
      exact ⟨ret_bool (by simp [namedB, h1, h2]), by (exact jkc)⟩
    | true =>
      go_enter Tryz.func230, Tryz.ntmps230
      go_wp2_with (first | (go_at_call 286; refine (nwithin_any _ _ _ _).mono ?_; rintro e w' ⟨rfl, rfl⟩; (try rw [h1]); (try rw [h2])))
      go_ret
      exact ⟨ret_bool (by simp [namedB, h1, h2]), by (exact jkc)⟩
def outerB (x y : Ln) : Bool := x.proto == y.proto && x.port == y.port
def innerB (x y : Ln) : Bool := x.proto == y.proto && x.inn == y.inn && x.inport == y.inport
theorem outer_any (x y : Ln) (w : World) : Calls Tryz.prog 287 #[x.val, y.val] w fun e w' => e = .returned (.bool (outerB x y)) ∧ Junk w w' := by
  cases h1 : x.proto == y.proto with
  | false =>
    go_enter Tryz.func287, Tryz.ntmps287
    go_wp2
    go_ret
    exact ⟨ret_bool (by simp [outerB, h1]), by (exact jkc)⟩
  | true =>
    go_enter Tryz.func287, Tryz.ntmps287
    go_wp2
    go_ret
    exact ⟨ret_bool (by simp [outerB, h1]), by (exact jkc)⟩
theorem inner_any (x y : Ln) (w : World) : Calls Tryz.prog 232 #[x.val, y.val] w fun e w' => e = .returned (.bool (innerB x y)) ∧ Junk w w' := by
  cases h1 : x.proto == y.proto with
  | false =>
    go_enter Tryz.func232, Tryz.ntmps232
    go_wp2
    go_ret
    exact ⟨ret_bool (by simp [innerB, h1]), by (exact jkc)⟩
  | true =>
    cases h2 : x.inn == y.inn with
    | false =>
      go_enter Tryz.func232, Tryz.ntmps232
      go_wp2
      go_ret
      exact ⟨ret_bool (by simp [innerB, h1, h2]), by (exact jkc)⟩
    | true =>
      go_enter Tryz.func232, Tryz.ntmps232
      go_wp2
      go_ret
      exact ⟨ret_bool (by simp [innerB, h1, h2]), by (exact jkc)⟩
end Go.Proofs.YtfhkhnoiolkkdaaGreatDoor
