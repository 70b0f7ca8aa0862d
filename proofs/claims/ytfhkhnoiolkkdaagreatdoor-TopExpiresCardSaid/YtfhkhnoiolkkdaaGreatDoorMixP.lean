/- A region that draws its order, over a class of worlds that is told by a property; a whole struct stored in it. -/
import Derived.Test.YtfhkhnoiolkkdaaGreatDoorTcpA
import Derived.LoopN
import Derived.Test.YtfhkhnoiolkkdaaGreatDoorIpA
import Derived.Laws.CopyRow
import Derived.Lib.AppendZerosOnto
import Derived.Lib.Overlaps
import Derived.Deep.WholeRow
import Derived.Laws.BitsAllLaws
set_option linter.unusedVariables false
set_option maxRecDepth 100000
set_option linter.unusedSimpArgs false
namespace Go.Proofs.YtfhkhnoiolkkdaaGreatDoor
open Go.RowKit
structure Ot where
  k : Int
  oa : Option Addr
  l : Nat
  c : Nat
  xs : Nat → Int
abbrev Ot.val (f : Ot) : Value := .agg #[.int .i64 f.k, .slice f.oa f.l f.c]
def Ot.cells (f : Ot) : List Value := [.int .i64 f.k, .slice f.oa f.l f.c]
def OsAt (w : World) (ob : Option Addr) (F : List Ot) : Prop := ∀ i f, F[i]? = some f → ∃ b off, ob = some ⟨b, off, none⟩ ∧ b < w.heap.size ∧
  w.cell? ⟨b, off + i * 2, none⟩ = some (.int .i64 f.k) ∧ w.cell? ⟨b, off + i * 2 + 1, none⟩ = some (.slice f.oa f.l f.c) ∧ Bts w f.oa f.l f.c f.xs
theorem OsAt.on {w w' : World} {ob : Option Addr} {F : List Ot} (h : OsAt w ob F) (hj : Junk w w') : OsAt w' ob F := fun i f hf => by
  obtain ⟨b, off, he, hlt, h0, h1, h2⟩ := h i f hf
  have hb := hj.below (Nat.le_refl _)
  exact ⟨b, off, he, Nat.lt_of_lt_of_le hlt hb.size, (hb.cell (p := ⟨b, _, none⟩) hlt).trans h0, (hb.cell (p := ⟨b, _, none⟩) hlt).trans h1, h2.on hj⟩
theorem OsAt.take {w : World} {ob : Option Addr} {F : List Ot} (h : OsAt w ob F) (k : Nat) : OsAt w ob (F.take k) := fun i f hf => h i f (by
  rw [List.getElem?_take] at hf
  split at hf
  · exact hf
  · cases hf)
theorem OsAt.nil (w : World) (ob : Option Addr) : OsAt w ob [] := fun i f hf => by simp at hf
end Go.Proofs.YtfhkhnoiolkkdaaGreatDoor
set_option linter.unusedVariables false
set_option maxRecDepth 100000
namespace Go
inductive MixT where
  | nil
  | q (k : Nat) (r : MixT)
  | e (k : Nat) (r : MixT)
  | two (k1 : Nat) (r1 : MixT) (k2 : Nat) (r2 : MixT)
def MixT.len : MixT → Nat
  | .nil => 0
  | .q _ r => r.len + 1
  | .e _ r => r.len + 1
  | .two _ r1 _ _ => r1.len + 1
section
variable {P : Program} {ops : Array Oper} {md : Region.Mode} {D : World → Prop}
def Region.mixTB (md : Region.Mode) (ops : Array Oper) : MixT → Array Bool → Bool
  | .nil, listed => (Region.ready md ops listed).isEmpty
  | .q k r, listed => ((Region.ready md ops listed).contains k && Region.free md ops listed k) && Region.mixTB md ops r (listed.setIfInBounds k true)
  | .e k r, listed => decide (Region.ready md ops listed = [k]) && Region.mixTB md ops r (listed.setIfInBounds k true)
  | .two k1 r1 k2 r2, listed => (decide (Region.ready md ops listed = [k1, k2]) && decide (r1.len = r2.len)) && (Region.mixTB md ops r1 (listed.setIfInBounds k1 true) && Region.mixTB md ops r2 (listed.setIfInBounds k2 true))
def wpMixT (P : Program) (ops : Array Oper) (D : World → Prop) (Q : Act → World → Prop) : MixT → Act → World → Prop
  | .nil, a, w => ∀ w', Junk w w' → Q a w'
  | .q k r, a, w => match ops[k]? with
    | none => False
    | some o => if Region.wanted o (yielded ops a.tmps) then ∃ v, (∀ w, D w → o.quietAt P a (Junk w) w v) ∧ wpMixT P ops D Q r (a.put o.dst v) w else wpMixT P ops D Q r (a.put o.dst undef) w
  | .e k r, a, w => ∀ w', Junk w w' → wpE P ops k (fun a' w'' => D w'' ∧ wpMixT P ops D Q r a' w'') a w'
  | .two k1 r1 k2 r2, a, w => (∀ w', Junk w w' → wpE P ops k1 (fun a' w'' => D w'' ∧ wpMixT P ops D Q r1 a' w'') a w') ∧ (∀ w', Junk w w' → wpE P ops k2 (fun a' w'' => D w'' ∧ wpMixT P ops D Q r2 a' w'') a w')
theorem wpMixT_q {Q : Act → World → Prop} {k : Nat} {r : MixT} {o : Oper} {a : Act} {w : World} (ho : ops[k]? = some o)
    (h : ∀ K : Act → Prop, (∀ a, wpMixT P ops D Q r a w → K a) → if Region.wanted o (yielded ops a.tmps) then ∃ v, (∀ w, D w → o.quietAt P a (Junk w) w v) ∧ K (a.put o.dst v) else K (a.put o.dst undef)) :
    wpMixT P ops D Q (.q k r) a w := by
  unfold wpMixT
  simp only [ho]
  exact h _ (fun _ h => h)
theorem wpE_of {Q : Act → World → Prop} {k : Nat} {o : Oper} {a : Act} {w : World} (ho : ops[k]? = some o)
    (h : ∀ os d, ∀ K : Act → World → Prop, (∀ a w', Q a w' → K a w') → if Region.wanted o (yielded ops a.tmps) then o.wp P a (w.junk os d) K NoExit else K (a.put o.dst undef) (w.junk os d)) :
    ∀ w', Junk w w' → wpE P ops k Q a w' := by
  rintro w' ⟨os, d, rfl⟩
  unfold wpE
  simp only [ho]
  exact h os d _ (fun _ _ h => h)
theorem wpMixT_e {Q : Act → World → Prop} {k : Nat} {r : MixT} {o : Oper} {a : Act} {w : World} (ho : ops[k]? = some o)
    (h : ∀ os d, ∀ K : Act → World → Prop, (∀ a w', D w' → wpMixT P ops D Q r a w' → K a w') → if Region.wanted o (yielded ops a.tmps) then o.wp P a (w.junk os d) K NoExit else K (a.put o.dst undef) (w.junk os d)) :
    wpMixT P ops D Q (.e k r) a w := by
  unfold wpMixT
  exact wpE_of ho fun os d K hK => h os d K fun a w' h1 h2 => hK a w' ⟨h1, h2⟩
theorem wpMixT_two {Q : Act → World → Prop} {k1 k2 : Nat} {r1 r2 : MixT} {a : Act} {w : World} (h1 : wpMixT P ops D Q (.e k1 r1) a w) (h2 : wpMixT P ops D Q (.e k2 r2) a w) : wpMixT P ops D Q (.two k1 r1 k2 r2) a w := by
  unfold wpMixT at h1 h2 ⊢
  exact ⟨h1, h2⟩
theorem wpMixT_nil {Q : Act → World → Prop} {a : Act} {w : World} (h : ∀ os d, Q a (w.junk os d)) : wpMixT P ops D Q .nil a w := by
  unfold wpMixT
  rintro w' ⟨os, d, rfl⟩
  exact h os d
theorem wpAnyD_mixT (hcl : ∀ w w', D w → Junk w w' → D w') {Q : Act → World → Prop} (hsel : Region.noSelect ops = true) : ∀ (π : MixT) (listed : Array Bool) (a : Act) (w : World),
    Region.mixTB md ops π listed = true → D w → wpMixT P ops D Q π a w → wpAnyD P md ops D Q π.len listed a w
  | .nil, _, _, _, hB, _, h => ⟨by simpa [Region.mixTB] using hB, by unfold wpMixT at h; exact h⟩
  | .q k r, listed, a, w, hB, hD, h => by
    simp only [Region.mixTB, Bool.and_eq_true] at hB
    obtain ⟨⟨hr, hf⟩, hB'⟩ := hB
    unfold wpMixT at h
    split at h
    · exact h.elim
    · rename_i o ho
      have hk : ∃ v, YieldsJ P ops D o v a ∧ wpMixT P ops D Q r (a.put o.dst v) w := by
        split at h
        · rename_i hw; obtain ⟨v, h1, h2⟩ := h; exact ⟨v, .inl ⟨hw, h1⟩, h2⟩
        · rename_i hw; exact ⟨undef, .inr ⟨by simpa using hw, rfl⟩, h⟩
      obtain ⟨v, hy, h2⟩ := hk
      exact wpAnyD_first hcl ho (Region.noSelect_spec hsel) r.len listed a w (Region.free_spec ho hf) (by simpa using hr) hy hD (wpAnyD_mixT hcl hsel r _ _ w hB' hD h2)
  | .e k r, listed, a, w, hB, hD, h => by
    simp only [Region.mixTB, Bool.and_eq_true, decide_eq_true_eq] at hB
    obtain ⟨hr, hB'⟩ := hB
    unfold wpMixT at h
    refine ⟨fun h0 => (by rw [hr] at h0; cases h0), fun i hi w' hw' => ?_⟩
    rw [hr] at hi
    obtain rfl : i = k := by simpa using hi
    exact wpE_mono (fun a' w'' h' => ⟨h'.1, wpAnyD_mixT hcl hsel r _ a' w'' hB' h'.1 h'.2⟩) (h w' hw')
  | .two k1 r1 k2 r2, listed, a, w, hB, hD, h => by
    simp only [Region.mixTB, Bool.and_eq_true, decide_eq_true_eq] at hB
    obtain ⟨⟨hr, hlen⟩, hB1, hB2⟩ := hB
    unfold wpMixT at h
    refine ⟨fun h0 => (by rw [hr] at h0; cases h0), fun i hi w' hw' => ?_⟩
    rw [hr] at hi
    rcases (show i = k1 ∨ i = k2 by simpa using hi) with rfl | rfl
    · exact wpE_mono (fun a' w'' h' => ⟨h'.1, wpAnyD_mixT hcl hsel r1 _ a' w'' hB1 h'.1 h'.2⟩) (h.1 w' hw')
    · refine wpE_mono (fun a' w'' h' => ⟨h'.1, ?_⟩) (h.2 w' hw')
      have := wpAnyD_mixT hcl hsel r2 _ a' w'' hB2 h'.1 h'.2
      rw [← hlen] at this
      exact this
theorem wp_region_mixTj {id : Nat} {Q : Exit → Act → World → Prop} {a : Act} {w : World} {l : List Oper} (W0 : World) (π : MixT) (hm : P.follows .mixedOrders = true)
    (hB : (Region.noSelect l.toArray && decide (π.len = l.length) && Region.mixTB .any l.toArray π (Array.replicate l.length false)) = true) (hj : Junk W0 w)
    (h : wpMixT P l.toArray (fun w' => ∃ x : Jk, w' = W0.junk x.os x.d) (fun a' w' => Q .normal a' w') π a w.drew) : (Code.region id l.toArray true).wp P Q a w := by
  simp only [Bool.and_eq_true, decide_eq_true_eq] at hB
  refine wp_region_any hm (wpAny_of_D (D := fun w' => ∃ x : Jk, w' = W0.junk x.os x.d) (Q := fun a' w' => Q .normal a' w') (fun _ _ h => h) _ _ _ _ ?_)
  have := wpAnyD_mixT (P := P) (md := .any) (D := fun w' => ∃ x : Jk, w' = W0.junk x.os x.d) (fun _ _ h1 h2 => InJunk.on (w := W0) h1 h2) hB.1.1 π _ a w.drew hB.2 hj.drew.pair h
  rw [hB.1.2] at this
  simpa using this
end
end Go
set_option linter.unusedVariables false
set_option maxRecDepth 100000
namespace Go
section
variable {P : Program} {ops : Array Oper} {md : Region.Mode} {D : World → Prop} {late : List Nat}
def Region.lateT (md : Region.Mode) (ops : Array Oper) (late : List Nat) : Bool := late.all fun t => (List.range ops.size).all fun i => late.contains i || Region.downB md ops ops.size i t
theorem Region.lateT_spec (h : Region.lateT md ops late = true) {t : Nat} (ht : t ∈ late) {listed : Array Bool} {i : Nat} (hc : Region.Closed md ops listed) (hr : t ∈ Region.ready md ops listed) (hi : i ∉ late) (his : i < ops.size) : listed.getD i false = true := by
  unfold Region.lateT at h
  obtain ⟨_, o, ho, hall⟩ := mem_ready.1 hr
  simp only [List.all_eq_true, List.mem_range, Bool.or_eq_true, List.contains_eq_mem, decide_eq_true_eq] at h
  rcases h t ht i his with h1 | h1
  · exact absurd h1 hi
  · refine Region.downB_listed hc _ t (fun o' ho' e he hb => ?_) h1
    rw [ho] at ho'
    cases ho'
    exact hall e he hb
def Region.endsM (late : List Nat) : List (Nat × Bool) → Bool
  | [] => true
  | (k, q) :: r => (if q then !late.contains k else (!late.contains k || r.all (fun x => !x.2))) && Region.endsM late r
def wpAnyM (P : Program) (md : Region.Mode) (ops : Array Oper) (D : World → Prop) (late : List Nat) (Q : Act → World → Prop) : Nat → Array Bool → Act → World → Prop
  | 0, listed, a, w => Region.ready md ops listed = [] ∧ ∀ w', Junk w w' → Q a w'
  | f + 1, listed, a, w => (Region.ready md ops listed = [] → ∀ w', Junk w w' → Q a w') ∧
    ∀ i ∈ Region.ready md ops listed, ∀ w', Junk w w' → wpE P ops i (fun a' w'' => (i ∈ late ∨ D w'') ∧ wpAnyM P md ops D late Q f (listed.setIfInBounds i true) a' w'') a w'
theorem wpAnyM_junk {Q : Act → World → Prop} : ∀ {f : Nat} {listed : Array Bool} {a : Act} {w w' : World}, Junk w w' → wpAnyM P md ops D late Q f listed a w → wpAnyM P md ops D late Q f listed a w'
  | 0, _, _, _, _, hj, h => ⟨h.1, fun _ h' => h.2 _ (hj.trans h')⟩
  | _ + 1, _, _, _, _, hj, h => ⟨fun h0 _ h' => h.1 h0 _ (hj.trans h'), fun i hi _ h' => h.2 i hi _ (hj.trans h')⟩
theorem wpAny_of_M {Q : Act → World → Prop} {Q' : Exit → Act → World → Prop} (hQ : ∀ a w, Q a w → Q' .normal a w) : ∀ (f : Nat) (listed : Array Bool) (a : Act) (w : World), wpAnyM P md ops D late Q f listed a w → wpAny P md ops Q' f listed a w
  | 0, _, _, _, h => ⟨h.1, hQ _ _ (h.2 _ (Junk.refl _))⟩
  | f + 1, _, _, _, h => ⟨fun h0 => hQ _ _ (h.1 h0 _ (Junk.refl _)), fun i hi => wpOp_mono (fun a' w' h' => wpAny_of_M hQ f _ a' w' h'.2) (wpOp_of_wpE (h.2 i hi _ (Junk.refl _)))⟩
theorem wpAnyM_first (hcl : ∀ w w', D w → Junk w w' → D w') {Q : Act → World → Prop} {i : Nat} {oi : Oper} {v : Value} (hi : ops[i]? = some oi) (hsel : ∀ (j : Nat) (o : Oper) cs b, ops[j]? = some o → o.op ≠ .select cs b) (hlast : Region.lateT md ops late = true) (hil : i ∉ late) :
    ∀ (f : Nat) (listed : Array Bool) (a : Act) (w : World),
      (∀ j oj, ops[j]? = some oj → j ≠ i → listed.getD j true = false → (∀ e ∈ oj.after, Region.binds md e = true → e.on ≠ i) → oi.apart ops oj = true) →
      i ∈ Region.ready md ops listed → Region.Closed md ops listed → YieldsJ P ops D oi v a → D w →
      wpAnyM P md ops D late Q f (listed.setIfInBounds i true) (a.put oi.dst v) w → wpAnyM P md ops D late Q (f + 1) listed a w := by
  intro f
  induction f with
  | zero =>
    intro listed a w _ hr hcs hy hD H
    refine ⟨fun h => (by rw [h] at hr; cases hr), fun j hj w' hw' => ?_⟩
    by_cases hji : j = i
    · subst hji; exact hy.wpE hi (hcl _ _ hD hw') fun w'' hw'' => ⟨.inr (hcl _ _ (hcl _ _ hD hw') hw''), wpAnyM_junk (hw'.trans hw'') H⟩
    · have := ready_mono hj hji
      rw [H.1] at this
      cases this
  | succ f ih =>
    intro listed a w hfree hr hcs hy hD H
    refine ⟨fun h => (by rw [h] at hr; cases hr), fun j hj w' hw' => ?_⟩
    by_cases hji : j = i
    · subst hji; exact hy.wpE hi (hcl _ _ hD hw') fun w'' hw'' => ⟨.inr (hcl _ _ (hcl _ _ hD hw') hw''), wpAnyM_junk (hw'.trans hw'') H⟩
    · have hjl : j ∉ late := fun h => by
        have h0 := (mem_ready.1 hr).1
        have h1 := Region.lateT_spec hlast h hcs hj hil (Array.getElem?_eq_some_iff.1 hi).1
        rcases Nat.lt_or_ge i listed.size with h' | h'
        · simp [h'] at h0 h1; rw [h0] at h1; cases h1
        · simp [Array.getElem?_eq_none h'] at h1
      have h1 := H.2 j (ready_mono hj hji) w' hw'
      obtain ⟨hjun, oj, hoj, hall⟩ := mem_ready.1 hj
      have hnot : ∀ e ∈ oj.after, Region.binds md e = true → e.on ≠ i := fun e he hb heq => by
        have h1 := hall e he hb
        have h0 := (mem_ready.1 hr).1
        rw [heq] at h1
        rcases Nat.lt_or_ge i listed.size with h' | h'
        · simp [h'] at h0 h1; rw [h0] at h1; cases h1
        · simp [Array.getElem?_eq_none h'] at h1
      have h2 := wpE_put hoj (hfree j oj hoj hji hjun hnot) (fun cs b => hsel i oi cs b hi) (fun cs b => hsel j oj cs b hoj) hy h1
      have hfree' : ∀ k ok, ops[k]? = some ok → k ≠ i → (listed.setIfInBounds j true).getD k true = false →
          (∀ e ∈ ok.after, Region.binds md e = true → e.on ≠ i) → oi.apart ops ok = true := fun k ok hk hki hun hno => by
        refine hfree k ok hk hki ?_ hno
        by_cases hjk : j = k
        · subst hjk; exact hjun
        · rw [getD_set_ne true hjk] at hun; exact hun
      refine wpE_mono (fun a' w'' h3 => ⟨h3.2.1, ih (listed.setIfInBounds j true) a' w'' hfree' (ready_mono hr (Ne.symm hji)) (hcs.set hj) h3.1 (h3.2.1.resolve_left hjl) ?_⟩) h2
      rw [Array.setIfInBounds_comm _ _ hji]
      exact h3.2.2
def wpMixM (P : Program) (ops : Array Oper) (D : World → Prop) (late : List Nat) (Q : Act → World → Prop) : List (Nat × Bool) → Act → World → Prop
  | [], a, w => ∀ w', Junk w w' → Q a w'
  | (k, true) :: r, a, w => match ops[k]? with
    | none => False
    | some o => if Region.wanted o (yielded ops a.tmps) then ∃ v, (∀ w, D w → o.quietAt P a (Junk w) w v) ∧ wpMixM P ops D late Q r (a.put o.dst v) w else wpMixM P ops D late Q r (a.put o.dst undef) w
  | (k, false) :: r, a, w => ∀ w', Junk w w' → wpE P ops k (fun a' w'' => (k ∈ late ∨ D w'') ∧ wpMixM P ops D late Q r a' w'') a w'
theorem wpMixM_q {Q : Act → World → Prop} {k : Nat} {r : List (Nat × Bool)} {o : Oper} {a : Act} {w : World} (ho : ops[k]? = some o)
    (h : ∀ K : Act → Prop, (∀ a, wpMixM P ops D late Q r a w → K a) → if Region.wanted o (yielded ops a.tmps) then ∃ v, (∀ w, D w → o.quietAt P a (Junk w) w v) ∧ K (a.put o.dst v) else K (a.put o.dst undef)) :
    wpMixM P ops D late Q ((k, true) :: r) a w := by
  unfold wpMixM
  simp only [ho]
  exact h _ (fun _ h => h)
theorem wpMixM_e {Q : Act → World → Prop} {k : Nat} {r : List (Nat × Bool)} {o : Oper} {a : Act} {w : World} (ho : ops[k]? = some o)
    (h : ∀ os d, ∀ K : Act → World → Prop, (∀ a w', D w' → wpMixM P ops D late Q r a w' → K a w') → if Region.wanted o (yielded ops a.tmps) then o.wp P a (w.junk os d) K NoExit else K (a.put o.dst undef) (w.junk os d)) :
    wpMixM P ops D late Q ((k, false) :: r) a w := by
  unfold wpMixM
  rintro w' ⟨os, d, rfl⟩
  unfold wpE
  simp only [ho]
  exact h os d _ (fun _ _ hd h => ⟨.inr hd, h⟩)
theorem wpMixM_late {Q : Act → World → Prop} {k : Nat} {o : Oper} {r : List (Nat × Bool)} {a : Act} {w : World} (hk : late.contains k = true) (ho : ops[k]? = some o)
    (h : ∀ os d, ∀ K : Act → World → Prop, (∀ a w', wpMixM P ops D late Q r a w' → K a w') → if Region.wanted o (yielded ops a.tmps) then o.wp P a (w.junk os d) K NoExit else K (a.put o.dst undef) (w.junk os d)) :
    wpMixM P ops D late Q ((k, false) :: r) a w := by
  unfold wpMixM
  rintro w' ⟨os, d, rfl⟩
  unfold wpE
  simp only [ho]
  exact h os d _ (fun _ _ h => ⟨.inl (by simpa using hk), h⟩)
theorem wpMixM_nil {Q : Act → World → Prop} {a : Act} {w : World} (h : ∀ os d, Q a (w.junk os d)) : wpMixM P ops D late Q [] a w := by
  rintro w' ⟨os, d, rfl⟩
  exact h os d
theorem wpAnyM_mix (hcl : ∀ w w', D w → Junk w w' → D w') {Q : Act → World → Prop} (hsel : Region.noSelect ops = true) (hlast : Region.lateT md ops late = true) : ∀ (π : List (Nat × Bool)) (listed : Array Bool) (a : Act) (w : World),
    Region.mixB md ops π listed = true → Region.endsM late π = true → Region.Closed md ops listed → (π.all (fun x => !x.2) = true ∨ D w) → wpMixM P ops D late Q π a w → wpAnyM P md ops D late Q π.length listed a w
  | [], _, _, _, hB, _, _, _, h => ⟨by simpa [Region.mixB] using hB, h⟩
  | (k, true) :: r, listed, a, w, hB, hE, hcs, hD, h => by
    have hD := hD.resolve_left (by simp)
    simp only [Region.mixB, if_true, Bool.and_eq_true] at hB
    obtain ⟨⟨hr, hf⟩, hB'⟩ := hB
    have hkl : k ∉ late ∧ Region.endsM late r = true := by
      simp only [Region.endsM, if_true, Bool.and_eq_true, Bool.not_eq_true', List.contains_eq_mem, decide_eq_false_iff_not] at hE
      exact hE
    unfold wpMixM at h
    split at h
    · exact h.elim
    · rename_i o ho
      have hk : ∃ v, YieldsJ P ops D o v a ∧ wpMixM P ops D late Q r (a.put o.dst v) w := by
        split at h
        · rename_i hw; obtain ⟨v, h1, h2⟩ := h; exact ⟨v, .inl ⟨hw, h1⟩, h2⟩
        · rename_i hw; exact ⟨undef, .inr ⟨by simpa using hw, rfl⟩, h⟩
      obtain ⟨v, hy, h2⟩ := hk
      exact wpAnyM_first hcl ho (Region.noSelect_spec hsel) hlast hkl.1 r.length listed a w (Region.free_spec ho hf) (by simpa using hr) hcs hy hD (wpAnyM_mix hcl hsel hlast r _ _ w hB' hkl.2 (hcs.set (by simpa using hr)) (.inr hD) h2)
  | (k, false) :: r, listed, a, w, hB, hE, hcs, hD, h => by
    simp only [Region.mixB, Bool.false_eq_true, if_false, Bool.and_eq_true, decide_eq_true_eq] at hB
    obtain ⟨hr, hB'⟩ := hB
    have hE' : Region.endsM late r = true ∧ (r.all (fun x => !x.2) = true ∨ k ∉ late) := by
      simp only [Region.endsM, Bool.false_eq_true, if_false, Bool.and_eq_true, Bool.or_eq_true, Bool.not_eq_true', List.contains_eq_mem, decide_eq_false_iff_not] at hE
      exact ⟨hE.2, hE.1.symm⟩
    unfold wpMixM at h
    refine ⟨fun h0 => (by rw [hr] at h0; cases h0), fun i hi w' hw' => ?_⟩
    rw [hr] at hi
    obtain rfl : i = k := by simpa using hi
    exact wpE_mono (fun a' w'' h' => ⟨h'.1, wpAnyM_mix hcl hsel hlast r _ a' w'' hB' hE'.1 (hcs.set (by rw [hr]; simp)) (hE'.2.elim .inl fun hne => .inr (h'.1.resolve_left hne)) h'.2⟩) (h w' hw')
theorem wp_region_mixm {id : Nat} {Q : Exit → Act → World → Prop} {a : Act} {w1 : World} {l : List Oper} (w : World) (late : List Nat) (π : List (Nat × Bool)) (hm : P.follows .mixedOrders = true)
    (hB : (Region.noSelect l.toArray && decide (π.length = l.length) && Region.mixB .any l.toArray π (Array.replicate l.length false) && Region.lateT .any l.toArray late && Region.endsM late π) = true) (hj : Junk w w1)
    (h : wpMixM P l.toArray (fun w' => ∃ x : Jk, w' = w.junk x.os x.d) late (fun a' w' => Q .normal a' w') π a w1.drew) : (Code.region id l.toArray true).wp P Q a w1 := by
  simp only [Bool.and_eq_true, decide_eq_true_eq] at hB
  refine wp_region_any hm (wpAny_of_M (D := fun w' => ∃ x : Jk, w' = w.junk x.os x.d) (late := late) (Q := fun a' w' => Q .normal a' w') (fun _ _ h => h) _ _ _ _ ?_)
  have := wpAnyM_mix (P := P) (md := .any) (D := fun w' => ∃ x : Jk, w' = w.junk x.os x.d) (late := late) (fun _ _ h1 h2 => InJunk.on (w := w) h1 h2) hB.1.1.1.1 hB.1.2 π _ a w1.drew hB.1.1.2 hB.2 (Region.Closed.none _) (.inr hj.drew.pair) h
  rw [hB.1.1.1.2] at this
  simpa using this
end
end Go
set_option linter.unusedVariables false
set_option maxRecDepth 100000
set_option linter.unusedSimpArgs false
namespace Go.Proofs.YtfhkhnoiolkkdaaGreatDoor
open Go.RowKit
def bz (n : Nat) (zs : Nat → Int) : List Value := (List.range n).map fun i => Value.int .u8 (zs i)
def OwB (B : Nat) (w : World) (oa : Option Addr) (cap n : Nat) (zs : Nat → Int) : Prop := Own B w 5 1 oa cap n (bz n zs)
theorem bz_congr {n : Nat} {xs ys : Nat → Int} (h : ∀ i, i < n → xs i = ys i) : bz n xs = bz n ys := by
  unfold bz
  apply List.map_congr_left
  intro i hi
  rw [h i (by simpa using hi)]
theorem bz_add (n m : Nat) (zs : Nat → Int) : bz n zs ++ bz m (fun j => zs (n + j)) = bz (n + m) zs := by
  unfold bz
  rw [List.range_add, List.map_append, List.map_map]
  rfl
theorem bz2 {zs : Nat → Int} {a b : Int} (h0 : zs 0 = a) (h1 : zs 1 = b) : [Value.int .u8 a, .int .u8 b] = bz 2 zs := by subst h0 h1; rfl
section
variable {B : Nat} {w w' W0 : World} {oa : Option Addr} {cap n : Nat} {zs : Nat → Int}
theorem OwB.on (h : OwB B w oa cap n zs) (hj : Junk w w') : OwB B w' oa cap n zs := Own.on h hj
theorem OwB.lower {B' : Nat} (h : OwB B w oa cap n zs) (hB : B' ≤ B) : OwB B' w oa cap n zs := Own.lower h hB
theorem OwB.congr {ys : Nat → Int} (h : OwB B w oa cap n zs) (he : ∀ i, i < n → zs i = ys i) : OwB B w oa cap n ys := by unfold OwB; rw [← bz_congr he]; exact h
theorem OwB.nil (B : Nat) (w : World) (zs : Nat → Int) : OwB B w none 0 0 zs := Own.nil _ _ _ _
theorem OwB.ints (h : OwB B w oa cap n zs) : IntsAt w oa n .u8 zs := by
  have h2 : Own B w 5 1 oa cap n (((List.range n).map zs).map (Value.int .u8)) := by rw [List.map_map]; exact h
  intro i hi
  obtain ⟨b, off, h3, h4, h5⟩ := h2.ints i hi
  refine ⟨b, off, h3, h4, ?_⟩
  rw [h5]
  simp [List.getD, hi]
theorem OwB.isNil (h : OwB B w oa cap n zs) (hn : oa = none) : n = 0 ∧ cap = 0 := by
  rcases Own.form h with ⟨_, h1, h2⟩ | ⟨g, cur, h1, _⟩
  · exact ⟨h1, h2⟩
  · rw [h1] at hn; cases hn
theorem OwB.bts (h : OwB B w oa cap n zs) (hx : ∀ i, i < n → 0 ≤ zs i ∧ zs i ≤ 255) : Bts w oa n cap zs := ⟨h.ints, hx, fun hn => h.isNil hn, (Own.capLe h).1, (Own.capLe h).2⟩
theorem alloc_ints (Y : World) (cur : Array Value) (t : TypeId) (g : Nat) (hg : g = Y.heap.size) (m : Nat) (f : Nat → Int) (h : cur.toList = bz m f) : IntsAt (Y.alloc (.cells cur t)) (some ⟨g, 0, none⟩) m .u8 f := by
  subst hg
  intro i hi
  refine ⟨_, 0, rfl, by rw [World.size_alloc]; omega, ?_⟩
  rw [World.cell?_alloc_new, Nat.zero_add]
  have : cur.toList[i]? = some (.int .u8 (f i)) := by rw [h]; unfold bz; rw [List.getElem?_map, List.getElem?_range hi]; rfl
  simpa using this
theorem ints_congr {oc : Option Addr} {m : Nat} {k : IntKind} {xs ys : Nat → Int} (h : IntsAt w oc m k xs) (he : ∀ i, i < m → xs i = ys i) : IntsAt w oc m k ys := fun i hi => by rw [← he i hi]; exact h i hi
theorem ap_bz_wp {o : Oper} {a : Act} {K : Act → World → Prop} {Q : Exit → Act → World → Prop} (s x : Operand)
    (ho : o.op = .call { callee := .builtin .append, args := #[s, x], argTypes := #[27, 27] })
    (hj : Junk W0 w) (oa : Option Addr) (cap n : Nat) (zs : Nat → Int) (hs : a.eval s = .slice oa n cap) (hown : OwB W0.heap.size w oa cap n zs)
    (oc : Option Addr) (m c : Nat) (hx : a.eval x = .slice oc m c) (hsrc : IntsAt w oc m .u8 (fun j => zs (n + j))) (hnone : oc = none → m = 0 ∧ c = 0) (hm : n + m ≤ 140737488355328)
    (h : ∀ oa' cap' os d, OwB W0.heap.size (W0.junk os d) oa' cap' (n + m) zs → (oa' = none → oa = none ∧ m = 0) → K (a.put o.dst (.slice oa' (n + m) cap')) (W0.junk os d)) : o.wp Tryz.prog a w K Q :=
  ap_own_wp s x 27 ho 5 (.int .u8 0) 1 1 (by kernel_rfl) rfl (by decide) Tryz.underlying27 hj oa cap n (bz n zs) hs hown oc m c hx (bz m (fun j => zs (n + j))) (by simp [bz]) hsrc.src hnone
    (by intro u hu; unfold bz at hu; obtain ⟨i, _, rfl⟩ := List.mem_map.1 hu; rfl) (by simp only [maxLen]; omega) (by omega) fun oa' cap' os d h2 h3 => h oa' cap' os d (by unfold OwB; rw [← bz_add]; exact h2) h3
theorem ap_bz {ops : Array Oper} {rest : List Oper} {o : Oper} {a : Act} {Q : Exit → Act → World → Prop} (hgd : o.guard = none) (s x : Operand)
    (ho : o.op = .call { callee := .builtin .append, args := #[s, x], argTypes := #[27, 27] })
    (hj : Junk W0 w) (oa : Option Addr) (cap n : Nat) (zs : Nat → Int) (hs : a.eval s = .slice oa n cap) (hown : OwB W0.heap.size w oa cap n zs)
    (oc : Option Addr) (m c : Nat) (hx : a.eval x = .slice oc m c) (hsrc : IntsAt w oc m .u8 (fun j => zs (n + j))) (hnone : oc = none → m = 0 ∧ c = 0) (hm : n + m ≤ 140737488355328)
    (h : ∀ oa' cap' os d, OwB W0.heap.size (W0.junk os d) oa' cap' (n + m) zs → (oa' = none → oa = none ∧ m = 0) → wpList Tryz.prog ops Q rest (a.put o.dst (.slice oa' (n + m) cap')) (W0.junk os d)) : wpList Tryz.prog ops Q (o :: rest) a w :=
  wpList_plain hgd fun K hK => ap_bz_wp s x ho hj oa cap n zs hs hown oc m c hx hsrc hnone hm fun oa' cap' os d h2 h3 => hK _ _ (h oa' cap' os d h2 h3)
end
end Go.Proofs.YtfhkhnoiolkkdaaGreatDoor
set_option linter.unusedVariables false
set_option maxRecDepth 100000
set_option linter.unusedSimpArgs false
namespace Go
open RowKit
theorem wpMixL_last1 {P : Program} {ops : Array Oper} {D : World → Prop} {last : Nat} {Q : Act → World → Prop} {o : Oper} {r : List (Nat × Bool)} {a : Act} {w : World} (ho : ops[last]? = some o) (hg : o.guard = none)
    (h : ∀ os d, ∀ K : Act → World → Prop, (∀ a w', wpMixL P ops D last Q r a w' → K a w') → o.wp P a (w.junk os d) K NoExit) :
    wpMixL P ops D last Q ((last, false) :: r) a w :=
  wpMixL_last ho fun os d K hK => by
    have hw : Region.wanted o (yielded ops a.tmps) = true := by simp [Region.wanted, hg]
    rw [if_pos hw]
    exact h os d K hK
end Go
set_option linter.unusedVariables false
set_option maxRecDepth 100000
set_option linter.unusedSimpArgs false
namespace Go
open RowKit
theorem flat_len {sz : Nat} : ∀ {R : List (List Value)}, (∀ r ∈ R, r.length = sz) → R.flatten.length = R.length * sz
  | [], _ => by simp
  | r :: R, h => by
    rw [List.flatten_cons, List.length_append, h r (by simp), flat_len (R := R) (fun x hx => h x (by simp [hx])), List.length_cons, Nat.add_mul]
    omega
theorem flat_take {sz : Nat} : ∀ {R : List (List Value)}, (∀ r ∈ R, r.length = sz) → ∀ k, R.flatten.take (k * sz) = (R.take k).flatten
  | [], _, k => by simp
  | r :: R, h, 0 => by simp
  | r :: R, h, k + 1 => by
    have hr := h r (by simp)
    rw [List.flatten_cons, List.take_append, hr, List.take_succ_cons, List.flatten_cons, List.take_of_length_le (by rw [hr, Nat.add_mul]; omega), show (k + 1) * sz - sz = k * sz by rw [Nat.add_mul]; omega, flat_take (R := R) (fun x hx => h x (by simp [hx])) k]
theorem flat_drop {sz : Nat} : ∀ {R : List (List Value)}, (∀ r ∈ R, r.length = sz) → ∀ k, R.flatten.drop (k * sz) = (R.drop k).flatten
  | [], _, k => by simp
  | r :: R, h, 0 => by simp
  | r :: R, h, k + 1 => by
    have hr := h r (by simp)
    rw [List.flatten_cons, List.drop_append, hr, List.drop_succ_cons, List.drop_eq_nil_of_le (by rw [hr, Nat.add_mul]; omega), show (k + 1) * sz - sz = k * sz by rw [Nat.add_mul]; omega, flat_drop (R := R) (fun x hx => h x (by simp [hx])) k, List.nil_append]
theorem flat_get {sz : Nat} {R : List (List Value)} (h : ∀ r ∈ R, r.length = sz) {i : Nat} {r : List Value} (hr : R[i]? = some r) {j : Nat} (hj : j < sz) : R.flatten[i * sz + j]? = r[j]? := by
  obtain ⟨hi, rfl⟩ := List.getElem?_eq_some_iff.1 hr
  have h1 := flat_drop h i
  rw [← List.getElem?_drop, h1, List.drop_eq_getElem_cons hi, List.flatten_cons, List.getElem?_append_left (by rw [h _ (List.getElem_mem hi)]; exact hj)]
theorem flat_put {sz : Nat} {R : List (List Value)} (h : ∀ r ∈ R, r.length = sz) {i : Nat} (hi : i < R.length) {c : List Value} (hc : c.length = sz) : R.flatten.take (i * sz) ++ c ++ R.flatten.drop (i * sz + c.length) = (R.set i c).flatten := by
  rw [flat_take h, hc, show i * sz + sz = (i + 1) * sz by rw [Nat.add_mul]; omega, flat_drop h, List.set_eq_take_append_cons_drop, if_pos hi, List.flatten_append, List.flatten_cons, List.append_assoc]
def SrcAt (w : World) (oa : Option Addr) (xs : List Value) : Prop := ∀ ad, oa = some ad → ∀ j u, xs[j]? = some u → w.cell? (ad.add j) = some u
theorem SrcAt.on {w w' : World} {oa : Option Addr} {xs : List Value} (h : SrcAt w oa xs) (hj : Junk w w') : SrcAt w' oa xs := fun ad had j u hu => by
  have hc := h ad had j u hu
  have hlt : (ad.add j).block < w.heap.size := by
    unfold World.cell? at hc
    cases hb : w.heap[(ad.add j).block]? with
    | none => simp [hb] at hc
    | some o => exact (Array.getElem?_eq_some_iff.1 hb).1
  exact ((hj.below (Nat.le_refl _)).cell hlt).trans hc
theorem Own.src {B : Nat} {w : World} {e : TypeId} {sz : Nat} {oa : Option Addr} {cap n : Nat} {xs : List Value} (h : Own B w e sz oa cap n xs) : SrcAt w oa xs := fun ad had j u hu => by
  obtain ⟨g, h1, _, _, h2, _⟩ := h.cells j u hu
  rw [had] at h1
  cases h1
  rw [Addr.add_lit, Nat.zero_add]
  exact h2
section
variable {P : Program} {w : World} {B : Nat} {e : TypeId} {sz g cap n : Nat} {xs : List Value}
theorem run_storeOwn (hown : Own B w e sz (some ⟨g, 0, none⟩) cap n xs) (t : TypeId) (o : Nat) (c : Array Value) (hi : (P.info? t).map (·.size) = some c.size) (hfit : o + c.size ≤ n * sz) (h1 : ∀ v ∈ c.toList, v.oneCell' = true) :
    ∃ w', (Instr.storeAt t (.pointer (some ⟨g, o, none⟩)) (.agg c)).run P w = .ok () w' ∧ Own B w' e sz (some ⟨g, 0, none⟩) cap n (xs.take o ++ c.toList ++ xs.drop (o + c.toList.length)) ∧ w.grownBy w' (some g) := by
  have hl := hown.1
  rcases hown.2 with ⟨hn, _⟩ | ⟨g1, cap', cur, h1', hb, hc, hnc, hcm, hsz, htk⟩
  · cases hn
  cases h1'
  have hle : n * sz ≤ cur.size := by rw [hsz]; exact Nat.mul_le_mul_right _ hnc
  have hst := run_storeCells_at P g o e c.toList 0 cur w hc (by simp; omega) h1
  simp only [Nat.add_zero] at hst
  cases hq : P.info? t with
  | none => simp [hq] at hi
  | some i =>
    have hs : c.size = i.size := by simp [hq] at hi; omega
    refine ⟨w.setRow g (cur.toList.take o ++ c.toList ++ cur.toList.drop (o + c.toList.length)).toArray, ?_, ⟨?_, .inr ⟨g, cap, _, rfl, hb, setRow_heap w g cur _ e _ hc, hnc, hcm, ?_, ?_⟩⟩, ⟨rfl, rfl, rfl, by simp, fun k _ hk => setRow_other w g k _ (fun e => hk (by simp [e]))⟩⟩
    · simp [hs] at hst
      simp [Instr.storeAt, Instr.sureAddr, storeVar, sizeOf, typeInfo, hq, hs, Value.cells, hst]
    · simp [List.length_take, List.length_drop]; omega
    · simp [List.length_take, List.length_drop]; omega
    · have htk' : cur.toList.take (n * sz) = xs := htk
      rw [← htk']
      show ((cur.toList.take o ++ c.toList ++ cur.toList.drop (o + c.toList.length)).toArray.toList).take (n * sz) = _
      rw [List.toList_toArray]
      apply List.ext_getElem?
      intro j
      simp only [List.getElem?_take, List.getElem?_append, List.length_append, List.length_take, List.getElem?_drop, List.length_drop, Array.length_toList]
      have e1 : min o cur.size = o := by omega
      rw [show min o (min (n * sz) cur.size) = o by omega, e1]
      by_cases hj : j < n * sz
      · rw [if_pos hj]
        by_cases h2 : j < o + c.size
        · rw [if_pos h2, if_pos h2]
          by_cases h3 : j < o
          · rw [if_pos h3, if_pos h3, if_pos h3, if_pos h3, if_pos (by omega)]
          · rw [if_neg h3, if_neg h3]
        · rw [if_neg h2, if_neg h2, if_pos (by omega)]
      · rw [if_neg hj, if_neg (by omega), if_neg (by omega)]
theorem wpList_storeOwn {ops : Array Oper} {rest : List Oper} {o : Oper} {a : Act} {Q : Exit → Act → World → Prop} (hgd : o.guard = none) (t : TypeId) (x y : Operand) (ho : o.op = .store t x y)
    (hown : Own B w e sz (some ⟨g, 0, none⟩) cap n xs) (off : Nat) (c : Array Value) (hi : (P.info? t).map (·.size) = some c.size) (hx : a.eval x = .pointer (some ⟨g, off, none⟩)) (hy : a.eval y = .agg c) (hfit : off + c.size ≤ n * sz) (h1 : ∀ v ∈ c.toList, v.oneCell' = true)
    (h : ∀ w', w.grownBy w' (some g) → Own B w' e sz (some ⟨g, 0, none⟩) cap n (xs.take off ++ c.toList ++ xs.drop (off + c.toList.length)) → wpList P ops Q rest (a.put o.dst undef) w') : wpList P ops Q (o :: rest) a w := by
  obtain ⟨w', hrun, hO, hg⟩ := run_storeOwn (P := P) hown t off c hi hfit h1
  exact wpList_plain hgd fun K hK => by
    have := hK _ _ (h w' hg hO)
    unfold Oper.wp
    simp only [execOp, ho, hx, hy, hrun, Sem.run_bind, Sem.run_pure, Result.andThen]
    simpa [Oper.upon] using this
end
end Go
set_option linter.unusedVariables false
set_option maxRecDepth 100000
set_option linter.unusedSimpArgs false
namespace Go
open RowKit
def Box (V : World) (g : Nat) (e : TypeId) (cs : List Value) : Prop := V.heap[g]? = some (.cells cs.toArray e (0, 0))
section
variable {V V' w : World} {g : Nat} {e : TypeId} {cs : List Value}
theorem Box.lt (h : Box V g e cs) : g < V.heap.size := (Array.getElem?_eq_some_iff.1 h).1
theorem Box.on (h : Box V g e cs) (hj : Junk V V') : Box V' g e cs := by
  obtain ⟨os, d, rfl⟩ := hj
  unfold Box
  rw [World.heap_junk _ _ _ h.lt]
  exact h
theorem Box.grown {row : Option Nat} (h : Box V g e cs) (hg : V.grownBy V' row) (hne : some g ≠ row) : Box V' g e cs := (hg.block g h.lt hne).trans h
theorem Box.cell (h : Box V g e cs) {j : Nat} {v : Value} (hv : cs[j]? = some v) : V.cell? ⟨g, j, none⟩ = some v := by
  rw [cell_of_row V g j cs.toArray e (0, 0) h]
  simpa using hv
theorem Box.frozen (h : Box V g e cs) (j : Nat) : V.frozen? ⟨g, j, none⟩ = false := by
  unfold World.frozen?
  simp only [show V.heap[g]? = some (.cells cs.toArray e (0, 0)) from h]
  simp
theorem Box.own (h : Box V g e cs) : Own g V e cs.length (some ⟨g, 0, none⟩) 1 1 cs := ⟨by rw [Nat.one_mul], .inr ⟨g, 1, cs.toArray, rfl, Nat.le_refl _, h, Nat.le_refl _, by decide, by simp, by simp⟩⟩
theorem own_Box {B sz : Nat} (h : Own B V e sz (some ⟨g, 0, none⟩) 1 1 cs) : Box V g e cs := by
  rcases h.form with ⟨h0, _⟩ | ⟨g1, cur, h0, _, h1, _, _, h2, h3⟩
  · cases h0
  · cases h0
    rw [List.take_of_length_le (by rw [Array.length_toList, h2]; omega)] at h3
    unfold Box
    rw [← h3]
    exact h1
theorem Box.set (h : Box V g e cs) (j : Nat) (v : Value) : Box (V.setCell ⟨g, j, none⟩ v) g e (cs.set j v) := own_Box (World.ownsRow.stored h.own j v).1
theorem box_new (V : World) (cs : Array Value) (e : TypeId) : Box (V.alloc (.cells cs e)) V.heap.size e cs.toList := by
  unfold Box
  rw [Array.toArray_toList]
  exact heap_alloc_last V _
theorem grown_set (w : World) (a : Addr) (v : Value) : w.grownBy (w.setCell a v) (some a.block) := ⟨rfl, rfl, rfl, by simp [World.setCell], fun k _ hk => Below.heap_setCell _ _ _ k (fun e => hk (by rw [e]))⟩
variable {P : Program}
theorem Box.loadAt (h : Box V g e cs) (t : TypeId) (o n : Nat) (hagg : ∀ w, (isAgg t).run P w = .ok true w) (hsz : ∀ w, (Go.sizeOf t).run P w = .ok n w) (hl : ((cs.drop o).take n).length = n) :
    (Instr.loadAt t (.pointer (some ⟨g, o, none⟩))).run P V = .ok (.agg ((cs.drop o).take n).toArray) V := by
  have h1 := run_loadCells_list (P := P) (w := V) ⟨g, o, none⟩ ((cs.drop o).take n) (fun j v hv => by
    rw [Addr.add_lit]
    rw [List.getElem?_take] at hv
    split at hv
    · rw [List.getElem?_drop] at hv
      exact h.cell hv
    · cases hv)
  rw [hl] at h1
  simp only [Instr.loadAt, Instr.sureAddr, loadVar, Sem.run_bind, Sem.run_pure, Result.andThen, hagg, hsz, if_true, h1]
theorem wpList_storeBox {ops : Array Oper} {rest : List Oper} {o : Oper} {a : Act} {Q : Exit → Act → World → Prop} (hgd : o.guard = none) (t : TypeId) (x y : Operand) (ho : o.op = .store t x y)
    (h : Box V g e cs) (off : Nat) (c : Array Value) (hi : (P.info? t).map (·.size) = some c.size) (hx : a.eval x = .pointer (some ⟨g, off, none⟩)) (hy : a.eval y = .agg c) (hfit : off + c.size ≤ cs.length) (h1 : ∀ v ∈ c.toList, v.oneCell' = true)
    (hK : ∀ w', V.grownBy w' (some g) → Box w' g e (cs.take off ++ c.toList ++ cs.drop (off + c.toList.length)) → wpList P ops Q rest (a.put o.dst undef) w') : wpList P ops Q (o :: rest) a V :=
  wpList_storeOwn hgd t x y ho h.own off c hi hx hy (by rw [Nat.one_mul]; exact hfit) h1 fun w' hg hO => hK w' hg (own_Box hO)
theorem Box.loadVar (h : Box V g e cs) (t : TypeId) (hagg : ∀ w, (isAgg t).run P w = .ok true w) (hsz : ∀ w, (Go.sizeOf t).run P w = .ok cs.length w) : (Go.loadVar t ⟨g, 0, none⟩).run P V = .ok (.agg cs.toArray) V := by
  have h1 := h.loadAt (P := P) t 0 cs.length hagg hsz (by simp)
  simp only [Instr.loadAt, Instr.sureAddr, Sem.run_bind, Sem.run_pure, Result.andThen, List.drop_zero, List.take_length] at h1
  exact h1
theorem results_cell1 {fn : Func} {a : Tmp} {ty : TypeId} {tmps : Array Value} {ad : Addr} {v : Value} (h : fn.results = #[.cell a ty]) (ha : tmps.getD a undef = .pointer (some ad)) (hl : (Go.loadVar ty ad).run P w = .ok v w) : (results fn tmps).run P w = .ok v w := by
  simp only [Array.getD_eq_getD_getElem?] at ha
  simp [results, h, ha, asAddr, hl, Result.andThen]
theorem results_cell1tt {fn : Func} {a b c : Tmp} {ty : TypeId} {tmps : Array Value} {ad : Addr} {v : Value} (h : fn.results = #[.cell a ty, .tmp b, .tmp c]) (ha : tmps.getD a undef = .pointer (some ad)) (hl : (Go.loadVar ty ad).run P w = .ok v w) : (results fn tmps).run P w = .ok (.tuple #[v, tmps.getD b undef, tmps.getD c undef]) w := by
  simp only [Array.getD_eq_getD_getElem?] at ha
  simp [results, h, ha, asAddr, hl, Result.andThen]
theorem results_cell2tt {fn : Func} {a b c d : Tmp} {ta tb : TypeId} {tmps : Array Value} {x y : Addr} {u v : Value} (h : fn.results = #[.cell a ta, .cell b tb, .tmp c, .tmp d]) (ha : tmps.getD a undef = .pointer (some x)) (hb : tmps.getD b undef = .pointer (some y)) (hl : (Go.loadVar ta x).run P w = .ok u w) (hm : (Go.loadVar tb y).run P w = .ok v w) : (results fn tmps).run P w = .ok (.tuple #[u, v, tmps.getD c undef, tmps.getD d undef]) w := by
  simp only [Array.getD_eq_getD_getElem?] at ha hb
  simp [results, h, ha, hb, asAddr, hl, hm, Result.andThen]
end
end Go
set_option linter.unusedVariables false
set_option maxRecDepth 100000
set_option linter.unusedSimpArgs false
namespace Go.Proofs.YtfhkhnoiolkkdaaGreatDoor
open Go.RowKit
theorem tup_port_any (n : Int) (w : World) : Calls Tryz.prog 244 #[.int .i64 n] w fun e w' => e = .returned (.bool (portB n)) ∧ w = w' := by
  by_cases h1 : 0 ≤ n
  · go_enter Tryz.func244, Tryz.ntmps244
    go_wp2
    go_ret
    exact ⟨ret_bool (by simp [portB, h1]), rfl⟩
  · go_enter Tryz.func244, Tryz.ntmps244
    go_wp2
    go_ret
    exact ⟨ret_bool (by simp [portB]; intro; omega), rfl⟩
theorem tup_turn_any (t : Tup) (w : World) : Calls Tryz.prog 130 #[.agg #[.int .i64 t.proto, .int .u32 t.src, .int .i64 t.sport, .int .u32 t.dst, .int .i64 t.dport]] w fun e w' => e = .returned (.agg #[.int .i64 t.proto, .int .u32 t.dst, .int .i64 t.dport, .int .u32 t.src, .int .i64 t.sport]) ∧ Junk w w' := by
  go_enter Tryz.func130, Tryz.ntmps130
  go_wp2
  go_returns
  exact ⟨rfl, by (exact jkc)⟩
theorem tup_right_any (t : Tup) (w : World) : Calls Tryz.prog 164 #[.agg #[.int .i64 t.proto, .int .u32 t.src, .int .i64 t.sport, .int .u32 t.dst, .int .i64 t.dport]] w fun e w' => e = .returned (.bool (tupRight t)) ∧ Junk w w' := by
  have HR := Lib.hid (show tupRight t = (decide (0 ≤ t.proto) && decide (t.proto ≤ 255) && portB t.sport && portB t.dport) from rfl)
  by_cases h1 : 0 ≤ t.proto
  · by_cases h2 : t.proto ≤ 255
    · cases h3 : portB t.sport with
      | true =>
        go_enter Tryz.func164, Tryz.ntmps164
        go_wp2_with (first | (go_at_call 244; refine (tup_port_any _ _).mono ?_; rintro e w' ⟨rfl, rfl⟩))
        go_ret
        exact ⟨ret_bool (by rw [HR.out, h3]; simp [h1, h2]), by (exact jkc)⟩
      | false =>
        go_enter Tryz.func164, Tryz.ntmps164
        go_wp2_with (first | (go_at_call 244; refine (tup_port_any _ _).mono ?_; rintro e w' ⟨rfl, rfl⟩))
        go_ret
        exact ⟨ret_bool (by rw [HR.out, h3]; simp), by (exact jkc)⟩
    · go_enter Tryz.func164, Tryz.ntmps164
      go_wp2
      go_ret
      exact ⟨ret_bool (by rw [HR.out, show decide (t.proto ≤ 255) = false from decide_eq_false (by omega)]; simp), by (exact jkc)⟩
  · go_enter Tryz.func164, Tryz.ntmps164
    go_wp2
    go_ret
    exact ⟨ret_bool (by rw [HR.out, show decide (0 ≤ t.proto) = false from decide_eq_false (by omega)]; simp), by (exact jkc)⟩
end Go.Proofs.YtfhkhnoiolkkdaaGreatDoor
set_option linter.unusedVariables false
set_option maxRecDepth 100000
set_option linter.unusedSimpArgs false
namespace Go.Proofs.YtfhkhnoiolkkdaaGreatDoor
open Go.RowKit
def GrewM (W0 : World) (n : Nat) (xs : List Value) (e : Ending) (w' : World) : Prop :=
  ∃ oa cap, e = .returned (.slice oa n cap) ∧ Junk W0 w' ∧ Own W0.heap.size w' 5 1 oa cap n xs
set_option maxHeartbeats 400000 in
theorem tup_side_any (W0 w : World) (oa : Option Addr) (cap n : Nat) (xs : List Value) (a p : Int) (ha : 0 ≤ a ∧ a ≤ 4294967295) (hp : -9223372036854775808 ≤ p ∧ p ≤ 9223372036854775807) (hn : n ≤ 100000) (hj : Junk W0 w) (hown : Own W0.heap.size w 5 1 oa cap n xs) :
    Calls Tryz.prog 308 #[.slice oa n cap, .int .u32 a, .int .i64 p] w (GrewM W0 (n + 6) (xs ++ (sideL a p).map (Value.int .u8))) := by
  have HJ := Lib.hid hj
  have HO := Lib.hid hown
  clear hj hown
  have q1 : IntKind.u8.wrap (a / 16777216) = a / 16777216 := wrapk_u8 _ (by omega) (by omega)
  have q2 : IntKind.u8.wrap (a / 65536) = a / 65536 % 256 := IntKind.wrap_u8 _
  have q3 : IntKind.u8.wrap (a / 256) = a / 256 % 256 := IntKind.wrap_u8 _
  have q4 : IntKind.u8.wrap a = a % 256 := IntKind.wrap_u8 _
  have q5 : IntKind.u8.wrap (p / 256) = p / 256 % 256 := IntKind.wrap_u8 _
  have q6 : IntKind.u8.wrap p = p % 256 := IntKind.wrap_u8 _
  go_enter Tryz.func308, Tryz.ntmps308
  go_wp2_with (at_builtin; (refine ap_own (W0 := W0) rfl _ _ 27 rfl 5 (.int .u8 0) 1 1 (by kernel_rfl) rfl (by decide) Tryz.underlying27 (HJ.out.trans (by (exact jkc))) oa cap n xs rfl (HO.out.on (by (exact jkc))) _ 6 6 rfl ((sideL a p).map (Value.int .u8)) rfl (built_cells (by simp)) (fun h => by cases h) (by simp [Value.oneCell']) (by simp only [maxLen]; omega) (by omega) ?_; intro oa' cap' os d hown' hnn))
  go_ret
  exact ⟨_, _, rfl, ⟨_, _, rfl⟩, hown'⟩
end Go.Proofs.YtfhkhnoiolkkdaaGreatDoor
set_option linter.unusedVariables false
set_option maxRecDepth 100000
set_option linter.unusedSimpArgs false
namespace Go.Proofs.YtfhkhnoiolkkdaaGreatDoor
open Go.RowKit
structure TupW (t : Tup) : Prop extends TupWf t where
  sport : -9223372036854775808 ≤ t.sport ∧ t.sport ≤ 9223372036854775807
  dport : -9223372036854775808 ≤ t.dport ∧ t.dport ≤ 9223372036854775807
set_option maxHeartbeats 1000000 in
theorem tup_raw_any (t : Tup) (w : World) (h : TupW t) : Calls Tryz.prog 296 #[.agg #[.int .i64 t.proto, .int .u32 t.src, .int .i64 t.sport, .int .u32 t.dst, .int .i64 t.dport]] w (GrewM w 13 ((tupRaw t).map (Value.int .u8))) := by
  have q0 : IntKind.u8.wrap t.proto = t.proto % 256 := IntKind.wrap_u8 _
  go_enter Tryz.func296, Tryz.ntmps296
  go_wp2
  refine wp_region_mixj (w.alloc (.cells #[.int .i64 t.proto, .int .u32 t.src, .int .i64 t.sport, .int .u32 t.dst, .int .i64 t.dport] 38)) [(0, true), (1, true), (2, true), (4, true), (5, true), (6, true), (7, true), (9, true), (10, true), (11, true), (12, true), (3, false), (8, false), (13, false), (14, true)] (by kernel_rfl) (by kernel_rfl) (by (exact jkc)) ?_; (iterate 11 (refine wpMix_q rfl (fun K hK => ?_); (go_simp; try go_bits); (refine hK _ ?_; clear hK K))); refine wpMix_e rfl (fun osm1_0 dm1_0 K hK => ?_); (go_simp; try go_bits); refine hK _ _ (Junk.pair (by (first | exact jkc | repeat (first | with_reducible exact Junk.refl _ | with_reducible exact Junk.app _ _ _ _ _ | with_reducible apply Junk.alloc | with_reducible apply Junk.junk | with_reducible apply Junk.drew | with_reducible apply Junk.drewN | (with_reducible refine Junk.setCell ?_ (by simp) _))))) ?_; clear hK K; refine wpMix_e rfl (fun osm1_1 dm1_1 K hK => ?_); (go_simp; try go_bits); (go_at_call 308; refine (tup_side_any (w.alloc (.cells #[.int .i64 t.proto, .int .u32 t.src, .int .i64 t.sport, .int .u32 t.dst, .int .i64 t.dport] 38)) _ _ 1 1 [.int .u8 (t.proto % 256)] t.src t.sport h.src h.sport (by omega) (by (exact jkc)) (by first | exact own_lit _ _ _ _ _ (by simp) (by simp) rfl (by decide) | exact own_lit' _ _ (by simp) (by simp) rfl (by decide))).mono ?_; rintro e w' ⟨o1, c1, rfl, ⟨osj1, dj1, rfl⟩, hown1⟩; have Hown1 := Lib.hid hown1; clear hown1); refine hK _ _ (Junk.pair (by (first | exact jkc | repeat (first | with_reducible exact Junk.refl _ | with_reducible exact Junk.app _ _ _ _ _ | with_reducible apply Junk.alloc | with_reducible apply Junk.junk | with_reducible apply Junk.drew | with_reducible apply Junk.drewN | (with_reducible refine Junk.setCell ?_ (by simp) _))))) ?_; clear hK K; refine wpMix_e rfl (fun osm1_2 dm1_2 K hK => ?_); (go_simp; try go_bits); (go_at_call 308; refine (tup_side_any (w.alloc (.cells #[.int .i64 t.proto, .int .u32 t.src, .int .i64 t.sport, .int .u32 t.dst, .int .i64 t.dport] 38)) _ _ _ 7 _ t.dst t.dport h.dst h.dport (by omega) (by (exact jkc)) (Hown1.out.on (by (exact jkc)))).mono ?_; rintro e w' ⟨o2, c2, rfl, ⟨osj2, dj2, rfl⟩, hown2⟩; have Hown2 := Lib.hid hown2; clear hown2); refine hK _ _ (Junk.pair (by (first | exact jkc | repeat (first | with_reducible exact Junk.refl _ | with_reducible exact Junk.app _ _ _ _ _ | with_reducible apply Junk.alloc | with_reducible apply Junk.junk | with_reducible apply Junk.drew | with_reducible apply Junk.drewN | (with_reducible refine Junk.setCell ?_ (by simp) _))))) ?_; clear hK K; (iterate 1 (refine wpMix_q rfl (fun K hK => ?_); (go_simp; try go_bits); (refine hK _ ?_; clear hK K))); refine wpMix_nil (fun osm dm => ?_)
  go_wp2
  go_ret
  exact ⟨o2, c2, rfl, by (exact jkc), (Hown2.out.lower (by simp)).on (by (exact jkc))⟩
end Go.Proofs.YtfhkhnoiolkkdaaGreatDoor
set_option linter.unusedVariables false
set_option maxRecDepth 100000
set_option linter.unusedSimpArgs false
namespace Go.Proofs.YtfhkhnoiolkkdaaGreatDoor
open Go.RowKit
theorem grew_some {W0 w' : World} {n : Nat} {xs : List Value} {e : Ending} (h : GrewM W0 n xs e w') (hn : 0 < n) : ∃ g cap, e = .returned (.slice (some ⟨g, 0, none⟩) n cap) ∧ Junk W0 w' ∧ W0.heap.size ≤ g ∧ g < w'.heap.size ∧ n ≤ cap ∧ cap ≤ maxLen ∧ ∀ j u, xs[j]? = some u → w'.cell? ⟨g, j, none⟩ = some u := by
  obtain ⟨oa, cap, he, hj, ho⟩ := h
  obtain ⟨g, rfl, h1, h2, h3⟩ := own_some ho hn
  exact ⟨g, cap, he, hj, h1, h2, ho.capLe.1, ho.capLe.2, fun j u hu => (h3 j u hu).1⟩
structure CelL (w : World) (g : Nat) (xs : List Int) : Prop where
  lt : g < w.heap.size
  c : ∀ j x, xs[j]? = some x → w.cell? ⟨g, j, none⟩ = some (.int .u8 x)
theorem CelL.on {w w' : World} {g : Nat} {xs : List Int} (h : CelL w g xs) (hj : Junk w w') : CelL w' g xs := by
  obtain ⟨os, d, rfl⟩ := hj
  exact ⟨by have := h.lt; simp; omega, fun j x hx => by rw [World.cell?_junk _ _ _ _ _ h.lt]; exact h.c j x hx⟩
def RawM (w : World) (xs : List Int) (e : Ending) (w' : World) : Prop := ∃ g cap, e = .returned (.slice (some ⟨g, 0, none⟩) 13 cap) ∧ Junk w w' ∧ CelL w' g xs ∧ 13 ≤ cap ∧ cap ≤ maxLen
theorem raw_cells (t : Tup) (w : World) (h : TupW t) : Calls Tryz.prog 296 #[.agg #[.int .i64 t.proto, .int .u32 t.src, .int .i64 t.sport, .int .u32 t.dst, .int .i64 t.dport]] w (RawM w (tupRaw t)) :=
  (tup_raw_any t w h).mono fun e w' hp => by
    obtain ⟨g, cap, he, hj, h1, h2, h3, h4, h5⟩ := grew_some hp (by decide)
    exact ⟨g, cap, he, hj, ⟨h2, fun j x hx => h5 j _ (by rw [List.getElem?_map, hx]; rfl)⟩, h3, h4⟩
theorem hashStep_bd (h c : Int) : 0 ≤ hashStep h c ∧ hashStep h c ≤ 4294967295 := by unfold hashStep; omega
theorem hash_bd (xs : List Int) (h : Int) (hh : 0 ≤ h ∧ h ≤ 4294967295) : 0 ≤ xs.foldl hashStep h ∧ xs.foldl hashStep h ≤ 4294967295 := by
  induction xs generalizing h with
  | nil => exact hh
  | cons x xs ih => exact ih _ (hashStep_bd h x)
theorem foldl_take_succ {xs : List Int} {i : Nat} {x : Int} (h : xs[i]? = some x) (s : Int) : (xs.take (i + 1)).foldl hashStep s = hashStep ((xs.take i).foldl hashStep s) x := by
  rw [List.take_add_one, h, Option.toList_some, List.foldl_append]
  rfl
theorem seed_bd {s : Int} (h : 0 ≤ s ∧ s ≤ 4294967295) : (0 : Int) ≤ ((2166136261 ^^^ s.toNat : Nat) : Int) ∧ ((2166136261 ^^^ s.toNat : Nat) : Int) ≤ 4294967295 := by
  have : 2166136261 ^^^ s.toNat < 2 ^ 32 := Nat.xor_lt_two_pow (by decide) (by omega)
  omega
set_option maxHeartbeats 1000000 in
theorem tup_hash_any (t : Tup) (s : Int) (w : World) (ht : TupW t) (hs : 0 ≤ s ∧ s ≤ 4294967295) : Calls Tryz.prog 241 #[.agg #[.int .i64 t.proto, .int .u32 t.src, .int .i64 t.sport, .int .u32 t.dst, .int .i64 t.dport], .int .u32 s] w fun e w' => e = .returned (.int .u32 (tupHash t s)) ∧ Junk w w' := by
  have hb := tupRaw_byte ht.toTupWf
  have HBY := Lib.hid hb
  have hx0 : bits .xor .u32 2166136261 s = ((2166136261 ^^^ s.toNat : Nat) : Int) := u32_xor 2166136261 s (by decide) (by decide) hs.1 (by omega)
  have hsb := seed_bd hs
  obtain ⟨H0, hH0⟩ : ∃ h, ((2166136261 ^^^ s.toNat : Nat) : Int) = h := ⟨_, rfl⟩
  have HH := Lib.hid (show tupHash t s = (tupRaw t).foldl hashStep H0 by unfold tupHash; rw [hH0])
  rw [hH0] at hx0 hsb
  have HSB := Lib.hid hsb
  have hlen : (tupRaw t).length = 13 := rfl
  obtain ⟨R, hR⟩ : ∃ R, tupRaw t = R := ⟨_, rfl⟩
  have HR := Lib.hid hR
  rw [hR] at HH hlen
  have HLEN := Lib.hid hlen
  clear hH0 hsb hb hR hlen
  go_enter Tryz.func241, Tryz.ntmps241
  go_wp2_with (go_at_call 296; refine (raw_cells t _ ht).mono ?_; rintro e w' ⟨g, c, rfl, ⟨osj, dj, rfl⟩, hc, hc1, hc2⟩; have Hc := Lib.hid hc; clear hc)
  rw [HR.out] at Hc
  go_loopw [5, 13] (fun v u wr => ∃ i : Nat, v = .int .u32 ((R.take i).foldl hashStep H0) ∧ u = .int .i64 (i : Int) ∧ wr = (w.alloc (.cells #[.int .i64 t.proto, .int .u32 t.src, .int .i64 t.sport, .int .u32 t.dst, .int .i64 t.dport] 38)).junk osj dj ∧ i ≤ 13) (fun _ u _ => 14 - (intOf u).toNat)
  case atStart => exact ⟨0, rfl, rfl, (by first | rfl | trivial), by omega⟩
  case round =>
    obtain ⟨i, rfl, rfl, rfl, hi⟩ := hrel
    by_cases h13 : i < 13
    case neg =>
      have hi2 : ¬ (i : Int) < 13 := by omega
      obtain rfl : 13 = i := by omega
      rw [List.take_of_length_le (by rw [HLEN.out]; omega)]
      go_wp2
      all_goals (go_ret; exact ⟨by rw [HH.out]; rfl, by (exact jkc)⟩)
    have hi2 : (i : Int) < 13 := by omega
    obtain ⟨x, hx⟩ : ∃ x, R[i]? = some x := ⟨_, List.getElem?_eq_getElem (by rw [HLEN.out]; omega)⟩
    have hcell := Hc.out.c i x hx
    have hlt := Hc.out.lt
    have hxb := HBY.out x (by rw [HR.out]; exact List.mem_of_getElem? hx)
    have hstep := foldl_take_succ hx H0
    have hhb := hash_bd (R.take i) H0 HSB.out
    obtain ⟨h, hh⟩ : ∃ h, (R.take i).foldl hashStep H0 = h := ⟨_, rfl⟩
    rw [hh] at hstep hhb ⊢
    obtain ⟨X, hX⟩ : ∃ X, ((h.toNat ^^^ x.toNat : Nat) : Int) = X := ⟨_, rfl⟩
    have f1 : bits .xor .u32 h x = X := by rw [u32_xor h x hhb.1 (by omega) hxb.1 (by omega)]; exact hX
    have f2 : IntKind.u32.wrap (X * 16777619) = X * 16777619 % 4294967296 := IntKind.wrap_u32 _
    have HST := Lib.hid (show (R.take (i + 1)).foldl hashStep H0 = X * 16777619 % 4294967296 by rw [hstep]; unfold hashStep; rw [hX])
    have wx := wrapk_u32 x (by omega) (by omega)
    clear hstep hh hX hx
    go_wp2
    exact ⟨⟨i + 1, by rw [HST.out], by go_num, (by first | rfl | trivial), by omega⟩, by simp [intOf]; omega⟩
end Go.Proofs.YtfhkhnoiolkkdaaGreatDoor
set_option linter.unusedVariables false
set_option maxRecDepth 100000
set_option linter.unusedSectionVars false
set_option linter.unusedSimpArgs false
namespace Go.Ix
abbrev Tab (K : Type) := List (Option (K × Int))
section
variable {K : Type} [DecidableEq K] (hm : K → Nat)
def findGo (T : Tab K) (k : K) : Nat → Nat → Nat × Bool
  | 0, at_ => (at_, false)
  | f + 1, at_ => match T[at_]? with
    | some (some x) => if x.1 = k then (at_, true) else findGo T k f ((at_ + 1) % T.length)
    | _ => (at_, false)
def findT (T : Tab K) (k : K) : Nat × Bool := findGo T k T.length (hm k % T.length)
def lenT (T : Tab K) : Nat := T.countP (·.isSome)
def okAt (ok : K → Bool) (T : Tab K) (i : Nat) : Bool := match T[i]? with
  | some (some x) => decide (findT hm T x.1 = (i, true)) && ok x.1
  | _ => true
def placesB (n : Nat) : Bool := decide (2 ≤ n) && decide (n ≤ 1024) && decide (n &&& (n - 1) = 0)
def rightT (ok : K → Bool) (T : Tab K) : Bool := placesB T.length && !decide (lenT T = T.length) && (List.range T.length).all (okAt hm ok T)
def delGo (T : Tab K) : Nat → Nat → Nat → Tab K
  | 0, hole, _ => T.set hole none
  | f + 1, hole, at_ => match T[at_]? with
    | some (some x) =>
      if (at_ + T.length - hm x.1 % T.length) % T.length ≥ (at_ + T.length - hole) % T.length then delGo (T.set hole (some x)) f at_ ((at_ + 1) % T.length)
      else delGo T f hole ((at_ + 1) % T.length)
    | _ => T.set hole none
variable {hm} {ok : K → Bool} {T : Tab K}
theorem findGo_spec (T : Tab K) (k : K) (hT : 0 < T.length) : ∀ (f a : Nat), a < T.length → f ≤ T.length →
    (∃ d, d < f ∧ findGo T k f a = ((a + d) % T.length, true) ∧ (∃ v, T[(a + d) % T.length]? = some (some (k, v))) ∧ ∀ e, e < d → ∃ x, T[(a + e) % T.length]? = some (some x) ∧ x.1 ≠ k) ∨
    (∃ d, d < f ∧ findGo T k f a = ((a + d) % T.length, false) ∧ T[(a + d) % T.length]? = some none ∧ ∀ e, e < d → ∃ x, T[(a + e) % T.length]? = some (some x) ∧ x.1 ≠ k) ∨
    (findGo T k f a = ((a + f) % T.length, false) ∧ ∀ e, e < f → ∃ x, T[(a + e) % T.length]? = some (some x) ∧ x.1 ≠ k)
  | 0, a, ha, hf => .inr (.inr ⟨by simp [findGo, Nat.mod_eq_of_lt ha], fun e he => absurd he (Nat.not_lt_zero _)⟩)
  | f + 1, a, ha, hf => by
    unfold findGo
    have hget : T[a]? = some (T[a]'ha) := List.getElem?_eq_getElem ha
    rw [hget]
    cases hx : T[a]'ha with
    | none =>
      refine .inr (.inl ⟨0, by omega, ?_, ?_, fun e he => absurd he (Nat.not_lt_zero _)⟩)
      · simp [Nat.mod_eq_of_lt ha]
      · rw [Nat.add_zero, Nat.mod_eq_of_lt ha, hget, hx]
    | some x =>
      simp only
      by_cases hk : x.1 = k
      · rw [if_pos hk]
        refine .inl ⟨0, by omega, ?_, ⟨x.2, ?_⟩, fun e he => absurd he (Nat.not_lt_zero _)⟩
        · simp [Nat.mod_eq_of_lt ha]
        · rw [Nat.add_zero, Nat.mod_eq_of_lt ha, hget, hx, ← hk]
      · rw [if_neg hk]
        have hb : (a + 1) % T.length < T.length := Nat.mod_lt _ hT
        have hmod : ∀ d, ((a + 1) % T.length + d) % T.length = (a + (d + 1)) % T.length := fun d => by
          rw [Nat.mod_add_mod, Nat.add_assoc, Nat.add_comm 1 d]
        have h0 : ∃ y, T[(a + 0) % T.length]? = some (some y) ∧ y.1 ≠ k := ⟨x, by rw [Nat.add_zero, Nat.mod_eq_of_lt ha, hget, hx], hk⟩
        have step : ∀ d, (∀ e, e < d → ∃ y, T[((a + 1) % T.length + e) % T.length]? = some (some y) ∧ y.1 ≠ k) → ∀ e, e < d + 1 → ∃ y, T[(a + e) % T.length]? = some (some y) ∧ y.1 ≠ k := fun d h e he => by
          cases e with
          | zero => exact h0
          | succ e => rw [← hmod e]; exact h e (by omega)
        rcases findGo_spec T k hT f ((a + 1) % T.length) hb (by omega) with ⟨d, hd, h1, h2, h3⟩ | ⟨d, hd, h1, h2, h3⟩ | ⟨h1, h3⟩
        · exact .inl ⟨d + 1, by omega, by rw [h1, hmod], by rw [← hmod]; exact h2, step d h3⟩
        · exact .inr (.inl ⟨d + 1, by omega, by rw [h1, hmod], by rw [← hmod]; exact h2, step d h3⟩)
        · exact .inr (.inr ⟨by rw [h1, hmod], step f h3⟩)
theorem findGo_true {T : Tab K} {k : K} (hT : 0 < T.length) : ∀ {f a d : Nat}, a < T.length → d < f → (∃ v, T[(a + d) % T.length]? = some (some (k, v))) → (∀ e, e < d → ∃ x, T[(a + e) % T.length]? = some (some x) ∧ x.1 ≠ k) → findGo T k f a = ((a + d) % T.length, true)
  | 0, a, d, ha, hd, _, _ => absurd hd (Nat.not_lt_zero _)
  | f + 1, a, 0, ha, hd, ⟨v, h1⟩, h2 => by
    rw [Nat.add_zero, Nat.mod_eq_of_lt ha] at h1
    show findGo T k (f + 1) a = (a % T.length, true)
    rw [Nat.mod_eq_of_lt ha]
    simp [findGo, h1]
  | f + 1, a, d + 1, ha, hd, ⟨v, h1⟩, h2 => by
    obtain ⟨x, hx, hk⟩ := h2 0 (by omega)
    rw [Nat.add_zero, Nat.mod_eq_of_lt ha] at hx
    have hmod : ∀ d, ((a + 1) % T.length + d) % T.length = (a + (d + 1)) % T.length := fun d => by
      rw [Nat.mod_add_mod, Nat.add_assoc, Nat.add_comm 1 d]
    simp only [findGo, hx, if_neg hk]
    rw [← hmod d]
    have h3 : ∀ e, e < d → ∃ x, T[((a + 1) % T.length + e) % T.length]? = some (some x) ∧ x.1 ≠ k := fun e he => by
      rw [hmod]
      exact h2 (e + 1) (by omega)
    have h4 : ∃ v, T[((a + 1) % T.length + d) % T.length]? = some (some (k, v)) := ⟨v, by rw [hmod]; exact h1⟩
    exact findGo_true hT (Nat.mod_lt _ hT) (show d < f by omega) h4 h3
def Has (T : Tab K) (k : K) (v : Int) : Prop := ∃ i : Nat, T[i]? = some (some (k, v))
theorem right_parts (h : rightT hm ok T = true) : placesB T.length = true ∧ lenT T ≠ T.length ∧ ∀ (i : Nat) (x : K × Int), T[i]? = some (some x) → findT hm T x.1 = (i, true) ∧ ok x.1 = true := by
  unfold rightT at h
  simp only [Bool.and_eq_true, Bool.not_eq_true', decide_eq_false_iff_not, List.all_eq_true, List.mem_range] at h
  refine ⟨h.1.1, h.1.2, fun i x hx => ?_⟩
  have := h.2 i (List.getElem?_eq_some_iff.1 hx).1
  unfold okAt at this
  rw [hx] at this
  simpa using this
theorem right_mk (h1 : placesB T.length = true) (h2 : lenT T ≠ T.length) (h3 : ∀ (i : Nat) (x : K × Int), T[i]? = some (some x) → findT hm T x.1 = (i, true) ∧ ok x.1 = true) : rightT hm ok T = true := by
  unfold rightT
  simp only [Bool.and_eq_true, Bool.not_eq_true', decide_eq_false_iff_not, List.all_eq_true, List.mem_range]
  refine ⟨⟨h1, h2⟩, fun i hi => ?_⟩
  unfold okAt
  cases hx : T[i]? with
  | none => rfl
  | some o =>
    cases o with
    | none => rfl
    | some x =>
      have := h3 i x hx
      simp [this.1, this.2]
theorem places_pos (h : placesB T.length = true) : 0 < T.length := by
  unfold placesB at h
  simp only [Bool.and_eq_true, decide_eq_true_eq] at h
  omega
theorem find_true {k : K} (hT : 0 < T.length) (h : (findT hm T k).2 = true) : ∃ v, T[(findT hm T k).1]? = some (some (k, v)) := by
  unfold findT at h ⊢
  rcases findGo_spec T k hT T.length (hm k % T.length) (Nat.mod_lt _ hT) (Nat.le_refl _) with ⟨d, hd, h1, h2, h3⟩ | ⟨d, hd, h1, h2, h3⟩ | ⟨h1, h3⟩
  · rw [h1]; exact h2
  · rw [h1] at h; cases h
  · rw [h1] at h; cases h
theorem countP_lt {α : Type} {p : α → Bool} : ∀ {l : List α}, l.countP p ≠ l.length → ∃ (i : Nat) (x : α), l[i]? = some x ∧ p x = false
  | [], h => absurd rfl h
  | a :: l, h => by
    by_cases ha : p a = true
    · rw [List.countP_cons_of_pos ha, List.length_cons] at h
      obtain ⟨i, x, h1, h2⟩ := countP_lt (l := l) (p := p) (by omega)
      exact ⟨i + 1, x, by simpa using h1, h2⟩
    · exact ⟨0, a, rfl, by simpa using ha⟩
theorem find_empty {k : K} (hT : 0 < T.length) (hl : lenT T ≠ T.length) (h : (findT hm T k).2 = false) :
    ∃ d, d < T.length ∧ (findT hm T k).1 = (hm k % T.length + d) % T.length ∧ T[(hm k % T.length + d) % T.length]? = some none ∧ ∀ e, e < d → ∃ x, T[(hm k % T.length + e) % T.length]? = some (some x) ∧ x.1 ≠ k := by
  unfold findT at h ⊢
  rcases findGo_spec T k hT T.length (hm k % T.length) (Nat.mod_lt _ hT) (Nat.le_refl _) with ⟨d, hd, h1, h2, h3⟩ | ⟨d, hd, h1, h2, h3⟩ | ⟨h1, h3⟩
  · rw [h1] at h; cases h
  · exact ⟨d, hd, by rw [h1], h2, h3⟩
  · exfalso
    obtain ⟨i, x, hi, hx⟩ := countP_lt hl
    have hil := (List.getElem?_eq_some_iff.1 hi).1
    have hb : hm k % T.length < T.length := Nat.mod_lt _ hT
    obtain ⟨e, he, hei⟩ : ∃ e, e < T.length ∧ (hm k % T.length + e) % T.length = i := by
      by_cases h9 : hm k % T.length ≤ i
      · exact ⟨i - hm k % T.length, by omega, by rw [show hm k % T.length + (i - hm k % T.length) = i by omega]; exact Nat.mod_eq_of_lt hil⟩
      · refine ⟨T.length - hm k % T.length + i, by omega, ?_⟩
        rw [show hm k % T.length + (T.length - hm k % T.length + i) = T.length + i by omega, Nat.add_mod_left]
        exact Nat.mod_eq_of_lt hil
    obtain ⟨y, hy, _⟩ := h3 e he
    rw [hei, hi] at hy
    cases hy
    simp at hx
theorem len_set {i : Nat} {x : K × Int} (h : T[i]? = some none) : lenT (T.set i (some x)) = lenT T + 1 := by
  unfold lenT
  have : ∀ (l : Tab K) (i : Nat), l[i]? = some none → (l.set i (some x)).countP (·.isSome) = l.countP (·.isSome) + 1 := by
    intro l
    induction l with
    | nil => intro i h; simp at h
    | cons a l ih =>
      intro i h
      cases i with
      | zero =>
        have h0 : a = none := by simpa using h
        subst h0
        simp [List.countP_cons]
      | succ i =>
        have h0 : l[i]? = some none := by simpa using h
        rw [List.set_cons_succ, List.countP_cons, List.countP_cons, ih i h0]
        omega
  exact this T i h
theorem put_right {k : K} {n : Int} (h : rightT hm ok T = true) (hk : ok k = true) (hf : (findT hm T k).2 = false) (hl : lenT T + 1 < T.length) :
    rightT hm ok (T.set (findT hm T k).1 (some (k, n))) = true ∧ lenT (T.set (findT hm T k).1 (some (k, n))) = lenT T + 1 ∧
      ∀ k' v, Has (T.set (findT hm T k).1 (some (k, n))) k' v ↔ (Has T k' v ∨ (k' = k ∧ v = n)) := by
  obtain ⟨h1, h2, h3⟩ := right_parts h
  have hT := places_pos h1
  obtain ⟨d, hd, hat, hnone, hpath⟩ := find_empty hT h2 hf
  rw [hat]
  generalize hA : (hm k % T.length + d) % T.length = A at *
  have hAl : A < T.length := (List.getElem?_eq_some_iff.1 hnone).1
  have hlen := len_set (x := (k, n)) hnone
  have hset : ∀ j, (T.set A (some (k, n)))[j]? = if j = A then some (some (k, n)) else T[j]? := fun j => by
    rw [List.getElem?_set]
    by_cases hj : A = j
    · subst hj; simp [hAl]
    · rw [if_neg hj, if_neg (fun e => hj e.symm)]
  refine ⟨right_mk (by rw [List.length_set]; exact h1) (by rw [hlen, List.length_set]; omega) (fun i x hx => ?_), hlen, fun k' v => ?_⟩
  · rw [hset] at hx
    by_cases hi : i = A
    · rw [if_pos hi] at hx
      cases hx
      refine ⟨?_, hk⟩
      unfold findT
      rw [List.length_set]
      have hg := findGo_true (T := T.set A (some (k, n))) (k := k) (f := T.length) (a := hm k % T.length) (d := d) (by rw [List.length_set]; exact hT) (by rw [List.length_set]; exact Nat.mod_lt _ hT) hd
        ⟨n, by rw [List.length_set, hA, hset, if_pos rfl]⟩ (fun e he => by
          obtain ⟨y, hy, hyk⟩ := hpath e he
          refine ⟨y, ?_, hyk⟩
          rw [List.length_set, hset, if_neg (fun e9 => by rw [e9, hnone] at hy; cases hy)]
          exact hy)
      rw [hg, List.length_set, hA, hi]
    · rw [if_neg hi] at hx
      obtain ⟨g1, g2⟩ := h3 i x hx
      refine ⟨?_, g2⟩
      unfold findT at g1 ⊢
      rw [List.length_set]
      rcases findGo_spec T x.1 hT T.length (hm x.1 % T.length) (Nat.mod_lt _ hT) (Nat.le_refl _) with ⟨d2, hd2, e1, ⟨v, e2⟩, e3⟩ | ⟨d2, hd2, e1, e2, e3⟩ | ⟨e1, e3⟩
      · rw [g1] at e1
        have ei : i = (hm x.1 % T.length + d2) % T.length := (Prod.mk.inj e1).1
        have hg := findGo_true (T := T.set A (some (k, n))) (k := x.1) (f := T.length) (a := hm x.1 % T.length) (d := d2) (by rw [List.length_set]; exact hT) (by rw [List.length_set]; exact Nat.mod_lt _ hT) hd2
          ⟨v, by rw [List.length_set, hset, if_neg (by rw [← ei]; exact hi)]; exact e2⟩ (fun e he => by
            obtain ⟨y, hy, hyk⟩ := e3 e he
            refine ⟨y, ?_, hyk⟩
            rw [List.length_set, hset, if_neg (fun e9 => by rw [e9, hnone] at hy; cases hy)]
            exact hy)
        rw [hg, List.length_set, ← ei]
      · rw [g1] at e1; cases e1
      · rw [g1] at e1; cases e1
  · unfold Has
    constructor
    · rintro ⟨i, hi⟩
      rw [hset] at hi
      by_cases h9 : i = A
      · rw [if_pos h9] at hi; cases hi; exact .inr ⟨rfl, rfl⟩
      · rw [if_neg h9] at hi; exact .inl ⟨i, hi⟩
    · rintro (⟨i, hi⟩ | ⟨rfl, rfl⟩)
      · refine ⟨i, ?_⟩
        rw [hset, if_neg (fun e9 => by rw [e9, hnone] at hi; cases hi)]
        exact hi
      · exact ⟨A, by rw [hset, if_pos rfl]⟩
end
end Go.Ix
set_option linter.unusedVariables false
set_option maxRecDepth 100000
set_option linter.unusedSimpArgs false
namespace Go.Proofs.YtfhkhnoiolkkdaaGreatDoor
open Go.RowKit
theorem wp_keep {P : Program} {c : Code} {Q : Exit → Act → World → Prop} {a : Act} {w : World} (X : World → Prop) (hX : X w) (h : ∀ V, X V → c.wp P Q a V) : c.wp P Q a w := h w hX
abbrev Tb := Go.Ix.Tab Tup
def hN (t : Tup) : Nat := (tupHash t 0).toNat
def cellL : Option (Tup × Int) → List Value
  | none => [.bool false, .int .i64 0, .int .u32 0, .int .i64 0, .int .u32 0, .int .i64 0, .int .i64 0]
  | some (t, n) => [.bool true, .int .i64 t.proto, .int .u32 t.src, .int .i64 t.sport, .int .u32 t.dst, .int .i64 t.dport, .int .i64 n]
theorem cellL_len (c : Option (Tup × Int)) : (cellL c).length = 7 := by rcases c with _ | ⟨t, n⟩ <;> rfl
theorem cellL_rows (T : Tb) : ∀ r ∈ T.map cellL, r.length = 7 := fun r hr => by
  obtain ⟨c, _, rfl⟩ := List.mem_map.1 hr
  exact cellL_len c
def TbAt (w : World) (b : Nat) (T : Tb) : Prop := b < w.heap.size ∧ ∀ i c, T[i]? = some c → ∀ j v, (cellL c)[j]? = some v → w.cell? ⟨b, i * 7 + j, none⟩ = some v
theorem TbAt.on {w w' : World} {b : Nat} {T : Tb} (h : TbAt w b T) (hj : Junk w w') : TbAt w' b T :=
  ⟨Nat.lt_of_lt_of_le h.1 hj.size, fun i c hc j v hv => ((hj.below (Nat.le_refl _)).cell h.1).trans (h.2 i c hc j v hv)⟩
theorem TbAt.no {w : World} {b a : Nat} {T : Tb} (h : TbAt w b T) (hc : T[a]? = some none) : w.cell? ⟨b, a * 7, none⟩ = some (.bool false) := h.2 a _ hc 0 _ rfl
theorem TbAt.nos {w : World} {b a : Nat} {T : Tb} (h : TbAt w b T) (hc : T[a]? = some none) :
    w.cell? ⟨b, a * 7, none⟩ = some (.bool false) ∧ w.cell? ⟨b, a * 7 + 1, none⟩ = some (.int .i64 0) ∧ w.cell? ⟨b, a * 7 + 2, none⟩ = some (.int .u32 0) ∧ w.cell? ⟨b, a * 7 + 3, none⟩ = some (.int .i64 0) ∧ w.cell? ⟨b, a * 7 + 4, none⟩ = some (.int .u32 0) ∧ w.cell? ⟨b, a * 7 + 5, none⟩ = some (.int .i64 0) ∧ w.cell? ⟨b, a * 7 + 6, none⟩ = some (.int .i64 0) :=
  ⟨h.2 a _ hc 0 _ rfl, h.2 a _ hc 1 _ rfl, h.2 a _ hc 2 _ rfl, h.2 a _ hc 3 _ rfl, h.2 a _ hc 4 _ rfl, h.2 a _ hc 5 _ rfl, h.2 a _ hc 6 _ rfl⟩
theorem TbAt.yes {w : World} {b a : Nat} {T : Tb} {t : Tup} {n : Int} (h : TbAt w b T) (hc : T[a]? = some (some (t, n))) :
    w.cell? ⟨b, a * 7, none⟩ = some (.bool true) ∧ w.cell? ⟨b, a * 7 + 1, none⟩ = some (.int .i64 t.proto) ∧ w.cell? ⟨b, a * 7 + 2, none⟩ = some (.int .u32 t.src) ∧ w.cell? ⟨b, a * 7 + 3, none⟩ = some (.int .i64 t.sport) ∧ w.cell? ⟨b, a * 7 + 4, none⟩ = some (.int .u32 t.dst) ∧ w.cell? ⟨b, a * 7 + 5, none⟩ = some (.int .i64 t.dport) ∧ w.cell? ⟨b, a * 7 + 6, none⟩ = some (.int .i64 n) :=
  ⟨h.2 a _ hc 0 _ rfl, h.2 a _ hc 1 _ rfl, h.2 a _ hc 2 _ rfl, h.2 a _ hc 3 _ rfl, h.2 a _ hc 4 _ rfl, h.2 a _ hc 5 _ rfl, h.2 a _ hc 6 _ rfl⟩
theorem TbAt.own {w : World} {B b cap n : Nat} {e : TypeId} {T : Tb} (h : Own B w e 7 (some ⟨b, 0, none⟩) cap n (T.map cellL).flatten) (hn : 0 < n) : TbAt w b T := by
  have hs := h.src
  refine ⟨?_, fun i c hc j v hv => ?_⟩
  · rcases h.form with ⟨h0, _⟩ | ⟨g, cur, h0, _, h1, _⟩
    · cases h0
    · cases h0
      exact (Array.getElem?_eq_some_iff.1 h1).1
  · have hj : j < 7 := by rw [← cellL_len c]; exact (List.getElem?_eq_some_iff.1 hv).1
    have := hs ⟨b, 0, none⟩ rfl (i * 7 + j) v (by rw [flat_get (cellL_rows T) (by rw [List.getElem?_map, hc]; rfl) hj]; exact hv)
    rw [Addr.add_lit, Nat.zero_add] at this
    exact this
theorem and_1023 (x : Int) (h0 : 0 ≤ x) (h1 : x < 9223372036854775808) : bits .and .i64 x 1023 = x % 1024 := bits_mask .i64 63 (by decide) wrapk_i64 10 (by decide) x h0 (by simpa using h1)
theorem foldHash_lt : ∀ (l : List Int) (s : Int), 0 ≤ s → s ≤ 4294967295 → 0 ≤ l.foldl hashStep s ∧ l.foldl hashStep s ≤ 4294967295
  | [], s, h0, h1 => ⟨h0, h1⟩
  | x :: l, s, h0, h1 => by
    rw [List.foldl_cons]
    refine foldHash_lt l _ ?_ ?_ <;> (unfold hashStep; omega)
theorem tupHash_lt (t : Tup) : 0 ≤ tupHash t 0 ∧ tupHash t 0 ≤ 4294967295 := foldHash_lt _ _ (by decide) (by decide)
theorem tupHash_nat (t : Tup) : tupHash t 0 = (hN t : Int) := by have := tupHash_lt t; unfold hN; omega
set_option maxHeartbeats 1000000 in
theorem ifind_any (T : Tb) (k : Tup) (b c r : Nat) (ok : Bool) (w : World) (hT : T.length = 1024) (hk : TupW k) (hA : TbAt w b T) (hF : Go.Ix.findT hN T k = (r, ok)) :
    Calls Tryz.prog 195 #[.slice (some ⟨b, 0, none⟩) 1024 c, .agg #[.int .i64 k.proto, .int .u32 k.src, .int .i64 k.sport, .int .u32 k.dst, .int .i64 k.dport]] w fun e w' => e = .returned (.tuple #[.int .i64 (r : Int), .bool ok]) ∧ Junk w w' := by
  obtain ⟨H, hH⟩ : ∃ H, hN k = H := ⟨_, rfl⟩
  have hH4 : (H : Int) ≤ 4294967295 := by rw [← hH, ← tupHash_nat]; exact (tupHash_lt k).2
  have HC := Lib.hid (fun w1 => show Calls Tryz.prog 241 #[.agg #[.int .i64 k.proto, .int .u32 k.src, .int .i64 k.sport, .int .u32 k.dst, .int .i64 k.dport], .int .u32 0] w1 fun e w' => e = .returned (.int .u32 (H : Int)) ∧ Junk w1 w' by rw [← hH, ← tupHash_nat]; exact tup_hash_any k 0 w1 hk (by omega))
  have HA := Lib.hid hA
  have HF := Lib.hid (show Go.Ix.findGo T k 1024 (H % 1024) = (r, ok) by rw [← hF, ← hH]; unfold Go.Ix.findT; rw [hT])
  have HT := Lib.hid hT
  clear hA hF hk hH hT
  have q1 : IntKind.i64.wrap (H : Int) = (H : Int) := wrapk_i64 _ (by omega) (by omega)
  have q2 : bits .and .i64 (H : Int) 1023 = ((H % 1024 : Nat) : Int) := by rw [and_1023 _ (by omega) (by omega)]; omega
  go_enter Tryz.func195, Tryz.ntmps195
  go_wp2_with (first | (go_at_call 241; (with_reducible refine (HC.out _).mono ?_); rintro e w' ⟨rfl, ⟨osj, dj, rfl⟩⟩))
  go_loopw [6, 16] (fun at_ i wr => ∃ a n : Nat, at_ = .int .i64 (a : Int) ∧ i = .int .i64 (n : Int) ∧ a < 1024 ∧ n ≤ 1024 ∧ Junk (w.alloc (.cells #[.int .i64 k.proto, .int .u32 k.src, .int .i64 k.sport, .int .u32 k.dst, .int .i64 k.dport] 38)) wr ∧ Hid (Go.Ix.findGo T k (1024 - n) a = (r, ok))) (fun _ i _ => 1025 - (intOf i).toNat)
  case atStart => exact ⟨H % 1024, 0, rfl, rfl, by omega, by omega, by (exact jkc), Lib.hid HF.out⟩
  case round =>
    obtain ⟨a, n, rfl, rfl, ha, hn, ⟨os, d, rfl⟩, HG⟩ := hrel
    by_cases hlt : n < 1024
    case neg =>
      obtain rfl : n = 1024 := by omega
      have hE : a = r ∧ false = ok := by have := HG.out; simpa [Go.Ix.findGo] using this
      obtain ⟨rfl, rfl⟩ := hE
      go_wp2
      go_returns
      exact ⟨rfl, by (exact jkc)⟩
    have hlt2 : (n : Int) < 1024 := by omega
    have ha2 : (a : Int) < 1024 := by omega
    obtain ⟨x, hx⟩ : ∃ x, T[a]? = some x := ⟨_, List.getElem?_eq_getElem (by rw [HT.out]; exact ha)⟩
    have HG2 := HG.out
    rw [show 1024 - n = (1024 - (n + 1)) + 1 by omega, Go.Ix.findGo, hx, HT.out] at HG2
    clear HG
    rcases x with _ | ⟨t, m⟩
    · obtain ⟨rfl, rfl⟩ : a = r ∧ false = ok := by simpa using HG2
      have c0 := HA.out.no hx
      have HX := Lib.hid hx
      clear hx HG2
      have hb := HA.out.1
      go_wp2
      refine wp_region_junk (by kernel_rfl) (by kernel_rfl) ?_; (repeat (go_big_quiet_step (first | fail))); refine wpQuiet_nil ?_; rintro _ ⟨⟨osq, dq⟩, rfl⟩
      go_wp2
      refine wp_region_junk (by kernel_rfl) (by kernel_rfl) ?_; (repeat (go_big_quiet_step (first | fail))); refine wpQuiet_nil ?_; rintro _ ⟨⟨osq, dq⟩, rfl⟩
      go_wp2
      go_returns
      exact ⟨rfl, by (exact jkc)⟩
    · obtain ⟨c0, c1, c2, c3, c4, c5, c6⟩ := HA.out.yes hx
      have hb := HA.out.1
      have HX := Lib.hid hx
      clear hx
      dsimp only at HG2
      by_cases hk : t = k
      · subst hk
        rw [if_pos rfl] at HG2
        obtain ⟨rfl, rfl⟩ : a = r ∧ true = ok := by simpa using HG2
        clear HG2
        have hq : ∀ w, (binOp .eql 38 (.agg #[.int .i64 t.proto, .int .u32 t.src, .int .i64 t.sport, .int .u32 t.dst, .int .i64 t.dport]) (.agg #[.int .i64 t.proto, .int .u32 t.src, .int .i64 t.sport, .int .u32 t.dst, .int .i64 t.dport])).run Tryz.prog w = .ok (.bool true) w := fun w => by have := tupq_eql t t w; rw [decide_eq_true rfl] at this; exact this
        go_wp2
        refine wp_region_junk (by kernel_rfl) (by kernel_rfl) ?_; (repeat (go_big_quiet_step (first | fail))); refine wpQuiet_nil ?_; rintro _ ⟨⟨osq, dq⟩, rfl⟩
        go_wp2
        refine wp_region_junk (by kernel_rfl) (by kernel_rfl) ?_; (repeat (go_big_quiet_step (first | fail))); refine wpQuiet_nil ?_; rintro _ ⟨⟨osq, dq⟩, rfl⟩
        go_wp2
        go_returns
        exact ⟨rfl, by (exact jkc)⟩
      · rw [if_neg hk] at HG2
        have HG := Lib.hid HG2
        clear HG2
        have hq : ∀ w, (binOp .eql 38 (.agg #[.int .i64 t.proto, .int .u32 t.src, .int .i64 t.sport, .int .u32 t.dst, .int .i64 t.dport]) (.agg #[.int .i64 k.proto, .int .u32 k.src, .int .i64 k.sport, .int .u32 k.dst, .int .i64 k.dport])).run Tryz.prog w = .ok (.bool false) w := fun w => by have := tupq_eql t k w; rw [decide_eq_false hk] at this; exact this
        have q3 : bits .and .i64 ((a : Int) + 1) 1023 = (((a + 1) % 1024 : Nat) : Int) := by rw [and_1023 _ (by omega) (by omega)]; omega
        go_wp2
        refine wp_region_junk (by kernel_rfl) (by kernel_rfl) ?_; (repeat (go_big_quiet_step (first | fail))); refine wpQuiet_nil ?_; rintro _ ⟨⟨osq, dq⟩, rfl⟩
        go_wp2
        exact ⟨⟨(a + 1) % 1024, n + 1, by go_num, by go_num, by omega, by omega, by (exact jkc), HG⟩, by simp [intOf]; omega⟩
end Go.Proofs.YtfhkhnoiolkkdaaGreatDoor
set_option linter.unusedVariables false
set_option maxRecDepth 100000
set_option linter.unusedSimpArgs false
namespace Go.Proofs.YtfhkhnoiolkkdaaGreatDoor
open Go.RowKit Go.Ix
structure TbOk (T : Tb) : Prop where
  len : T.length = 1024
  right : rightT hN tupRight T = true
  keys : ∀ (i : Nat) (t : Tup) (m : Int), T[i]? = some (some (t, m)) → TupW t
theorem lenT_take {T : Tb} {n : Nat} {x : Option (Tup × Int)} (h : T[n]? = some x) : lenT (T.take (n + 1)) = lenT (T.take n) + (if x.isSome then 1 else 0) := by
  unfold lenT
  rw [List.take_add_one, h, List.countP_append]
  rcases x with _ | x <;> rfl
set_option maxHeartbeats 1000000 in
theorem ilen_any (T : Tb) (b c : Nat) (w : World) (hT : T.length = 1024) (hA : TbAt w b T) :
    Calls Tryz.prog 260 #[.slice (some ⟨b, 0, none⟩) 1024 c] w fun e w' => e = .returned (.int .i64 (lenT T : Int)) ∧ Junk w w' := by
  have HA := Lib.hid hA
  have HT := Lib.hid hT
  clear hA hT
  go_enter Tryz.func260, Tryz.ntmps260
  go_wp2
  go_loopw [3, 8] (fun s i wr => ∃ n : Nat, s = .int .i64 (lenT (T.take n) : Int) ∧ i = .int .i64 (n : Int) ∧ n ≤ 1024 ∧ Junk w wr) (fun _ i _ => 1025 - (intOf i).toNat)
  case atStart => exact ⟨0, rfl, rfl, by omega, by (exact jkc)⟩
  case round =>
    obtain ⟨n, rfl, rfl, hn, ⟨os, d, rfl⟩⟩ := hrel
    by_cases hlt : n < 1024
    case neg =>
      have h2 : ¬ (n : Int) < 1024 := by omega
      rw [show T.take n = T from List.take_of_length_le (by rw [HT.out]; omega)]
      obtain ⟨L, hL⟩ : ∃ L, lenT T = L := ⟨_, rfl⟩
      rw [hL]
      go_wp2
      go_ret
      exact ⟨rfl, by (exact jkc)⟩
    have hlt2 : (n : Int) < 1024 := by omega
    obtain ⟨x, hx⟩ : ∃ x, T[n]? = some x := ⟨_, List.getElem?_eq_getElem (by rw [HT.out]; exact hlt)⟩
    have HL := Lib.hid (lenT_take hx)
    have hle : lenT (T.take n) ≤ n := Nat.le_trans (List.countP_le_length) (by rw [List.length_take]; omega)
    obtain ⟨L, hL⟩ : ∃ L, lenT (T.take n) = L := ⟨_, rfl⟩
    rw [hL] at HL hle ⊢
    have hb := HA.out.1
    rcases x with _ | ⟨t, m⟩
    · obtain ⟨c0, c1, c2, c3, c4, c5, c6⟩ := HA.out.nos hx
      clear hx hL
      go_wp2
      exact ⟨⟨n + 1, by rw [HL.out]; rfl, by go_num, by omega, by (exact jkc)⟩, by simp [intOf]; omega⟩
    · obtain ⟨c0, c1, c2, c3, c4, c5, c6⟩ := HA.out.yes hx
      clear hx hL
      go_wp2
      exact ⟨⟨n + 1, by rw [HL.out]; simp, by go_num, by omega, by (exact jkc)⟩, by simp [intOf]; omega⟩
theorem iplaces_any (w : World) : Calls Tryz.prog 175 #[.int .i64 1024] w fun e w' => e = .returned (.bool true) ∧ Junk w w' := by
  have q : bits .and .i64 1024 1023 = 0 := by decide
  go_enter Tryz.func175, Tryz.ntmps175
  go_wp2
  go_ret
  exact ⟨rfl, by (exact jkc)⟩
theorem icell_zero (w : World) : (Instr.build 324 #[]).run Tryz.prog w = .ok (.agg #[.bool false, .int .i64 0, .int .u32 0, .int .i64 0, .int .u32 0, .int .i64 0, .int .i64 0]) w := by kernel_rfl
theorem icell_neq (w : World) : (binOp .neq 324 (.agg #[.bool false, .int .i64 0, .int .u32 0, .int .i64 0, .int .u32 0, .int .i64 0, .int .i64 0]) (.agg #[.bool false, .int .i64 0, .int .u32 0, .int .i64 0, .int .u32 0, .int .i64 0, .int .i64 0])).run Tryz.prog w = .ok (.bool false) w := by kernel_rfl
set_option maxHeartbeats 2000000 in
theorem iright_any (T : Tb) (b c : Nat) (w : World) (hT : TbOk T) (hA : TbAt w b T) :
    Calls Tryz.prog 194 #[.slice (some ⟨b, 0, none⟩) 1024 c] w fun e w' => e = .returned (.bool true) ∧ Junk w w' := by
  have HA := Lib.hid hA
  have HT := Lib.hid hT
  obtain ⟨hp, hl, hr⟩ := right_parts hT.right
  have HR := Lib.hid hr
  have hlt := hT.len
  obtain ⟨L, hL⟩ : ∃ L, lenT T = L := ⟨_, rfl⟩
  have HL := Lib.hid (fun w1 (hj : Junk w w1) => show Calls Tryz.prog 260 #[.slice (some ⟨b, 0, none⟩) 1024 c] w1 fun e w' => e = .returned (.int .i64 (L : Int)) ∧ Junk w1 w' by rw [← hL]; exact ilen_any T b c w1 hlt (hA.on hj))
  have hne : ((L : Int) == 1024) = false := by rw [hlt, hL] at hl; simp; omega
  clear hA hT hp hl hr hlt hL
  have hz := icell_zero
  have hq := icell_neq
  go_enter Tryz.func194, Tryz.ntmps194
  go_wp2_with (first | (go_at_call 175; (with_reducible refine (iplaces_any _).mono ?_); rintro e w' ⟨rfl, ⟨osj, dj, rfl⟩⟩) | (go_at_call 260; (with_reducible refine (HL.out _ (by (exact jkc))).mono ?_); rintro e w' ⟨rfl, ⟨osj, dj, rfl⟩⟩))
  go_loopw [20] (fun i wr => ∃ n : Nat, i = .int .i64 (n : Int) ∧ n ≤ 1024 ∧ Junk w wr) (fun i _ => 1025 - (intOf i).toNat)
  case atStart => exact ⟨0, rfl, by omega, by (exact jkc)⟩
  case round =>
    obtain ⟨n, rfl, hn, ⟨os, d, rfl⟩⟩ := hrel
    clear HL hne
    by_cases hlt : n < 1024
    case neg =>
      have h2 : ¬ (n : Int) < 1024 := by omega
      go_wp2
      go_ret
      exact ⟨rfl, by (exact jkc)⟩
    have hlt2 : (n : Int) < 1024 := by omega
    obtain ⟨x, hx⟩ : ∃ x, T[n]? = some x := ⟨_, List.getElem?_eq_getElem (by rw [HT.out.len]; exact hlt)⟩
    have hb := HA.out.1
    rcases x with _ | ⟨t, m⟩
    · obtain ⟨c0, c1, c2, c3, c4, c5, c6⟩ := HA.out.nos hx
      clear hx
      go_wp2
      exact ⟨⟨n + 1, by go_num, by omega, by (exact jkc)⟩, by simp [intOf]; omega⟩
    · obtain ⟨c0, c1, c2, c3, c4, c5, c6⟩ := HA.out.yes hx
      obtain ⟨h1, h3⟩ := HR.out n _ hx
      have HI := Lib.hid (fun w1 (hj : Junk w w1) => ifind_any T t b c n true w1 HT.out.len (HT.out.keys n t m hx) (HA.out.on hj) h1)
      have HK := Lib.hid (fun w1 => show Calls Tryz.prog 164 #[.agg #[.int .i64 t.proto, .int .u32 t.src, .int .i64 t.sport, .int .u32 t.dst, .int .i64 t.dport]] w1 fun e w' => e = .returned (.bool true) ∧ Junk w1 w' by have := tup_right_any t w1; rw [h3] at this; exact this)
      clear hx h1 h3
      go_wp2_with (first | (go_at_call 195; (with_reducible refine (HI.out _ (by (exact jkc))).mono ?_); rintro e w' ⟨rfl, ⟨osj, dj, rfl⟩⟩) | (go_at_call 164; (with_reducible refine (HK.out _).mono ?_); rintro e w' ⟨rfl, ⟨osj, dj, rfl⟩⟩))
      exact ⟨⟨n + 1, by go_num, by omega, by (exact jkc)⟩, by simp [intOf]; omega⟩
theorem iget_some (T : Tb) (k : Tup) (b c : Nat) (v : Int) (w : World) (hT : TbOk T) (hk : TupW k) (hA : TbAt w b T) (hG : Has T k v) :
    Calls Tryz.prog 135 #[.slice (some ⟨b, 0, none⟩) 1024 c, .agg #[.int .i64 k.proto, .int .u32 k.src, .int .i64 k.sport, .int .u32 k.dst, .int .i64 k.dport]] w fun e w' => e = .returned (.tuple #[.int .i64 v, .bool true]) ∧ Junk w w' := by
  obtain ⟨r, hr⟩ := hG
  have hf := (right_parts hT.right).2.2 r _ hr
  have HR := Lib.hid (fun w1 (hj : Junk w w1) => iright_any T b c w1 hT (hA.on hj))
  have HI := Lib.hid (fun w1 (hj : Junk w w1) => ifind_any T k b c r true w1 hT.len hk (hA.on hj) hf.1)
  obtain ⟨c0, c1, c2, c3, c4, c5, c6⟩ := hA.yes hr
  have hb := hA.1
  have hr2 : r < 1024 := by rw [← hT.len]; exact (List.getElem?_eq_some_iff.1 hr).1
  have hr3 : (r : Int) < 1024 := by omega
  clear hr hf hA hT hk
  go_enter Tryz.func135, Tryz.ntmps135
  go_wp2_with (first | (go_at_call 194; (with_reducible refine (HR.out _ (by (exact jkc))).mono ?_); rintro e w' ⟨rfl, ⟨osj, dj, rfl⟩⟩) | (go_at_call 195; (with_reducible refine (HI.out _ (by (exact jkc))).mono ?_); rintro e w' ⟨rfl, ⟨osj, dj, rfl⟩⟩))
  go_returns
  exact ⟨rfl, by (exact jkc)⟩
theorem iget_none (T : Tb) (k : Tup) (b c : Nat) (w : World) (hT : TbOk T) (hk : TupW k) (hA : TbAt w b T) (hG : (findT hN T k).2 = false) :
    Calls Tryz.prog 135 #[.slice (some ⟨b, 0, none⟩) 1024 c, .agg #[.int .i64 k.proto, .int .u32 k.src, .int .i64 k.sport, .int .u32 k.dst, .int .i64 k.dport]] w fun e w' => e = .returned (.tuple #[.int .i64 0, .bool false]) ∧ Junk w w' := by
  have HR := Lib.hid (fun w1 (hj : Junk w w1) => iright_any T b c w1 hT (hA.on hj))
  obtain ⟨r, hr⟩ : ∃ r, (findT hN T k).1 = r := ⟨_, rfl⟩
  have HI := Lib.hid (fun w1 (hj : Junk w w1) => ifind_any T k b c r false w1 hT.len hk (hA.on hj) (by rw [← hr, ← hG]))
  clear hA hT hk hG hr
  go_enter Tryz.func135, Tryz.ntmps135
  go_wp2_with (first | (go_at_call 194; (with_reducible refine (HR.out _ (by (exact jkc))).mono ?_); rintro e w' ⟨rfl, ⟨osj, dj, rfl⟩⟩) | (go_at_call 195; (with_reducible refine (HI.out _ (by (exact jkc))).mono ?_); rintro e w' ⟨rfl, ⟨osj, dj, rfl⟩⟩))
  go_returns
  exact ⟨rfl, by (exact jkc)⟩
end Go.Proofs.YtfhkhnoiolkkdaaGreatDoor
set_option linter.unusedVariables false
set_option maxRecDepth 100000
set_option linter.unusedSimpArgs false
namespace Go
open RowKit
structure PW (F : World → Prop) where
  V : World
  h : F V
theorem wp_region_mixp {P : Program} {id : Nat} {Q : Exit → Act → World → Prop} {a : Act} {w1 : World} {l : List Oper} (F : World → Prop) (hF : ∀ V V', F V → Junk V V' → F V') (π : List (Nat × Bool)) (hm : P.follows .mixedOrders = true)
    (hB : (Region.noSelect l.toArray && decide (π.length = l.length) && Region.mixB .any l.toArray π (Array.replicate l.length false)) = true) (h0 : F w1)
    (h : wpMix P l.toArray (fun w' => ∃ x : PW F, w' = x.V) (fun a' w' => Q .normal a' w') π a w1.drew) : (Code.region id l.toArray true).wp P Q a w1 :=
  wp_region_mix _ π hm hB (fun w1 w2 h1 h2 => by
    obtain ⟨x, rfl⟩ := h1
    exact ⟨⟨w2, hF _ _ x.h h2⟩, rfl⟩) ⟨⟨_, hF _ _ h0 (Junk.refl _).drew⟩, rfl⟩ h
theorem storeBox_wp {P : Program} {o : Oper} {a : Act} {K : Act → World → Prop} {Q : Exit → Act → World → Prop} {V : World} {g : Nat} {e : TypeId} {cs : List Value} (t : TypeId) (x y : Operand) (ho : o.op = .store t x y)
    (h : Box V g e cs) (off : Nat) (c : Array Value) (hi : (P.info? t).map (·.size) = some c.size) (hx : a.eval x = .pointer (some ⟨g, off, none⟩)) (hy : a.eval y = .agg c) (hfit : off + c.size ≤ cs.length) (h1 : ∀ v ∈ c.toList, v.oneCell' = true)
    (hK : ∀ w', V.grownBy w' (some g) → Box w' g e (cs.take off ++ c.toList ++ cs.drop (off + c.toList.length)) → K (a.put o.dst undef) w') : o.wp P a V K Q := by
  obtain ⟨w', hrun, hO, hg⟩ := run_storeOwn (P := P) h.own t off c hi (by rw [Nat.one_mul]; exact hfit) h1
  have := hK w' hg (own_Box hO)
  unfold Oper.wp
  simp only [execOp, ho, hx, hy, hrun, Sem.run_bind, Sem.run_pure, Result.andThen]
  simpa [Oper.upon] using this
theorem storeOwn_wp {P : Program} {o : Oper} {a : Act} {K : Act → World → Prop} {Q : Exit → Act → World → Prop} {V : World} {B g sz cap n : Nat} {e : TypeId} {xs : List Value} (t : TypeId) (x y : Operand) (ho : o.op = .store t x y)
    (h : Own B V e sz (some ⟨g, 0, none⟩) cap n xs) (off : Nat) (c : Array Value) (hi : (P.info? t).map (·.size) = some c.size) (hx : a.eval x = .pointer (some ⟨g, off, none⟩)) (hy : a.eval y = .agg c) (hfit : off + c.size ≤ n * sz) (h1 : ∀ v ∈ c.toList, v.oneCell' = true)
    (hK : ∀ w', V.grownBy w' (some g) → Own B w' e sz (some ⟨g, 0, none⟩) cap n (xs.take off ++ c.toList ++ xs.drop (off + c.toList.length)) → K (a.put o.dst undef) w') : o.wp P a V K Q := by
  obtain ⟨w', hrun, hO, hg⟩ := run_storeOwn (P := P) h t off c hi hfit h1
  have := hK w' hg hO
  unfold Oper.wp
  simp only [execOp, ho, hx, hy, hrun, Sem.run_bind, Sem.run_pure, Result.andThen]
  simpa [Oper.upon] using this
end Go
