/- reasm.copied. -/
import Derived.Test.YtgjppmkadmfibaaRsP
set_option linter.unusedVariables false
set_option maxRecDepth 100000
set_option linter.unusedSimpArgs false
namespace Go.Proofs.Ytgjppmkadmfibaa
open Go.RowKit
theorem two_box (w : World) (A B : Obj) (os : Array Obj) (d : Nat) : (((w.alloc A).alloc B).junk os d).heap[w.heap.size]? = some A ∧ (((w.alloc A).alloc B).junk os d).heap[w.heap.size + 1]? = some B := by
  constructor
  · rw [World.heap_junk _ _ _ (by simp; try omega)]
    show ((w.heap.push A).push B)[w.heap.size]? = some A
    rw [Array.getElem?_push, if_neg (by simp), Array.getElem?_push, if_pos rfl]
  · rw [World.heap_junk _ _ _ (by simp; try omega)]
    show ((w.heap.push A).push B)[w.heap.size + 1]? = some B
    rw [Array.getElem?_push, if_pos (by simp)]
theorem own_over2 {w : World} {A A' B B' : Array Value} {tA tB e : TypeId} {os : Array Obj} {d sz cap n : Nat} {oa : Option Addr} {xs : List Value}
    (h : Own ((w.alloc (.cells A tA)).alloc (.cells B tB)).heap.size (((w.alloc (.cells A tA)).alloc (.cells B tB)).junk os d) e sz oa cap n xs) : Own (w.heap.size + 2) (((w.alloc (.cells A' tA)).alloc (.cells B' tB)).junk os d) e sz oa cap n xs := by
  have h2 : Own (w.heap.size + 2) (((w.alloc (.cells A tA)).alloc (.cells B tB)).junk os d) e sz oa cap n xs := h.lower (by simp)
  clear h
  rcases h2.form with ⟨rfl, rfl, rfl⟩ | ⟨g, cur, h0, h1, h3, hr⟩
  · have hl := h2.len
    obtain rfl : xs = [] := List.eq_nil_of_length_eq_zero (by rw [hl, Nat.zero_mul])
    exact Own.nil _ _ _ _
  · subst h0
    refine ⟨h2.len, .inr ⟨g, cap, cur, rfl, h1, ?_, hr⟩⟩
    have e : ∀ (X : World), X.heap.size = w.heap.size + 2 → (X.junk os d).heap[g]? = os[g - (w.heap.size + 2)]? := fun X hX => by
      show (X.heap ++ os)[g]? = _
      rw [Array.getElem?_append_right (by omega), hX]
    rw [← h3, e _ (by simp), e _ (by simp)]
/-- The runs under way: the first k have data of their own. -/
structure RnW (V : World) (lo : Nat) (ro : Option Addr) (rc n k : Nat) (F F2 : List Ot) : Prop where
  d : F2.map Ot.d = F.map Ot.d
  own : Own lo V 72 2 ro rc n (otsL F2)
  done : ∀ m f, F2[m]? = some f → m < k → Bts V f.oa f.l f.c f.xs ∧ In lo V.heap.size f.oa f.l ∧ Go.Off (rowOf ro) f.oa f.l
  rest : ∀ m, k ≤ m → F2[m]? = F[m]?
theorem RnW.on {V V' : World} {lo rc n k : Nat} {ro : Option Addr} {F F2 : List Ot} (h : RnW V lo ro rc n k F F2) (hj : Junk V V') : RnW V' lo ro rc n k F F2 :=
  ⟨h.d, h.own.on hj, fun m f hf hm => ⟨(h.done m f hf hm).1.on hj, (h.done m f hf hm).2.1.mono (Nat.le_refl _) hj.size, (h.done m f hf hm).2.2⟩, h.rest⟩
theorem otsL_set {F : List Ot} {k : Nat} {f : Ot} (hf : F[k]? = some f) (o : Option Addr) (c : Nat) : (otsL F).set (k * 2 + 1) (.slice o f.l c) = otsL (F.set k ⟨f.k, o, f.l, c, f.xs⟩) := by
  unfold otsL
  rw [flat_set (ot_rows F) (by rw [List.getElem?_map, hf]; rfl) (by decide) _, List.map_set]
  rfl
/-- .. one more of them. -/
theorem RnW.step {V : World} {lo r rc n k : Nat} {F F2 : List Ot} (h : RnW V lo (some ⟨r, 0, none⟩) rc n k F F2) {f : Ot} (hf : F2[k]? = some f) {o : Option Addr} {c : Nat} (hb : Bts V o f.l c f.xs) (hi : In lo V.heap.size o f.l) (ho : Go.Off (some r) o f.l) :
    RnW (V.setCell ⟨r, k * 2 + 1, none⟩ (.slice o f.l c)) lo (some ⟨r, 0, none⟩) rc n (k + 1) F (F2.set k ⟨f.k, o, f.l, c, f.xs⟩) := by
  have hk := (List.getElem?_eq_some_iff.1 hf).1
  have hg := own_set_grown h.own (k * 2 + 1) (.slice o f.l c)
  have hsz : (V.setCell ⟨r, k * 2 + 1, none⟩ (.slice o f.l c)).heap.size = V.heap.size := by simp [World.setCell]
  refine ⟨?_, ?_, ?_, ?_⟩
  · rw [← h.d, List.map_set]
    apply List.ext_getElem?
    intro m
    by_cases e : k = m
    · subst e
      rw [List.getElem?_set_self (by rw [List.length_map]; exact hk), List.getElem?_map, hf]
      rfl
    · rw [List.getElem?_set_ne e]
  · have := (World.ownsRow.stored h.own (k * 2 + 1) (.slice o f.l c)).1
    rw [otsL_set hf] at this
    exact this
  · intro m f2 hf2 hm
    rw [hsz]
    by_cases e : k = m
    · subst e
      rw [List.getElem?_set_self hk] at hf2
      cases hf2
      exact ⟨hb.grown hg ho, hi, ho⟩
    · rw [List.getElem?_set_ne e] at hf2
      have h1 := h.done m f2 hf2 (by omega)
      exact ⟨h1.1.grown hg h1.2.2, h1.2⟩
  · intro m hm
    rw [List.getElem?_set_ne (by omega)]
    exact h.rest m (by omega)
/-- All of them: a buffer of its own. -/
theorem RnW.fr {V : World} {lo rc n : Nat} {ro : Option Addr} {F F2 : List Ot} (h : RnW V lo ro rc n n F F2) {b : Bf} (hn : F.length = n) (ho : Bts V b.ho b.head.ol b.hoc b.head.opts) (hi : In lo V.heap.size b.ho b.head.ol) (hof : Go.Off (rowOf ro) b.ho b.head.ol) (hr : ∀ a, ro = some a → a.block < V.heap.size) (hF : b.F = F2) (hro : b.ro = ro) (hrc : b.rc = rc) : FrB V lo V.heap.size b := by
  have hl : F2.length = n := by have := congrArg List.length h.d; simpa [hn] using this
  refine ⟨ho, hi, by rw [hro]; exact hof, ?_, by rw [hro]; exact hr, fun f hf => ?_⟩
  · rw [hro, hrc, hF, hl]; exact h.own
  · rw [hF] at hf
    obtain ⟨m, hm, rfl⟩ := List.getElem_of_mem hf
    rw [hro]
    exact h.done m _ (List.getElem?_eq_getElem hm) (by omega)
/-- What is copied after i buffers. -/
structure CpD (V : World) (ob : Option Addr) (i : Nat) (L R : List Bf) (M : Nat → Nat) : Prop where
  len : R.length = L.length
  q : ∀ (j : Nat) (b b2 : Bf), L[j]? = some b → R[j]? = some b2 → b2.q = b.q ∧ b2.hb = b.hb ∧ b2.hbc = b.hbc
  fr : ∀ (j : Nat) (b2 : Bf), R[j]? = some b2 → j < i → FrB V (M j) (M (j + 1)) b2
  rest : ∀ j, i ≤ j → R[j]? = L[j]?
  mono : ∀ j, j < i → M j ≤ M (j + 1)
  lo : ∀ a, ob = some a → a.block < M 0
  hi : M i ≤ V.heap.size
theorem CpD.on {V V' : World} {ob : Option Addr} {i : Nat} {L R : List Bf} {M : Nat → Nat} (h : CpD V ob i L R M) (hj : Junk V V') : CpD V' ob i L R M :=
  ⟨h.len, h.q, fun j b2 hb hji => (h.fr j b2 hb hji).on hj, h.rest, h.mono, h.lo, Nat.le_trans h.hi hj.size⟩
theorem CpD.lo_le {V : World} {ob : Option Addr} {i : Nat} {L R : List Bf} {M : Nat → Nat} (h : CpD V ob i L R M) : ∀ j, j ≤ i → ∀ a, ob = some a → a.block < M j := by
  intro j hj a ha
  induction j with
  | zero => exact h.lo a ha
  | succ j ih => exact Nat.lt_of_lt_of_le (ih (by omega)) (h.mono j (by omega))
theorem CpD.le_hi {V : World} {ob : Option Addr} {i : Nat} {L R : List Bf} {M : Nat → Nat} (h : CpD V ob i L R M) : ∀ k, k ≤ i → ∀ j, j ≤ k → M j ≤ M k := by
  intro k
  induction k with
  | zero => intro _ j hj; rw [show j = 0 by omega]; exact Nat.le_refl _
  | succ k ih =>
    intro hk j hj
    by_cases e : j = k + 1
    · rw [e]; exact Nat.le_refl _
    · exact Nat.le_trans (ih (by omega) j (by omega)) (h.mono k (by omega))
/-- A store into a block that is none of theirs. -/
theorem CpD.grown {V V' : World} {ob : Option Addr} {i : Nat} {L R : List Bf} {M : Nat → Nat} (h : CpD V ob i L R M) {r : Nat} (hg : V.grownBy V' (some r)) (hr : r < M 0 ∨ M i ≤ r) : CpD V' ob i L R M :=
  ⟨h.len, h.q, fun j b2 hb hji => (h.fr j b2 hb hji).grown hg (fun k hk => by
    cases hk
    rcases hr with hr | hr
    · exact .inl (Nat.lt_of_lt_of_le hr (h.le_hi j (by omega) 0 (by omega)))
    · exact .inr (Nat.le_trans (h.le_hi i (Nat.le_refl _) (j + 1) (by omega)) hr)), h.rest, h.mono, h.lo, Nat.le_trans h.hi hg.size⟩
/-- One more buffer. -/
theorem CpD.step {V : World} {ob : Option Addr} {i : Nat} {L R : List Bf} {M : Nat → Nat} (h : CpD V ob i L R M) {b b2 : Bf} (hb : L[i]? = some b) (hq : b2.q = b.q) (h1 : b2.hb = b.hb) (h2 : b2.hbc = b.hbc) (hf : FrB V (M i) V.heap.size b2) : CpD V ob (i + 1) L (R.set i b2) (fun j => if j ≤ i then M j else V.heap.size) := by
  have hi : i < R.length := by rw [h.len]; exact (List.getElem?_eq_some_iff.1 hb).1
  refine ⟨by rw [List.length_set, h.len], ?_, ?_, ?_, ?_, ?_, ?_⟩
  · intro j x y hx hy
    by_cases e : i = j
    · subst e
      rw [List.getElem?_set_self hi] at hy
      cases hy
      rw [hb] at hx
      cases hx
      exact ⟨hq, h1, h2⟩
    · rw [List.getElem?_set_ne e] at hy
      exact h.q j x y hx hy
  · intro j y hy hji
    by_cases e : i = j
    · subst e
      rw [List.getElem?_set_self hi] at hy
      cases hy
      simp only [Nat.le_refl, if_true, show ¬ i + 1 ≤ i by omega, if_false]
      exact hf
    · rw [List.getElem?_set_ne e] at hy
      have := h.fr j y hy (by omega)
      simp only [show j ≤ i by omega, show j + 1 ≤ i by omega, if_true]
      exact this
  · intro j hj
    rw [List.getElem?_set_ne (by omega)]
    exact h.rest j (by omega)
  · intro j hj
    simp only [show j ≤ i by omega, if_true]
    by_cases e : j + 1 ≤ i
    · rw [if_pos e]; exact h.mono j (by omega)
    · rw [if_neg e, show j = i by omega]; exact h.hi
  · simp only [Nat.zero_le, if_true]; exact h.lo
  · simp only [show ¬ i + 1 ≤ i by omega, if_false]; exact Nat.le_refl _
theorem PlAt.runsAt {w : World} {oa : Option Addr} {L : List Bf} (h : PlAt w oa L) {k : Nat} {b : Bf} (hb : L[k]? = some b) : OsAt w b.ro b.F := by
  obtain ⟨_, _, _, _, _, hin⟩ := h k b hb
  exact hin.runs
theorem pool_cells {w : World} {B g : Nat} {e : TypeId} {a b c d x0 x1 x2 x3 : Value} (h : Own B w e 4 (some ⟨g, 0, none⟩) 1 1 ([x0, x1, x2, x3].take 0 ++ (#[a, b, c, d] : Array Value).toList ++ [x0, x1, x2, x3].drop (0 + (#[a, b, c, d] : Array Value).toList.length))) :
    w.cell? ⟨g, 0, none⟩ = some a ∧ w.cell? ⟨g, 1, none⟩ = some b ∧ w.cell? ⟨g, 2, none⟩ = some c ∧ w.cell? ⟨g, 3, none⟩ = some d ∧ g < w.heap.size := by
  have hk : ∀ j v, [a, b, c, d][j]? = some v → w.cell? ⟨g, j, none⟩ = some v ∧ g < w.heap.size := fun j v hv => by
    obtain ⟨g', h1, _, h3, h2, _⟩ := h.cells j v (by simpa using hv)
    cases h1
    exact ⟨h2, h3⟩
  exact ⟨(hk 0 _ rfl).1, (hk 1 _ rfl).1, (hk 2 _ rfl).1, (hk 3 _ rfl).1, (hk 0 _ rfl).2⟩
theorem set_grown (w : World) (a : Addr) (v : Value) : w.grownBy (w.setCell a v) (some a.block) := ⟨rfl, rfl, rfl, by simp [World.setCell], fun k _ hk => Below.heap_setCell _ _ _ k (fun e => hk (by rw [e]))⟩
theorem cp_fin {w X Y : World} {ob : Option Addr} {cap l : Nat} {L R : List Bf} {M : Nat → Nat} (hg : X.grownBy Y (some (w.heap.size + 1))) (h : Junk w X ∧ Own (w.heap.size + 2) X 45 19 ob cap l (bfsL R) ∧ CpD X ob l L R M ∧ w.heap.size + 1 < M 0) :
    Junk w Y ∧ Own (w.heap.size + 2) Y 45 19 ob cap l (bfsL R) ∧ CpD Y ob l L R M ∧ w.heap.size + 1 < M 0 := by
  obtain ⟨h1, h2, h3, h4⟩ := h
  exact ⟨below_of_grown h1 hg (fun k hk => by cases hk; omega), own_grownR h2 hg (fun k hk a ha => by
    cases hk
    have := own_fresh h2 a ha
    show w.heap.size + 1 ≠ a.block
    omega), h3.grown hg (.inl h4), h4⟩
/-- The state of the copying of a buffer's runs. -/
structure CpI (w V : World) (g cap l : Nat) (room life now : Int) (L R : List Bf) (M : Nat → Nat) (k m : Nat) (b : Bf) (o1 : Option Addr) (c1 : Nat) (ro : Option Addr) (rc n : Nat) (F2 : List Ot) : Prop where
  W : CpW w V (some ⟨g, 0, none⟩) cap l room life now (R.set k { b with ho := o1, hoc := c1, ro := ro, rc := rc })
  D : CpD V (some ⟨g, 0, none⟩) k L R M
  opts : Bts V o1 b.head.ol c1 b.head.opts
  oin : In (M k) V.heap.size o1 b.head.ol
  ooff : Go.Off (rowOf ro) o1 b.head.ol
  rn : RnW V (M k) ro rc n m b.F F2
section
variable {w V V' : World} {g cap l : Nat} {room life now : Int} {L R : List Bf} {M : Nat → Nat} {k m : Nat} {b : Bf} {o1 : Option Addr} {c1 : Nat} {ro : Option Addr} {rc n : Nat} {F2 : List Ot}
theorem CpI.on (h : CpI w V g cap l room life now L R M k m b o1 c1 ro rc n F2) (hj : Junk V V') : CpI w V' g cap l room life now L R M k m b o1 c1 ro rc n F2 :=
  ⟨h.W.on hj, h.D.on hj, h.opts.on hj, h.oin.mono (Nat.le_refl _) hj.size, h.ooff, h.rn.on hj⟩
theorem cp_opts {os : Array Obj} {d : Nat} (HW : CpW w V (some ⟨g, 0, none⟩) cap l room life now R) (HD : CpD V (some ⟨g, 0, none⟩) k L R M) (hb : R[k]? = some b) (hcb : Bts (V.junk os d) o1 b.head.ol c1 b.head.opts) (hcf : Fresh V.heap.size o1) :
    CpW w ((V.setCell ⟨g, k * 19 + 5 + 9, none⟩ (.slice o1 b.head.ol c1)).junk os d) (some ⟨g, 0, none⟩) cap l room life now (R.set k { b with ho := o1, hoc := c1 }) ∧
    CpD ((V.setCell ⟨g, k * 19 + 5 + 9, none⟩ (.slice o1 b.head.ol c1)).junk os d) (some ⟨g, 0, none⟩) k L R M ∧
    Bts ((V.setCell ⟨g, k * 19 + 5 + 9, none⟩ (.slice o1 b.head.ol c1)).junk os d) o1 b.head.ol c1 b.head.opts := by
  have hge := own_geR HW.own
  rw [show k * 19 + 5 + 9 = k * 19 + 14 by omega]
  refine ⟨(HW.set hb (by decide) rfl).on ⟨os, d, rfl⟩, (HD.grown (set_grown V ⟨g, k * 19 + 14, none⟩ _) (.inl (show g < M 0 from HD.lo ⟨g, 0, none⟩ rfl))).on ⟨os, d, rfl⟩, ?_⟩
  rw [← World.setCell_junk _ _ _ _ _ _ hge.2]
  refine hcb.grown (set_grown _ ⟨g, k * 19 + 14, none⟩ _) (fun _ a ha he => ?_)
  have h1 := hcf a ha
  have h2 : a.block = g := Option.some.inj he
  omega
theorem cp_runs {os : Array Obj} {d : Nat} (HW : CpW w V (some ⟨g, 0, none⟩) cap l room life now (R.set k { b with ho := o1, hoc := c1 })) (HD : CpD V (some ⟨g, 0, none⟩) k L R M) (hk : k < R.length) (ho : Bts V o1 b.head.ol c1 b.head.opts) (hcf : Fresh (M k) o1) (hn : b.F.length = n)
    (hown : Own V.heap.size (V.junk os d) 72 2 ro rc n (otsL b.F)) :
    CpI w ((V.setCell ⟨g, k * 19 + 18, none⟩ (.slice ro n rc)).junk os d) g cap l room life now L R M k 0 b o1 c1 ro rc n b.F := by
  have hge := own_geR HW.own
  have hsz : ((V.setCell ⟨g, k * 19 + 18, none⟩ (.slice ro n rc)).junk os d).heap.size = V.heap.size + os.size := by simp [World.setCell]
  refine ⟨?_, (HD.grown (set_grown V ⟨g, k * 19 + 18, none⟩ _) (.inl (show g < M 0 from HD.lo ⟨g, 0, none⟩ rfl))).on ⟨os, d, rfl⟩, ?_, ?_, ?_, ⟨rfl, ?_, fun m f _ h => by omega, fun _ _ => rfl⟩⟩
  · have h1 := (HW.set (i := k) (b' := { b with ho := o1, hoc := c1, ro := ro, rc := rc }) (by rw [List.getElem?_set_self hk]) (j := 18) (by decide) (v := .slice ro n rc) (by rw [← hn]; rfl)).on (V' := (V.setCell ⟨g, k * 19 + 18, none⟩ (.slice ro n rc)).junk os d) ⟨os, d, rfl⟩
    rw [List.set_set] at h1
    exact h1
  · refine (ho.grown (set_grown V ⟨g, k * 19 + 18, none⟩ (.slice ro n rc)) (fun _ a ha he => ?_)).on ⟨os, d, rfl⟩
    have h1 := hcf a ha
    have h2 : g < M k := HD.lo_le k (Nat.le_refl _) ⟨g, 0, none⟩ rfl
    have h3 : a.block = g := Option.some.inj he
    omega
  · intro hl a ha
    have h1 := ho.below hl a ha
    exact ⟨hcf a ha, by rw [hsz]; omega⟩
  · intro hl a ha he
    have h1 := ho.below hl a ha
    cases hro : ro with
    | none => rw [hro] at he; cases he
    | some r =>
      have h2 := own_fresh hown r hro
      rw [hro] at he
      have h3 : a.block = r.block := Option.some.inj he
      omega
  · rw [← World.setCell_junk _ _ _ _ _ _ hge.2]
    exact own_grownR (hown.lower HD.hi) (set_grown _ ⟨g, k * 19 + 18, none⟩ _) (fun q hq a ha => by
      cases hq
      have := own_fresh hown a ha
      show g ≠ a.block
      omega)
theorem CpI.step {r : Nat} (h : CpI w V g cap l room life now L R M k m b o1 c1 (some ⟨r, 0, none⟩) rc n F2) {f : Ot} (hf : F2[m]? = some f) {o : Option Addr} {c : Nat} (hb : Bts V o f.l c f.xs) (hfr : In (r + 1) V.heap.size o f.l) :
    CpI w (V.setCell ⟨r, m * 2 + 1, none⟩ (.slice o f.l c)) g cap l room life now L R M k (m + 1) b o1 c1 (some ⟨r, 0, none⟩) rc n (F2.set m ⟨f.k, o, f.l, c, f.xs⟩) := by
  have hg := set_grown V ⟨r, m * 2 + 1, none⟩ (.slice o f.l c)
  have hr := own_geR h.rn.own
  have h1 := h.D.lo_le k (Nat.le_refl _) _ rfl
  have h2 := own_geR h.W.own
  simp only at h1
  refine ⟨h.W.grown hg (by simp only; omega) (fun a ha he => by cases ha; simp only at he; omega), h.D.grown hg (.inr hr.1), h.opts.grown hg h.ooff, ?_, h.ooff, h.rn.step hf hb (hfr.mono (by omega) (Nat.le_refl _)) (hfr.off (fun q hq => by cases hq; left; omega))⟩
  have hsz : (V.setCell ⟨r, m * 2 + 1, none⟩ (.slice o f.l c)).heap.size = V.heap.size := by simp [World.setCell]
  rw [hsz]
  exact h.oin
theorem CpI.fin (h : CpI w V g cap l room life now L R M k n b o1 c1 ro rc n F2) (hn : b.F.length = n) (hb : L[k]? = some b) :
    CpW w V (some ⟨g, 0, none⟩) cap l room life now (R.set k { b with ho := o1, hoc := c1, ro := ro, rc := rc, F := F2 }) ∧
    CpD V (some ⟨g, 0, none⟩) (k + 1) L (R.set k { b with ho := o1, hoc := c1, ro := ro, rc := rc, F := F2 }) (fun j => if j ≤ k then M j else V.heap.size) := by
  have hl : F2.length = b.F.length := by have := congrArg List.length h.rn.d; simpa using this
  refine ⟨⟨h.W.box, h.W.res, ?_, h.W.junk⟩, h.D.step hb ?_ rfl rfl ?_⟩
  · have := h.W.own
    unfold bfsL at this ⊢
    rw [List.map_set] at this ⊢
    have e : Bf.cells { b with ho := o1, hoc := c1, ro := ro, rc := rc, F := F2 } = Bf.cells { b with ho := o1, hoc := c1, ro := ro, rc := rc } := by unfold Bf.cells; simp only [hl]
    rw [e]
    exact this
  · unfold Bf.q
    simp only [h.rn.d]
  · exact h.rn.fr hn h.opts h.oin h.ooff (fun a ha => by
      have h1 := h.rn.own
      rcases h1.form with ⟨h2, _⟩ | ⟨g1, cur, h2, _, h3, _⟩
      · rw [ha] at h2; cases h2
      · rw [ha] at h2; cases h2; exact (Array.getElem?_eq_some_iff.1 h3).1) rfl rfl rfl
end
/-- A pool that was copied. -/
def CpM (w : World) (room life now : Int) (L : List Bf) (e : Ending) (w' : World) : Prop :=
  ∃ (ob : Option Addr) (cap : Nat) (R : List Bf) (M : Nat → Nat), e = .returned (.agg #[.int .i64 room, .int .i64 life, .int .i64 now, .slice ob L.length cap]) ∧ Junk w w' ∧ Own (w.heap.size + 2) w' 45 19 ob cap L.length (bfsL R) ∧ CpD w' ob L.length L R M ∧ (ob = none → L.length = 0 ∧ cap = 0)
set_option maxRecDepth 100000 in
set_option maxHeartbeats 16000000 in
theorem copied_any (room life now : Int) (oa : Option Addr) (l c : Nat) (L : List Bf) (w : World) (hP : PlAt w oa L) (hl : L.length = l) (hl2 : l ≤ 1000000) (hn : oa = none → l = 0 ∧ c = 0) (hF : ∀ b ∈ L, b.F.length ≤ 1000000 ∧ b.head.ol ≤ 100000000 ∧ ∀ f ∈ b.F, f.l ≤ 100000000) :
    Calls Try.prog 22 #[.agg #[.int .i64 room, .int .i64 life, .int .i64 now, .slice oa l c]] w (CpM w room life now L) := by
  have HP := Lib.hid hP
  have HL := Lib.hid hl
  have HF := Lib.hid hF
  have HN := Lib.hid hn
  have HX := Lib.hid (show (bfsL L).length = l * 19 by rw [bfsL_len, hl])
  clear hP hl hF hn
  go_enter Try.func22, Try.ntmps22
  go_upto_region 2 with (first | (go_at_call 42; refine (cloneB_any oa l c (bfsL L) _ hl2 HX.out (HP.out.src.on (by (exact jkc))) (bfsL_one L) HN.out).mono ?_; rintro e w' ⟨ob, cap, rfl, ⟨osj, dj, rfl⟩, hown⟩; have HO := Lib.hid hown; clear hown))
  have HJ0 := Lib.hid (show Junk w (((w.alloc (.cells #[.int .i64 room, .int .i64 life, .int .i64 now, .slice ob l cap] 31)).alloc (.cells #[.int .i64 0, .int .i64 0, .int .i64 0, .slice none 0 0] 31)).junk osj dj) by (exact jkc))
  have HO1 := Lib.hid (show Own (w.heap.size + 2) (((w.alloc (.cells #[.int .i64 room, .int .i64 life, .int .i64 now, .slice ob l cap] 31)).alloc (.cells #[.int .i64 0, .int .i64 0, .int .i64 0, .slice none 0 0] 31)).junk osj dj) 45 19 ob cap l (bfsL L) from own_over2 (w := w) HO.out)
  clear HO
  have HNB := Lib.hid (show ob = none → l = 0 ∧ cap = 0 from fun h => by
    rcases HO1.out.form with ⟨_, h1, h2⟩ | ⟨g, cur, h1, _⟩
    · exact ⟨h1, h2⟩
    · rw [h] at h1; cases h1)
  have HW0 := Lib.hid (show CpW w (((w.alloc (.cells #[.int .i64 room, .int .i64 life, .int .i64 now, .slice ob l cap] 31)).alloc (.cells #[.int .i64 0, .int .i64 0, .int .i64 0, .slice none 0 0] 31)).junk osj dj) ob cap l room life now L from ⟨(two_box _ _ _ _ _).1, (two_box _ _ _ _ _).2, HO1.out, HJ0.out⟩)
  have HD0 := Lib.hid (show CpD (((w.alloc (.cells #[.int .i64 room, .int .i64 life, .int .i64 now, .slice ob l cap] 31)).alloc (.cells #[.int .i64 0, .int .i64 0, .int .i64 0, .slice none 0 0] 31)).junk osj dj) ob 0 L L (fun _ => ((((w.alloc (.cells #[.int .i64 room, .int .i64 life, .int .i64 now, .slice ob l cap] 31)).alloc (.cells #[.int .i64 0, .int .i64 0, .int .i64 0, .slice none 0 0] 31)).junk osj dj)).heap.size) from ⟨rfl, fun j b b2 h1 h2 => by rw [h1] at h2; cases h2; exact ⟨rfl, rfl, rfl⟩, fun j b2 _ h => by omega, fun _ _ => rfl, fun _ _ => Nat.le_refl _, fun a ha => by
    have h1 := HO1.out
    rcases h1.form with ⟨h2, _⟩ | ⟨g, cur, h2, _, h3, _⟩
    · rw [h2] at ha; cases ha
    · rw [h2] at ha; cases ha; exact (Array.getElem?_eq_some_iff.1 h3).1, Nat.le_refl _⟩)
  clear HO1 HJ0
  generalize (((w.alloc (.cells #[.int .i64 room, .int .i64 life, .int .i64 now, .slice ob l cap] 31)).alloc (.cells #[.int .i64 0, .int .i64 0, .int .i64 0, .slice none 0 0] 31)).junk osj dj) = V0 at HW0 HD0 ⊢
  have t3 := HW0.out.t3
  have ts := HW0.out.ts
  go_wp2
  clear t3 ts
  go_loopw [13] (fun i wr => ∃ (k : Nat) (R : List Bf) (M : Nat → Nat), k ≤ l ∧ i = .int .i64 (k : Int) ∧ Hid (CpW w wr ob cap l room life now R) ∧ Hid (CpD wr ob k L R M) ∧ w.heap.size + 1 < M 0) (fun i _ => l + 1 - (intOf i).toNat)
  case atStart => exact ⟨0, L, _, by omega, rfl, HW0, HD0, HW0.out.ts⟩
  case round =>
    obtain ⟨k, R, M, hk, rfl, HW, HD, hM0⟩ := hrel
    have t3 := HW.out.t3
    have ts := HW.out.ts
    have ts0 : w.heap.size < wr.heap.size := by omega
    by_cases hkl : k < l
    · have hkl2 : (k : Int) < (l : Int) := by omega
      have pk := wrapk_i64 ((k : Int) + 1) (by omega) (by omega)
      obtain ⟨b, hb⟩ : ∃ b, L[k]? = some b := ⟨_, List.getElem?_eq_getElem (by rw [HL.out]; exact hkl)⟩
      have hbR : R[k]? = some b := (HD.out.rest k (Nat.le_refl _)).trans hb
      obtain ⟨g0, off0, hob, hgl, hc, hin⟩ := (HP.out.on HW.out.junk) k b hb
      obtain ⟨hn6, hol, hfl⟩ := HF.out b (List.mem_of_getElem? hb)
      obtain ⟨n, hn⟩ : ∃ n, b.F.length = n := ⟨_, rfl⟩
      have hn7 : n ≤ 1000000 := hn ▸ hn6
      obtain ⟨g, rfl⟩ : ∃ g, ob = some ⟨g, 0, none⟩ := by
        rcases HW.out.own.form with ⟨_, h, _⟩ | ⟨g, cur, h, _⟩
        · omega
        · exact ⟨g, h⟩
      have c14 : wr.cell? ⟨g, k * 19 + 14, none⟩ = some (.slice b.ho b.head.ol b.hoc) := own_bf HW.out.own hbR 14 _ rfl
      have f14 : wr.frozen? ⟨g, k * 19 + 14, none⟩ = false := World.ownsRow.frozenAt HW.out.own _
      have gs := (own_geR HW.out.own).2
      have HCO := Lib.hid (fun w1 (hj : Junk wr w1) => clone_any b.ho b.head.ol b.hoc b.head.opts w1 hol (hin.head.opts.on hj))
      have HB := Lib.hid hb
      have HBR := Lib.hid hbR
      have HIN := Lib.hid hin
      have HN := Lib.hid hn
      have HFL := Lib.hid hfl
      clear hb hbR hin hn hc hfl hob hgl
      go_upto_region 7 with (first | (go_at_call 24; (with_reducible refine (HCO.out _ (by (exact jkc))).mono ?_); rintro e w' ⟨o1, c1, rfl, ⟨osj, dj, rfl⟩, hcb, hcn, hcf⟩; have HCB := Lib.hid hcb; have HCF := Lib.hid hcf; clear hcb hcn hcf))
      have HCP := Lib.hid (cp_opts HW.out HD.out HBR.out HCB.out HCF.out)
      have HFR := Lib.hid (show Fresh (M k) o1 from fun a ha => Nat.le_trans HD.out.hi (HCF.out a ha))
      generalize (wr.setCell ⟨g, k * 19 + 5 + 9, none⟩ (.slice o1 b.head.ol c1)).junk osj dj = V1 at HCP ⊢
      have HW1 := Lib.hid HCP.out.1
      have HD1 := Lib.hid HCP.out.2.1
      have HO1 := Lib.hid HCP.out.2.2
      have hkR : k < R.length := (List.getElem?_eq_some_iff.1 HBR.out).1
      have c18 : V1.cell? ⟨g, k * 19 + 18, none⟩ = some (.slice b.ro n b.rc) := by rw [← HN.out]; exact own_bf HW1.out.own (List.getElem?_set_self hkR) 18 _ rfl
      have f18 : V1.frozen? ⟨g, k * 19 + 18, none⟩ = false := World.ownsRow.frozenAt HW1.out.own _
      have gs1 := (own_geR HW1.out.own).2
      have HCR := Lib.hid (fun w1 (hj : Junk V1 w1) => cloneR_any b.ro n b.rc (otsL b.F) w1 (by omega) (by rw [otsL_len, HN.out]) ((HP.out.on (HW1.out.junk.trans hj)).runsAt HB.out).srcR (otsL_oneR _) (fun hx => by have := HIN.out.nil hx; rw [HN.out] at this; exact this))
      clear HCP HCB HCF HCO c14 f14 gs t3 ts ts0
      go_upto_region 8 with (first | (go_at_call 43; (with_reducible refine (HCR.out _ (by (exact jkc))).mono ?_); rintro e w' ⟨ro2, rc2, rfl, ⟨osj, dj, rfl⟩, hcb⟩; have HRO := Lib.hid hcb; clear hcb))
      have HI := Lib.hid (cp_runs HW1.out HD1.out hkR HO1.out HFR.out HN.out (HRO.out.lower (Nat.le_refl _)))
      generalize (V1.setCell ⟨g, k * 19 + 18, none⟩ (.slice ro2 n rc2)).junk osj dj = V2 at HI ⊢
      have t18 : V2.cell? ⟨g, k * 19 + 18, none⟩ = some (.slice ro2 n rc2) := by rw [← HN.out]; exact own_bf HI.out.W.own (List.getElem?_set_self hkR) 18 _ rfl
      have gs2 := (own_geR HI.out.W.own).2
      clear HW1 HD1 HO1 HCR HRO c18 f18 gs1 HFR HW
      go_wp2
      go_loopw [43] (fun i wr => ∃ (m : Nat) (F2 : List Ot), m ≤ n ∧ i = .int .i64 (m : Int) ∧ Hid (CpI w wr g cap l room life now L R M k m b o1 c1 ro2 rc2 n F2)) (fun i _ => n + 1 - (intOf i).toNat)
      case atStart => exact ⟨0, b.F, by omega, rfl, HI⟩
      case round =>
        obtain ⟨m, F2, hm, rfl, HI2⟩ := hrel
        have t18 : wr.cell? ⟨g, k * 19 + 18, none⟩ = some (.slice ro2 n rc2) := by rw [← HN.out]; exact own_bf HI2.out.W.own (List.getElem?_set_self hkR) 18 _ rfl
        have gs2 := (own_geR HI2.out.W.own).2
        by_cases hmn : m < n
        · have hmn2 : (m : Int) < (n : Int) := by omega
          have pm := wrapk_i64 ((m : Int) + 1) (by omega) (by omega)
          obtain ⟨f, hf⟩ : ∃ f, b.F[m]? = some f := ⟨_, List.getElem?_eq_getElem (by rw [HN.out]; exact hmn)⟩
          have hf2 : F2[m]? = some f := (HI2.out.rn.rest m (Nat.le_refl _)).trans hf
          obtain ⟨r, rfl⟩ : ∃ r, ro2 = some ⟨r, 0, none⟩ := by
            rcases HI2.out.rn.own.form with ⟨_, h, _⟩ | ⟨g, cur, h, _⟩
            · omega
            · exact ⟨g, h⟩
          obtain ⟨gq, oq, -, -, -, -, hbd⟩ := (HP.out.runsAt HB.out) m f hf
          have hfl := HFL.out f (List.mem_of_getElem? hf)
          have HCD := Lib.hid (fun w1 (hj : Junk wr w1) => clone_any f.oa f.l f.c f.xs w1 hfl (hbd.on (HI2.out.W.junk.trans hj)))
          have d1 : wr.cell? ⟨r, m * 2 + 1, none⟩ = some (.slice f.oa f.l f.c) := by
            obtain ⟨g', h1, _, _, h2, _⟩ := HI2.out.rn.own.cells (m * 2 + 1) _ (by rw [otsL_get F2 m f hf2 1 (by decide)]; rfl)
            cases h1
            exact h2
          have df : wr.frozen? ⟨r, m * 2 + 1, none⟩ = false := World.ownsRow.frozenAt HI2.out.rn.own _
          have rs := (own_geR HI2.out.rn.own).2
          have HF2 := Lib.hid hf2
          clear hf hf2 hbd hfl
          go_upto_region 11 with (fail)
          refine wp_region_mixn (wr) 16 [(0, true), (1, true), (2, true), (3, true), (4, true), (5, true), (6, true), (7, true), (8, true), (9, true), (10, true), (11, true), (12, true), (13, false), (14, true), (15, true), (16, false)] (by kernel_rfl) (by kernel_rfl) (by (exact jkc)) ?_; (iterate 13 (refine wpMixL_q rfl (fun K hK => ?_); (go_simp; try go_bits); (refine hK _ ?_; clear hK K))); refine wpMixL_e rfl (fun osm11_0 dm11_0 K hK => ?_); (go_simp; try go_bits); (go_at_call 24; (with_reducible refine (HCD.out _ (by (exact jkc))).mono ?_); rintro e w' ⟨o3, c3, rfl, ⟨osc, dc, rfl⟩, hcb, hcn, hcf⟩; have HDB := Lib.hid hcb; have HDF := Lib.hid hcf; clear hcb hcn hcf); refine hK _ _ (Junk.pair (by (first | exact jkc | repeat (first | with_reducible exact Junk.refl _ | with_reducible exact Junk.app _ _ _ _ _ | with_reducible apply Junk.alloc | with_reducible apply Junk.junk | with_reducible apply Junk.drew | with_reducible apply Junk.drewN | (with_reducible refine Junk.setCell ?_ (by simp) _))))) ?_; clear hK K; (iterate 2 (refine wpMixL_q rfl (fun K hK => ?_); (go_simp; try go_bits); (refine hK _ ?_; clear hK K))); refine wpMixL_last rfl (fun osm11_1 dm11_1 K hK => ?_); (go_simp; try go_bits); refine hK _ _ ?_; clear hK K; refine wpMixL_nil (fun osm dm => ?_)
          have HI3 := Lib.hid (show CpI w (((wr.setCell ⟨r, m * 2 + 1, none⟩ (.slice o3 f.l c3)).junk (osm11_0 ++ (osc ++ osm11_1)) dm11_1).junk osm dm) g cap l room life now L R M k (m + 1) b o1 c1 (some ⟨r, 0, none⟩) rc2 n (F2.set m ⟨f.k, o3, f.l, c3, f.xs⟩) from by
            have hb3 := HDB.out.on (show Junk _ (wr.junk (osm11_0 ++ (osc ++ osm11_1)) dm11_1) by (exact jkc))
            have h3 := (HI2.out.on (show Junk wr (wr.junk (osm11_0 ++ (osc ++ osm11_1)) dm11_1) by (exact jkc))).step HF2.out hb3 (bts_in hb3 (lo := r + 1) (fun a ha => by have := HDF.out a ha; simp at this; omega))
            rw [World.setCell_junk _ _ _ _ _ _ rs] at h3
            exact h3.on ⟨osm, dm, rfl⟩)
          clear HDB HDF HCD d1 df rs t18 gs2
          generalize ((wr.setCell ⟨r, m * 2 + 1, none⟩ (.slice o3 f.l c3)).junk (osm11_0 ++ (osc ++ osm11_1)) dm11_1).junk osm dm = V3 at HI3 ⊢
          go_wp2
          exact ⟨⟨m + 1, _, by omega, by go_num, HI3⟩, by simp [intOf]; omega⟩
        · have hmn2 : ¬ (m : Int) < (n : Int) := by omega
          obtain rfl : m = n := by omega
          have HFIN := Lib.hid (HI2.out.fin HN.out HB.out)
          go_wp2
          exact ⟨⟨k + 1, _, _, by omega, by go_num, Lib.hid HFIN.out.1, Lib.hid HFIN.out.2, by simp; omega⟩, by simp [intOf]; omega⟩
    · have hkl2 : ¬ (k : Int) < (l : Int) := by omega
      obtain rfl : k = l := by omega
      obtain ⟨t0, t1, t2⟩ := HW.out.t012
      obtain ⟨r0, r1, r2, r3, rf⟩ := HW.out.r
      have rf0 := rf 0
      have rf1 := rf 1
      have rf2 := rf 2
      have rf3 := rf 3
      have p0 : (wr.setCell ⟨w.heap.size + 1, 0, none⟩ (.int .i64 room)).cell? ⟨w.heap.size + 1, 0, none⟩ = some (.int .i64 room) := World.cell?_setCell_same _ _ _ (r0)
      have p1 : ((wr.setCell ⟨w.heap.size + 1, 0, none⟩ (.int .i64 room)).setCell ⟨w.heap.size + 1, 1, none⟩ (.int .i64 life)).cell? ⟨w.heap.size + 1, 1, none⟩ = some (.int .i64 life) := World.cell?_setCell_same _ _ _ ((World.cell?_setCell_other _ _ _ _ (by simp)).trans (r1))
      have p2 : (((wr.setCell ⟨w.heap.size + 1, 0, none⟩ (.int .i64 room)).setCell ⟨w.heap.size + 1, 1, none⟩ (.int .i64 life)).setCell ⟨w.heap.size + 1, 2, none⟩ (.int .i64 now)).cell? ⟨w.heap.size + 1, 2, none⟩ = some (.int .i64 now) := World.cell?_setCell_same _ _ _ ((World.cell?_setCell_other _ _ _ _ (by simp)).trans ((World.cell?_setCell_other _ _ _ _ (by simp)).trans (r2)))
      have p3 : ((((wr.setCell ⟨w.heap.size + 1, 0, none⟩ (.int .i64 room)).setCell ⟨w.heap.size + 1, 1, none⟩ (.int .i64 life)).setCell ⟨w.heap.size + 1, 2, none⟩ (.int .i64 now)).setCell ⟨w.heap.size + 1, 3, none⟩ (.slice ob k cap)).cell? ⟨w.heap.size + 1, 3, none⟩ = some (.slice ob k cap) := World.cell?_setCell_same _ _ _ ((World.cell?_setCell_other _ _ _ _ (by simp)).trans ((World.cell?_setCell_other _ _ _ _ (by simp)).trans ((World.cell?_setCell_other _ _ _ _ (by simp)).trans (r3))))
      clear rf
      go_wp2
      refine bodyPost_ret (v := .agg #[.int .i64 room, .int .i64 life, .int .i64 now, .slice ob k cap]) (by simp [results, Try.results22, p0, p1, p2, p3, go_sem]; try rfl) rfl ?_
      have h4 := cp_fin (set_grown _ ⟨w.heap.size + 1, 3, none⟩ (.slice ob k cap)) (cp_fin (set_grown _ ⟨w.heap.size + 1, 2, none⟩ (.int .i64 now)) (cp_fin (set_grown _ ⟨w.heap.size + 1, 1, none⟩ (.int .i64 life)) (cp_fin (set_grown _ ⟨w.heap.size + 1, 0, none⟩ (.int .i64 room)) ⟨HW.out.junk, HW.out.own, HD.out, hM0⟩)))
      exact ⟨ob, cap, R, M, by rw [HL.out], h4.1, by rw [HL.out]; exact h4.2.1, by rw [HL.out]; exact h4.2.2.1, fun h => by rw [HL.out]; exact HNB.out h⟩
end Go.Proofs.Ytgjppmkadmfibaa
