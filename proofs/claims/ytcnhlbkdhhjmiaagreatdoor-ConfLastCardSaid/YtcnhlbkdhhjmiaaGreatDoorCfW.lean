/- Reading a configuration: what the loop over the lines keeps; who reads a line. -/
import Derived.Test.YtcnhlbkdhhjmiaaGreatDoorCfV
set_option linter.unusedVariables false
set_option maxRecDepth 100000
set_option linter.unusedSimpArgs false
namespace Go.Proofs.YtcnhlbkdhhjmiaaGreatDoor
open Go.RowKit
variable {L L' : Nat → Prop} {w w' w'' : World}
theorem setCell_self {w : World} {b i : Nat} {v : Value} (h : w.cell? ⟨b, i, none⟩ = some v) : w.setCell ⟨b, i, none⟩ v = w := by
  have hh : (w.setCell ⟨b, i, none⟩ v).heap = w.heap := by
    simp only [World.setCell]
    apply Array.ext_getElem?
    intro j
    simp only [Array.getElem?_modify]
    by_cases hj : b = j
    · subst hj
      simp only [if_true]
      unfold World.cell? at h
      cases hw : w.heap[b]? with
      | none => rfl
      | some o =>
        rw [hw] at h
        cases o <;> simp at h ⊢
        rename_i c e f
        apply Array.ext_getElem?
        intro k
        rw [Array.getElem?_setIfInBounds]
        by_cases hk : i = k
        · subst hk
          obtain ⟨h1, h2⟩ := Array.getElem?_eq_some_iff.1 h
          simp [h1, h2]
        · simp [hk]
    · simp [hj]
  cases w
  simp only [World.setCell] at hh ⊢
  congr 1
/-- What the loop keeps: a is the result's block, c the configuration's, g the lines'. -/
structure PSt (w : World) (a c g B R : Nat) (LN : List ByteArray) (i : Nat) (f : Cf) : Prop where
  env : Env w
  res : Box w a 27 (#[.slice none 0 0, .slice none 0 0, .int .i64 0, .int .u32 0, .int .i64 0, .int .i64 0, .slice none 0 0, .int .i64 0, .int .i64 0, .int .i64 0]).toList
  cf : CfAt w c B R f
  parts : PartsAt w g LN
  got : parseL 0 (LN.take i) cf0 = some f
  len : f.routes.length ≤ i ∧ f.rules.length ≤ i ∧ f.fwds.length ≤ i
  hR : B ≤ R ∧ R ≤ w.heap.size
  few : i ≤ 512
theorem parse_next {LN : List ByteArray} {i : Nat} {x : ByteArray} {f : Cf} (h : parseL 0 (LN.take i) cf0 = some f) (hx : LN[i]? = some x) : parseL 0 (LN.take (i + 1)) cf0 = stepW i x f := by
  have hi := (List.getElem?_eq_some_iff.1 hx).1
  rw [List.take_add_one, hx, parseL_app, h, Option.bind_some, List.length_take, Nat.zero_add, Nat.min_eq_left (by omega)]
  show (stepW i x f).bind (parseL (i + 1) []) = _
  cases stepW i x f <;> rfl
theorem parse_stop {LN : List ByteArray} {i : Nat} {x : ByteArray} {f : Cf} (h : parseL 0 (LN.take i) cf0 = some f) (hx : LN[i]? = some x) (hs : stepW i x f = none) : parseL 0 LN cf0 = none := by
  have h1 := parse_next h hx
  rw [hs] at h1
  rw [← List.take_append_drop (i + 1) LN, parseL_app, h1]
  rfl
theorem pst_start (hE : Env w) (LN : List ByteArray) (W : World) (hW : W = ((w.alloc (.cells #[.slice none 0 0, .slice none 0 0, .int .i64 0, .int .u32 0, .int .i64 0, .int .i64 0, .slice none 0 0, .int .i64 0, .int .i64 0, .int .i64 0] 27)).alloc (.cells #[.slice none 0 0, .slice none 0 0, .int .i64 0, .int .u32 0, .int .i64 1024, .int .i64 65535, .slice none 0 0, .int .i64 1000, .int .i64 100, .int .i64 10] 27)).alloc (.cells (LN.map Value.string).toArray 9)) :
    PSt W w.heap.size (w.heap.size + 1) (w.heap.size + 1 + 1) (w.heap.size + 3) (w.heap.size + 3) LN 0 cf0 := by
  have h8 := hE.size
  have hj1 : Junk w (w.alloc (.cells #[.slice none 0 0, .slice none 0 0, .int .i64 0, .int .u32 0, .int .i64 0, .int .i64 0, .slice none 0 0, .int .i64 0, .int .i64 0, .int .i64 0] 27)) := (Junk.refl w).alloc _
  have b1 := box_new w #[.slice none 0 0, .slice none 0 0, .int .i64 0, .int .u32 0, .int .i64 0, .int .i64 0, .slice none 0 0, .int .i64 0, .int .i64 0, .int .i64 0] 27
  have b2 := box_new (w.alloc (.cells #[.slice none 0 0, .slice none 0 0, .int .i64 0, .int .u32 0, .int .i64 0, .int .i64 0, .slice none 0 0, .int .i64 0, .int .i64 0, .int .i64 0] 27)) #[.slice none 0 0, .slice none 0 0, .int .i64 0, .int .u32 0, .int .i64 1024, .int .i64 65535, .slice none 0 0, .int .i64 1000, .int .i64 100, .int .i64 10] 27
  have p3 := parts_alloc ((w.alloc (.cells #[.slice none 0 0, .slice none 0 0, .int .i64 0, .int .u32 0, .int .i64 0, .int .i64 0, .slice none 0 0, .int .i64 0, .int .i64 0, .int .i64 0] 27)).alloc (.cells #[.slice none 0 0, .slice none 0 0, .int .i64 0, .int .u32 0, .int .i64 1024, .int .i64 65535, .slice none 0 0, .int .i64 1000, .int .i64 100, .int .i64 10] 27)) LN 9
  rw [show (w.alloc (.cells #[.slice none 0 0, .slice none 0 0, .int .i64 0, .int .u32 0, .int .i64 0, .int .i64 0, .slice none 0 0, .int .i64 0, .int .i64 0, .int .i64 0] 27)).heap.size = w.heap.size + 1 by simp] at b2
  rw [show ((w.alloc (.cells #[.slice none 0 0, .slice none 0 0, .int .i64 0, .int .u32 0, .int .i64 0, .int .i64 0, .slice none 0 0, .int .i64 0, .int .i64 0, .int .i64 0] 27)).alloc (.cells #[.slice none 0 0, .slice none 0 0, .int .i64 0, .int .u32 0, .int .i64 1024, .int .i64 65535, .slice none 0 0, .int .i64 1000, .int .i64 100, .int .i64 10] 27)).heap.size = w.heap.size + 1 + 1 by simp] at p3
  subst hW
  refine ⟨hE.junk (((Junk.refl w).alloc _).alloc _ |>.alloc _), b1.on (((Junk.refl _).alloc _).alloc _), ⟨by omega, by omega, none, 0, none, 0, none, 0, b2.on ((Junk.refl _).alloc _), ⟨Own.nil _ _ _ _, Own.nil _ _ _ _, Own.nil _ _ _ _, fun g h => (by cases h), fun g h => (by cases h), fun g h => (by cases h)⟩⟩, p3, rfl, ⟨Nat.le_refl _, Nat.le_refl _, Nat.le_refl _⟩, ⟨Nat.le_refl _, by simp⟩, by omega⟩
theorem own_rec {α : Type} {cells : α → List Value} {B sz cap n : Nat} {e : TypeId} {oa : Option Addr} {M : List α} (h0 : 0 < sz) (hsz : ∀ x, (cells x).length = sz) (h : Own B w e sz oa cap n (M.flatMap cells)) {i : Nat} {x : α} (hx : M[i]? = some x) :
    ∃ g, oa = some ⟨g, 0, none⟩ ∧ g < w.heap.size ∧ ∀ j v, (cells x)[j]? = some v → w.cell? ⟨g, 0 + i * sz + j, none⟩ = some v := by
  have hfl : M.flatMap cells = (M.map cells).flatten := by rw [List.flatMap_def]
  have hall : ∀ r ∈ M.map cells, r.length = sz := fun r hr => by
    obtain ⟨y, _, rfl⟩ := List.mem_map.1 hr
    exact hsz y
  have hr : (M.map cells)[i]? = some (cells x) := by rw [List.getElem?_map, hx]; rfl
  have hget : ∀ j v, (cells x)[j]? = some v → (M.flatMap cells)[i * sz + j]? = some v := fun j v hv => by
    have hj : j < sz := by have := (List.getElem?_eq_some_iff.1 hv).1; rw [hsz] at this; exact this
    rw [hfl, flat_get hall hr hj]
    exact hv
  have h00 : (cells x)[0]? = some ((cells x)[0]'(by rw [hsz]; exact h0)) := List.getElem?_eq_getElem _
  obtain ⟨g, hg, _, hlt, _, _⟩ := h.cells _ _ (hget 0 _ h00)
  refine ⟨g, hg, hlt, fun j v hv => ?_⟩
  obtain ⟨g', hg', _, _, hc, _⟩ := h.cells _ _ (hget j v hv)
  rw [hg] at hg'
  cases hg'
  rw [Nat.zero_add]
  exact hc
theorem ros_of {B cap n : Nat} {oa : Option Addr} {M : List Ro} (h : Own B w 49 4 oa cap n (rosL M)) : RosAt w oa M := fun i x hx => by
  obtain ⟨g, hg, hlt, hc⟩ := own_rec (cells := Ro.cells) (by decide) (fun _ => rfl) h hx
  exact ⟨g, 0, hg, hlt, hc 0 _ rfl, hc 1 _ rfl, hc 2 _ rfl, hc 3 _ rfl⟩
theorem rus_of {B cap n : Nat} {oa : Option Addr} {M : List Ru} (h : Own B w 54 10 oa cap n (rusL M)) : RusAt w oa M := fun i x hx => by
  obtain ⟨g, hg, hlt, hc⟩ := own_rec (cells := Ru.cells) (by decide) (fun _ => rfl) h hx
  exact ⟨g, 0, hg, hlt, hc 0 _ rfl, hc 1 _ rfl, hc 2 _ rfl, hc 3 _ rfl, hc 4 _ rfl, hc 5 _ rfl, hc 6 _ rfl, hc 7 _ rfl, hc 8 _ rfl, hc 9 _ rfl⟩
theorem fos_of {B cap n : Nat} {oa : Option Addr} {M : List Fo} (h : Own B w 40 5 oa cap n (fosL M)) : FosAt w oa M := fun i x hx => by
  obtain ⟨g, hg, hlt, hc⟩ := own_rec (cells := Fo.cells) (by decide) (fun _ => rfl) h hx
  exact ⟨g, 0, hg, hlt, hc 0 _ rfl, hc 1 _ rfl, hc 2 _ rfl, hc 3 _ rfl, hc 4 _ rfl⟩
theorem cfin_of {W : World} {B R : Nat} {f : Cf} {o0 o1 o6 : Option Addr} {c0 c1 c6 : Nat} (h : CfOwn w B R f o0 c0 o1 c1 o6 c6) (hj : Junk w W) (hl : f.routes.length ≤ 1000000 ∧ f.rules.length ≤ 1000000 ∧ f.fwds.length ≤ 1000000) :
    CfIn W ⟨f.routes, f.rules, f.outside, f.pub, f.lo, f.hi, f.fwds, f.tcp, f.other, f.budget⟩ o0 c0 o1 c1 o6 c6 :=
  ⟨(ros_of h.r0).on hj, (rus_of h.r1).on hj, (fos_of h.r6).on hj, ⟨hl.1, h.r0.capLe.1⟩, ⟨hl.2.1, h.r1.capLe.1⟩, ⟨hl.2.2, h.r6.capLe.1⟩⟩
/-- A line that says nothing. -/
theorem PSt.skip {a c g B R i : Nat} {LN : List ByteArray} {f : Cf} {x : ByteArray} (h : PSt w a c g B R LN i f) (hj : Junk w w') (hx : LN[i]? = some x) (hs : stepW i x f = some f) (hi : i < 512) : PSt w' a c g B R LN (i + 1) f :=
  ⟨h.env.junk hj, h.res.on hj, h.cf.on hj h.hR.1, h.parts.tch (L := fun _ => False) (Tch.of_junk hj) (fun e => e), by rw [parse_next h.got hx, hs], by have := h.len; omega, ⟨h.hR.1, Nat.le_trans h.hR.2 hj.size⟩, by omega⟩
/-- What Parse answers: a right configuration; or none, and an error. -/
def POk (s : ByteArray) (e : Ending) (w' : World) : Prop := ∃ f, readsT s = some f ∧ rightC f ∧ ∃ o0 c0 o1 c1 o6 c6, e = .returned (.tuple #[.agg (cfVals f o0 c0 o1 c1 o6 c6).toArray, .int .i64 0, .int .i64 0]) ∧ CfIn w' f o0 c0 o1 c1 o6 c6
def PBad (s : ByteArray) (e : Ending) : Prop := (∀ f, readsT s = some f → ¬ rightC f) ∧ ∃ k t : Int, k ≠ 0 ∧ e = .returned (.tuple #[.agg #[.slice none 0 0, .slice none 0 0, .int .i64 0, .int .u32 0, .int .i64 0, .int .i64 0, .slice none 0 0, .int .i64 0, .int .i64 0, .int .i64 0], .int .i64 k, .int .i64 t])
theorem PBad.of {s : ByteArray} {e : Ending} (h : ∀ f, readsT s = some f → ¬ rightC f) (k t : Int) (hk : k ≠ 0) (he : e = .returned (.tuple #[.agg #[.slice none 0 0, .slice none 0 0, .int .i64 0, .int .u32 0, .int .i64 0, .int .i64 0, .slice none 0 0, .int .i64 0, .int .i64 0, .int .i64 0], .int .i64 k, .int .i64 t])) : PBad s e := by
  unfold PBad
  exact ⟨h, k, t, hk, he⟩
theorem PBad.none {s : ByteArray} {LN : List ByteArray} {e : Ending} (hl : linesB s = LN) (h : parseL 0 LN cf0 = .none) (k t : Int) (hk : k ≠ 0) (he : e = .returned (.tuple #[.agg #[.slice none 0 0, .slice none 0 0, .int .i64 0, .int .u32 0, .int .i64 0, .int .i64 0, .slice none 0 0, .int .i64 0, .int .i64 0, .int .i64 0], .int .i64 k, .int .i64 t])) : PBad s e :=
  PBad.of (fun f hf => by unfold readsT at hf; rw [hl, h] at hf; cases hf) k t hk he
theorem POk.of {s : ByteArray} {e : Ending} {w' : World} {f : Cf} (h1 : readsT s = some f) (h2 : rightC f) {o0 o1 o6 : Option Addr} {c0 c1 c6 : Nat} (he : e = .returned (.tuple #[.agg (cfVals f o0 c0 o1 c1 o6 c6).toArray, .int .i64 0, .int .i64 0])) (hc : CfIn w' f o0 c0 o1 c1 o6 c6) : POk s e w' := by
  unfold POk
  exact ⟨f, h1, h2, o0, c0, o1, c1, o6, c6, he, hc⟩
theorem line_none {f : Cf} {k : W8} {l : List W8} (h : readerN k = none) : lineW f k l = none := by
  unfold readerN at h
  unfold lineW
  repeat (split at h; · cases h)
  simp_all
/-- Who reads a line is one of the methods. -/
theorem read_enters {k : W8} {g : Nat} (h : readerN k = some g) : ∀ args w, (callFunc g args).run Tryz.prog w = .ok (.enter g args) w := by
  unfold readerN at h
  by_cases h1 : k = wRoute
  · rw [if_pos h1] at h; cases h; exact enters_of Tryz.func35 (by kernel_rfl) rfl
  rw [if_neg h1] at h
  by_cases h2 : k = wRule
  · rw [if_pos h2] at h; cases h; exact enters_of Tryz.func36 (by kernel_rfl) rfl
  rw [if_neg h2] at h
  by_cases h3 : k = wOutside
  · rw [if_pos h3] at h; cases h; exact enters_of Tryz.func37 (by kernel_rfl) rfl
  rw [if_neg h3] at h
  by_cases h4 : k = wPublic
  · rw [if_pos h4] at h; cases h; exact enters_of Tryz.func38 (by kernel_rfl) rfl
  rw [if_neg h4] at h
  by_cases h5 : k = wForward
  · rw [if_pos h5] at h; cases h; exact enters_of Tryz.func39 (by kernel_rfl) rfl
  rw [if_neg h5] at h
  by_cases h6 : k = wLife
  · rw [if_pos h6] at h; cases h; exact enters_of Tryz.func40 (by kernel_rfl) rfl
  rw [if_neg h6] at h
  by_cases h7 : k = wBudget
  · rw [if_pos h7] at h; cases h; exact enters_of Tryz.func41 (by kernel_rfl) rfl
  rw [if_neg h7] at h
  cases h
theorem read_m {k : W8} {g : Nat} (h : readerN k = some g) (r c B R : Nat) (ws : List ByteArray) (f : Cf) (hp : LinePre w r c B R ws f) (hl : f.routes.length ≤ 1000 ∧ f.rules.length ≤ 1000 ∧ f.fwds.length ≤ 1000) :
    Calls Tryz.prog g #[.pointer (some ⟨r, 0, none⟩), .pointer (some ⟨c, 0, none⟩)] w fun e w' => e = .returned (.tuple #[]) ∧ Tch (LC c B) w w' ∧ LineR (lineW f k (w8s ws)) r c B R w' := by
  unfold readerN at h
  by_cases h1 : k = wRoute
  · rw [if_pos h1] at h; cases h; subst h1; exact route_m r c B R ws f hp hl.1
  rw [if_neg h1] at h
  by_cases h2 : k = wRule
  · rw [if_pos h2] at h; cases h; subst h2; exact rule_m r c B R ws f hp hl.2.1
  rw [if_neg h2] at h
  by_cases h3 : k = wOutside
  · rw [if_pos h3] at h; cases h; subst h3; exact outside_m r c B R ws f hp
  rw [if_neg h3] at h
  by_cases h4 : k = wPublic
  · rw [if_pos h4] at h; cases h; subst h4; exact public_m r c B R ws f hp
  rw [if_neg h4] at h
  by_cases h5 : k = wForward
  · rw [if_pos h5] at h; cases h; subst h5; exact forward_m r c B R ws f hp hl.2.2
  rw [if_neg h5] at h
  by_cases h6 : k = wLife
  · rw [if_pos h6] at h; cases h; subst h6; exact life_m r c B R ws f hp
  rw [if_neg h6] at h
  by_cases h7 : k = wBudget
  · rw [if_pos h7] at h; cases h; subst h7; exact budget_m r c B R ws f hp
  rw [if_neg h7] at h
  cases h
/-- A reader of the words behind the first one. -/
theorem row_new {V : World} {A m kb : Nat} {l : List ByteArray} {k : ByteArray} (hO : Own kb V 9 1 (some ⟨A, 0, none⟩) (m + 1) (m + 1) ((k :: l).map Value.string)) (hm : l.length = m) (h8 : 8 ≤ kb) :
    RowAt (V.alloc (.cells #[.slice (if m = 0 then some ⟨A, 0, none⟩ else some ⟨A, 1, none⟩) m m, .bool false] 66)) kb V.heap.size l false := by
  have hb := box_new V #[.slice (if m = 0 then some ⟨A, 0, none⟩ else some ⟨A, 1, none⟩) m m, .bool false] 66
  obtain ⟨g0, hg0, hk0, hl0, _, _⟩ := hO.cells 0 (.string k) rfl
  cases hg0
  refine ⟨by simp, by omega, by omega, ⟨_, _, by rw [hm]; exact hb.cell (j := 0) rfl, by omega, fun i x hi => ?_⟩, hb.cell (j := 1) rfl, hb.frozen 0, hb.frozen 1⟩
  have hlt := (List.getElem?_eq_some_iff.1 hi).1
  obtain ⟨g, hg, hk, hl, hc, _⟩ := hO.cells (i + 1) (.string x) (by rw [List.map_cons, List.getElem?_cons_succ, List.getElem?_map, hi]; rfl)
  cases hg
  refine ⟨A, 1, by rw [if_neg (by omega)], ⟨hl, hk⟩, ?_⟩
  rw [show 1 + i = i + 1 by omega]
  exact (Tch.of_junk (L := fun _ => False) ((Junk.refl V).alloc _)).cell hc (fun e => e)
theorem CfAt.wide {c B R R' : Nat} {f : Cf} (h : CfAt w c B R f) (hR : R ≤ R') : CfAt w c B R' f := by
  obtain ⟨o0, c0, o1, c1, o6, c6, hb, ho⟩ := h.box
  exact ⟨h.ge, h.lt, o0, c0, o1, c1, o6, c6, hb, ho.r0, ho.r1, ho.r6, fun g e => Nat.lt_of_lt_of_le (ho.b0 g e) hR, fun g e => Nat.lt_of_lt_of_le (ho.b1 g e) hR, fun g e => Nat.lt_of_lt_of_le (ho.b6 g e) hR⟩
theorem box_tch {a : Nat} {e : TypeId} {cs : List Value} (h : Box w a e cs) (t : Tch L w w') (hn : ¬ L a) : Box w' a e cs := (t.block a h.lt hn).trans h
/-- A line that was read. -/
theorem PSt.line {a R i : Nat} {LN : List ByteArray} {f f' : Cf} {x : ByteArray} {R' : Nat} (h : PSt w a (a + 1) (a + 1 + 1) (a + 3) R LN i f) (hj : Junk w w') (t : Tch (LC (a + 1) (a + 3)) w' w'') (hx : LN[i]? = some x) (hs : stepW i x f = some f') (hi : i < 512) (h8 : 8 ≤ a)
    (hcf : CfAt w'' (a + 1) (a + 3) R' f') (hR : R ≤ R') (hRs : R' ≤ w''.heap.size) (hl : f'.routes.length ≤ i + 1 ∧ f'.rules.length ≤ i + 1 ∧ f'.fwds.length ≤ i + 1) : PSt w'' a (a + 1) (a + 1 + 1) (a + 3) R' LN (i + 1) f' :=
  ⟨(h.env.junk hj).on t (fun k hk => by rcases hk with hk | hk <;> omega), box_tch (h.res.on hj) t (fun e => by rcases e with e | e <;> omega), hcf,
    (h.parts.tch (L := fun _ => False) (Tch.of_junk hj) (fun e => e)).tch t (fun e => by rcases e with e | e <;> omega), by rw [parse_next h.got hx, hs], hl, ⟨Nat.le_trans h.hR.1 hR, hRs⟩, by omega⟩
theorem line_len {f f' : Cf} {k : W8} {l : List W8} {n : Nat} (h : lineW f k l = some f') (hl : f.routes.length ≤ n ∧ f.rules.length ≤ n ∧ f.fwds.length ≤ n) : f'.routes.length ≤ n + 1 ∧ f'.rules.length ≤ n + 1 ∧ f'.fwds.length ≤ n + 1 := by
  have hw : f.routes.length ≤ n + 1 ∧ f.rules.length ≤ n + 1 ∧ f.fwds.length ≤ n + 1 := by omega
  unfold lineW at h
  repeat' split at h
  all_goals first
    | (simp only [Option.map_eq_some_iff] at h; obtain ⟨_, _, rfl⟩ := h; simp only [List.length_append, List.length_singleton]; omega)
    | (cases h; done)
    | (cases h; exact hw)
/-- No word is longer than its line. -/
theorem fields_le (p : Nat → Bool) (s : ByteArray) : ∀ x ∈ Lib.goFieldsP p s, x.size ≤ s.size := by
  intro x hx
  unfold Lib.goFieldsP at hx
  obtain ⟨y, _, rfl⟩ := List.mem_map.1 hx
  rw [ByteArray.size_extract]
  omega
/-- What may have changed since the beginning lies behind it. -/
theorem junk_line {a : Nat} {w0 : World} (h0 : w0.heap.size = a) (hj : Junk w0 w) (t : Tch (LC (a + 1) (a + 3)) w w') : Junk w0 w' :=
  Junk.of_below (((Tch.of_junk (L := fun k => a ≤ k) hj).trans (t.mono fun k hk => by rcases hk with hk | hk <;> omega)).below (Nat.le_of_eq rfl) (fun k hk => by omega))
theorem CfAt.top {c B R : Nat} {f : Cf} (h : CfAt w c B R f) : CfAt w c B w.heap.size f := by
  obtain ⟨o0, c0, o1, c1, o6, c6, hb, ho⟩ := h.box
  exact ⟨h.ge, h.lt, o0, c0, o1, c1, o6, c6, hb, ho.r0, ho.r1, ho.r6, own_lt ho.r0, own_lt ho.r1, own_lt ho.r6⟩
end Go.Proofs.YtcnhlbkdhhjmiaaGreatDoor
