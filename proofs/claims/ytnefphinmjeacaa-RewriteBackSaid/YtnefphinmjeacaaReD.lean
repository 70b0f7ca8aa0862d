/- rewrite's turn of a side (under way). -/
import Derived.Test.YtnefphinmjeacaaMix2
import Derived.Test.YtnefphinmjeacaaInP
import Derived.Deep.DeepCutAuto
import Derived.Test.YtnefphinmjeacaaIcmpWhole
import Derived.Deep.CutBlock
import Derived.Test.YtnefphinmjeacaaTupE
set_option linter.unusedVariables false
set_option maxRecDepth 100000
namespace Go
section
variable {P : Program} {ops : Array Oper} {md : Region.Mode} {D : World → Prop} {last : Nat}
/-- Does operation 'k' wait for 'i', by way of others? -/
def Region.downB (md : Region.Mode) (ops : Array Oper) : Nat → Nat → Nat → Bool
  | 0, _, _ => false
  | f + 1, i, k => match ops[k]? with
    | none => false
    | some o => o.after.any fun e => Region.binds md e && (e.on == i || Region.downB md ops f i e.on)
def Region.lastT (md : Region.Mode) (ops : Array Oper) (last : Nat) : Bool := (List.range ops.size).all fun i => i == last || Region.downB md ops ops.size i last
theorem Region.downB_listed {listed : Array Bool} {i : Nat} (hc : Region.Closed md ops listed) : ∀ (f k : Nat), (∀ o, ops[k]? = some o → ∀ e ∈ o.after, Region.binds md e = true → listed.getD e.on false = true) → Region.downB md ops f i k = true → listed.getD i false = true
  | 0, _, _, h => by cases h
  | f + 1, k, hk, h => by
    unfold Region.downB at h
    cases hm : ops[k]? with
    | none => simp [hm] at h
    | some o =>
      simp only [hm, Array.any_eq_true', Bool.and_eq_true, Bool.or_eq_true, beq_iff_eq] at h
      obtain ⟨e, he, hb, h1 | h1⟩ := h
      · rw [← h1]; exact hk o hm e he hb
      · exact Region.downB_listed hc f e.on (fun o' ho' e' he' hb' => hc _ o' ho' (hk o hm e he hb) e' he' hb') h1
theorem Region.lastT_spec (h : Region.lastT md ops last = true) {listed : Array Bool} {i : Nat} (hc : Region.Closed md ops listed) (hr : last ∈ Region.ready md ops listed) (hi : i ≠ last) (his : i < ops.size) : listed.getD i false = true := by
  unfold Region.lastT at h
  obtain ⟨_, o, ho, hall⟩ := mem_ready.1 hr
  simp only [List.all_eq_true, List.mem_range, Bool.or_eq_true, beq_iff_eq] at h
  rcases h i his with h1 | h1
  · exact absurd h1 hi
  · refine Region.downB_listed hc _ last (fun o' ho' e he hb => ?_) h1
    rw [ho] at ho'
    cases ho'
    exact hall e he hb
theorem wpAnyT_first (hcl : ∀ w w', D w → Junk w w' → D w') {Q : Act → World → Prop} {i : Nat} {oi : Oper} {v : Value} (hi : ops[i]? = some oi) (hsel : ∀ (j : Nat) (o : Oper) cs b, ops[j]? = some o → o.op ≠ .select cs b) (hlast : Region.lastT md ops last = true) (hil : i ≠ last) :
    ∀ (f : Nat) (listed : Array Bool) (a : Act) (w : World),
      (∀ j oj, ops[j]? = some oj → j ≠ i → listed.getD j true = false → (∀ e ∈ oj.after, Region.binds md e = true → e.on ≠ i) → oi.apart ops oj = true) →
      i ∈ Region.ready md ops listed → Region.Closed md ops listed → YieldsJ P ops D oi v a → D w →
      wpAnyL P md ops D last Q f (listed.setIfInBounds i true) (a.put oi.dst v) w → wpAnyL P md ops D last Q (f + 1) listed a w := by
  intro f
  induction f with
  | zero =>
    intro listed a w _ hr hcs hy hD H
    refine ⟨fun h => (by rw [h] at hr; cases hr), fun j hj w' hw' => ?_⟩
    by_cases hji : j = i
    · subst hji; exact hy.wpE hi (hcl _ _ hD hw') fun w'' hw'' => ⟨.inr (hcl _ _ (hcl _ _ hD hw') hw''), wpAnyL_junk (hw'.trans hw'') H⟩
    · have := ready_mono hj hji
      rw [H.1] at this
      cases this
  | succ f ih =>
    intro listed a w hfree hr hcs hy hD H
    refine ⟨fun h => (by rw [h] at hr; cases hr), fun j hj w' hw' => ?_⟩
    by_cases hji : j = i
    · subst hji; exact hy.wpE hi (hcl _ _ hD hw') fun w'' hw'' => ⟨.inr (hcl _ _ (hcl _ _ hD hw') hw''), wpAnyL_junk (hw'.trans hw'') H⟩
    · have hjl : j ≠ last := fun h => by
        subst h
        have h0 := (mem_ready.1 hr).1
        have h1 := Region.lastT_spec hlast hcs hj hil (Array.getElem?_eq_some_iff.1 hi).1
        rcases Nat.lt_or_ge i listed.size with h' | h'
        · simp [h'] at h0 h1; rw [h0] at h1; cases h1
        · simp [Array.getElem?_eq_none h'] at h1
      have h1 := H.2 j (ready_mono hj hji) w' hw'
      obtain ⟨hjun, oj, hoj, hall⟩ := mem_ready.1 hj
      have hnot : ∀ e ∈ oj.after, Region.binds md e = true → e.on ≠ i := fun e he hb heq => by
        have h1 := hall e he hb
        have h0 := (mem_ready.1 hr).1
        rw [heq] at h1
        rcases Nat.lt_or_ge i listed.size with h' | h'
        · simp [h'] at h0 h1; rw [h0] at h1; cases h1
        · simp [Array.getElem?_eq_none h'] at h1
      have h2 := wpE_put hoj (hfree j oj hoj hji hjun hnot) (fun cs b => hsel i oi cs b hi) (fun cs b => hsel j oj cs b hoj) hy h1
      have hfree' : ∀ k ok, ops[k]? = some ok → k ≠ i → (listed.setIfInBounds j true).getD k true = false →
          (∀ e ∈ ok.after, Region.binds md e = true → e.on ≠ i) → oi.apart ops ok = true := fun k ok hk hki hun hno => by
        refine hfree k ok hk hki ?_ hno
        by_cases hjk : j = k
        · subst hjk; exact hjun
        · rw [getD_set_ne true hjk] at hun; exact hun
      refine wpE_mono (fun a' w'' h3 => ⟨h3.2.1, ih (listed.setIfInBounds j true) a' w'' hfree' (ready_mono hr (Ne.symm hji)) (hcs.set hj) h3.1 (h3.2.1.resolve_left hjl) ?_⟩) h2
      rw [Array.setIfInBounds_comm _ _ hji]
      exact h3.2.2
theorem wpAnyT_mix (hcl : ∀ w w', D w → Junk w w' → D w') {Q : Act → World → Prop} (hsel : Region.noSelect ops = true) (hlast : Region.lastT md ops last = true) : ∀ (π : List (Nat × Bool)) (listed : Array Bool) (a : Act) (w : World),
    Region.mixB md ops π listed = true → Region.endsB last π = true → Region.Closed md ops listed → (π = [] ∨ D w) → wpMixL P ops D last Q π a w → wpAnyL P md ops D last Q π.length listed a w
  | [], _, _, _, hB, _, _, _, h => ⟨by simpa [Region.mixB] using hB, h⟩
  | (k, true) :: r, listed, a, w, hB, hE, hcs, hD, h => by
    have hD := hD.resolve_left (by simp)
    simp only [Region.mixB, if_true, Bool.and_eq_true] at hB
    obtain ⟨⟨hr, hf⟩, hB'⟩ := hB
    have hkl : k ≠ last ∧ Region.endsB last r = true := by
      cases r with
      | nil => simpa [Region.endsB] using hE
      | cons x r => simpa [Region.endsB] using hE
    unfold wpMixL at h
    split at h
    · exact h.elim
    · rename_i o ho
      have hk : ∃ v, YieldsJ P ops D o v a ∧ wpMixL P ops D last Q r (a.put o.dst v) w := by
        split at h
        · rename_i hw; obtain ⟨v, h1, h2⟩ := h; exact ⟨v, .inl ⟨hw, h1⟩, h2⟩
        · rename_i hw; exact ⟨undef, .inr ⟨by simpa using hw, rfl⟩, h⟩
      obtain ⟨v, hy, h2⟩ := hk
      exact wpAnyT_first hcl ho (Region.noSelect_spec hsel) hlast hkl.1 r.length listed a w (Region.free_spec ho hf) (by simpa using hr) hcs hy hD (wpAnyT_mix hcl hsel hlast r _ _ w hB' hkl.2 (hcs.set (by simpa using hr)) (.inr hD) h2)
  | (k, false) :: r, listed, a, w, hB, hE, hcs, hD, h => by
    simp only [Region.mixB, Bool.false_eq_true, if_false, Bool.and_eq_true, decide_eq_true_eq] at hB
    obtain ⟨hr, hB'⟩ := hB
    have hE' : Region.endsB last r = true ∧ (r = [] ∨ k ≠ last) := by
      cases r with
      | nil => simp [Region.endsB]
      | cons x r => simp only [Region.endsB, Bool.and_eq_true, bne_iff_ne] at hE; exact ⟨hE.2, .inr hE.1⟩
    unfold wpMixL at h
    refine ⟨fun h0 => (by rw [hr] at h0; cases h0), fun i hi w' hw' => ?_⟩
    rw [hr] at hi
    obtain rfl : i = k := by simpa using hi
    exact wpE_mono (fun a' w'' h' => ⟨h'.1, wpAnyT_mix hcl hsel hlast r _ a' w'' hB' hE'.1 (hcs.set (by rw [hr]; simp)) (hE'.2.elim .inl fun hne => .inr (h'.1.resolve_left hne)) h'.2⟩) (h w' hw')
theorem wp_region_mixn {id : Nat} {Q : Exit → Act → World → Prop} {a : Act} {w1 : World} {l : List Oper} (w : World) (last : Nat) (π : List (Nat × Bool)) (hm : P.follows .mixedOrders = true)
    (hB : (Region.noSelect l.toArray && decide (π.length = l.length) && Region.mixB .any l.toArray π (Array.replicate l.length false) && Region.lastT .any l.toArray last && Region.endsB last π) = true) (hj : Junk w w1)
    (h : wpMixL P l.toArray (fun w' => ∃ x : Jk, w' = w.junk x.os x.d) last (fun a' w' => Q .normal a' w') π a w1.drew) : (Code.region id l.toArray true).wp P Q a w1 := by
  simp only [Bool.and_eq_true, decide_eq_true_eq] at hB
  refine wp_region_any hm (wpAny_of_L (D := fun w' => ∃ x : Jk, w' = w.junk x.os x.d) (last := last) (Q := fun a' w' => Q .normal a' w') (fun _ _ h => h) _ _ _ _ ?_)
  have := wpAnyT_mix (P := P) (md := .any) (D := fun w' => ∃ x : Jk, w' = w.junk x.os x.d) (last := last) (fun _ _ h1 h2 => InJunk.on (w := w) h1 h2) hB.1.1.1.1 hB.1.2 π _ a w1.drew hB.1.1.2 hB.2 (Region.Closed.none _) (.inr hj.drew.pair) h
  rw [hB.1.1.1.2] at this
  simpa using this
end
end Go
set_option linter.unusedVariables false
set_option maxRecDepth 100000
set_option linter.unusedSimpArgs false
namespace Go.Proofs.Ytnefphinmjeacaa
open Go.RowKit
/-- The block of a body: its bytes, where its sum stands, has it none. -/
def bodyL (bb g l cap : Nat) (sum : Int) (plain : Bool) : List (Nat × Nat × Value) := [(bb, 0, .slice (some ⟨g, 0, none⟩) l cap), (bb, 1, .int .i64 sum), (bb, 2, .bool plain)]
/-- A body in memory of the call's own: its block and its bytes; 'L': what else must stay. -/
structure BSt (L : List (Nat × Nat × Value)) (W0 V : World) (bb g l cap : Nat) (sum : Int) (plain : Bool) (xs : Nat → Int) : Prop where
  st : St (CsH (bodyL bb g l cap sum plain ++ L)) W0 V g l cap xs
  ne : ∀ q ∈ bodyL bb g l cap sum plain ++ L, q.1 ≠ g
section
variable {L : List (Nat × Nat × Value)} {W0 V V' : World} {bb g l cap : Nat} {sum : Int} {plain : Bool} {xs : Nat → Int}
theorem BSt.keeps (h : BSt L W0 V bb g l cap sum plain xs) : Keeps g (CsH (bodyL bb g l cap sum plain ++ L)) := CsH.keeps h.ne
theorem BSt.on (h : BSt L W0 V bb g l cap sum plain xs) (hj : Junk V V') : BSt L W0 V' bb g l cap sum plain xs := ⟨h.st.on h.keeps hj, h.ne⟩
theorem BSt.w2 (h : BSt L W0 V bb g l cap sum plain xs) (i : Nat) (n : Int) (hn : 0 ≤ n ∧ n ≤ 65535) :
    BSt L W0 ((V.setCell ⟨g, i, none⟩ (.int .u8 (n / 256))).setCell ⟨g, i + 1, none⟩ (.int .u8 (n % 256))) bb g l cap sum plain (w2 xs i n) :=
  ⟨(h.st.set h.keeps i (n / 256) (by omega)).set h.keeps (i + 1) (n % 256) (by omega), h.ne⟩
theorem BSt.c0 (h : BSt L W0 V bb g l cap sum plain xs) : bb < V.heap.size ∧ V.cell? ⟨bb, 0, none⟩ = some (.slice (some ⟨g, 0, none⟩) l cap) := by
  obtain ⟨h1, h2, _⟩ := h.st.f (bb, 0, .slice (some ⟨g, 0, none⟩) l cap) (by simp [bodyL])
  exact ⟨h1, h2⟩
theorem BSt.c1 (h : BSt L W0 V bb g l cap sum plain xs) : V.cell? ⟨bb, 1, none⟩ = some (.int .i64 sum) := by
  obtain ⟨_, h2, _⟩ := h.st.f (bb, 1, .int .i64 sum) (by simp [bodyL])
  exact h2
theorem BSt.c2 (h : BSt L W0 V bb g l cap sum plain xs) : V.cell? ⟨bb, 2, none⟩ = some (.bool plain) := by
  obtain ⟨_, h2, _⟩ := h.st.f (bb, 2, .bool plain) (by simp [bodyL])
  exact h2
theorem BSt.neg (h : BSt L W0 V bb g l cap sum plain xs) : bb ≠ g := h.ne (bb, 1, .int .i64 sum) (by simp [bodyL])
end
theorem bget_st {L : List (Nat × Nat × Value)} {W0 V : World} {bb g l cap : Nat} {sum : Int} {plain : Bool} {xs : Nat → Int} (h : BSt L W0 V bb g l cap sum plain xs) (i : Nat) (j : Int) (v : Int) (hv : wd xs i = v) (hj : j = (i : Int)) (hi : i + 2 ≤ l) (hl : l ≤ 100000000) :
    Calls Try.prog 82 #[.pointer (some ⟨bb, 0, none⟩), .int .i64 j] V fun e w' => e = .returned (.int .u16 v) ∧ Junk V w' := by
  subst hj
  obtain ⟨hs, k0⟩ := h.c0
  have hgs := h.st.gs
  have y0 := h.st.cell i (by omega)
  have y1 := h.st.cell (i + 1) (by omega)
  have b0 := h.st.b.byte i (by omega)
  have b1 := h.st.b.byte (i + 1) (by omega)
  obtain ⟨x0, hx0⟩ : ∃ x, xs i = x := ⟨_, rfl⟩
  obtain ⟨x1, hx1⟩ : ∃ x, xs (i + 1) = x := ⟨_, rfl⟩
  rw [hx0] at y0 b0
  rw [hx1] at y1 b1
  have HV := Lib.hid (show v = x0 * 256 + x1 by rw [← hv, ← hx0, ← hx1]; rfl)
  have q0 := or_u16 8 (x0 * 256) x1 (by omega) (by omega) (by omega) (by omega) (by omega) (by omega)
  have q1 := wrapk_u16 x0 (by omega) (by omega)
  have q2 := wrapk_u16 x1 (by omega) (by omega)
  have q3 := wrapk_u16 (x0 * 256) (by omega) (by omega)
  have q5 := wrapk_i64 ((i : Int) + 1) (by omega) (by omega)
  have u1 : ((i : Int) + 1).toNat = i + 1 := by omega
  have j0 : (i : Int) < (l : Int) := by omega
  have j1 : (i : Int) + 1 < (l : Int) := by omega
  have i0 : i < l := by omega
  have i1 : i + 1 < l := by omega
  have n0 : (0 : Int) ≤ (i : Int) := by omega
  have n1 : (0 : Int) ≤ (i : Int) + 1 := by omega
  rw [HV.out]
  clear hv hx0 hx1 h
  go_enter Try.func82, Try.ntmps82
  go_wp2
  refine wp_region_junk (by kernel_rfl) (by kernel_rfl) ?_; (repeat (go_big_quiet_step (first | fail))); refine wpQuiet_nil ?_; rintro _ ⟨⟨osq, dq⟩, rfl⟩
  go_wp2
  go_ret
  exact ⟨rfl, by (repeat (first | with_reducible exact Junk.refl _ | with_reducible exact Junk.app _ _ _ _ _ | with_reducible apply Junk.alloc | with_reducible apply Junk.junk | with_reducible apply Junk.drew | with_reducible apply Junk.drewN))⟩
set_option maxHeartbeats 4000000 in
theorem bset_st {L : List (Nat × Nat × Value)} {W0 V : World} {bb g l cap : Nat} {sum : Int} {plain : Bool} {xs : Nat → Int} (h : BSt L W0 V bb g l cap sum plain xs) (i : Nat) (j : Int) (n : Int) (hj : j = (i : Int)) (hi : i + 2 ≤ l) (hl : l ≤ 100000000) (hn : 0 ≤ n ∧ n ≤ 65535) :
    Calls Try.prog 83 #[.pointer (some ⟨bb, 0, none⟩), .int .i64 j, .int .u16 n] V fun e w' => e = .returned (.tuple #[]) ∧ BSt L W0 w' bb g l cap sum plain (w2 xs i n) := by
  subst hj
  obtain ⟨hs, k0⟩ := h.c0
  have hgs := h.st.gs
  have hbg := h.neg
  have HH := Lib.hid h
  have y0 := h.st.cell i (by omega)
  have y1 := h.st.cell (i + 1) (by omega)
  have f0 := h.st.fz i (by omega)
  have f1 := h.st.fz (i + 1) (by omega)
  have HF := Lib.hid (show CsH [(bb, 0, .slice (some ⟨g, 0, none⟩) l cap)] V from h.st.f.sub (fun q hq => by simp at hq; subst hq; simp [bodyL]))
  have HK := Lib.hid (CsH.keeps (g := g) (L := [(bb, 0, .slice (some ⟨g, 0, none⟩) l cap)]) (by simp; exact hbg))
  have hq8 : ∀ x : WF [(bb, 0, .slice (some ⟨g, 0, none⟩) l cap)], x.V.cell? ⟨bb, 0, none⟩ = some (.slice (some ⟨g, 0, none⟩) l cap) := fun x => (x.h (bb, 0, .slice (some ⟨g, 0, none⟩) l cap) (by simp)).2.1
  have hq9 : ∀ x : WF [(bb, 0, .slice (some ⟨g, 0, none⟩) l cap)], bb < x.V.heap.size := fun x => (x.h (bb, 0, .slice (some ⟨g, 0, none⟩) l cap) (by simp)).1
  haveI : Inhabited (WF [(bb, 0, .slice (some ⟨g, 0, none⟩) l cap)]) := ⟨⟨V, HF.out⟩⟩
  have q1 := wrapk_u8 (n / 256) (by omega) (by omega)
  have q2 : IntKind.u8.wrap n = n % 256 := IntKind.wrap_u8 _
  have q5 := wrapk_i64 ((i : Int) + 1) (by omega) (by omega)
  have u1 : ((i : Int) + 1).toNat = i + 1 := by omega
  have j0 : (i : Int) < (l : Int) := by omega
  have j1 : (i : Int) + 1 < (l : Int) := by omega
  have i0 : i < l := by omega
  have i1 : i + 1 < l := by omega
  have n0 : (0 : Int) ≤ (i : Int) := by omega
  have n1 : (0 : Int) ≤ (i : Int) + 1 := by omega
  clear h
  go_enter Try.func83, Try.ntmps83
  refine wp_region_mixf ([(bb, 0, .slice (some ⟨g, 0, none⟩) l cap)]) [(0, true), (1, true), (2, true), (3, true), (4, true), (5, true), (6, true), (7, true), (8, true), (9, true), (10, true), (11, true), (12, true), (13, true), (14, true), (15, true), (16, true), (17, false), (18, true), (19, false)] (by kernel_rfl) (by kernel_rfl) (HF.out) ?_; (iterate 17 (refine wpMix_q rfl (fun K hK => ?_); (go_simp; try go_bits); (refine hK _ ?_; clear hK K))); refine wpMix_e rfl (fun osm0_0 dm0_0 K hK => ?_); (go_simp; try go_bits); refine hK _ _ (⟨⟨_, by (repeat (first | exact HF.out | refine CsH.on ?_ ⟨_, _, rfl⟩ | refine HK.out.set _ _ _ ?_))⟩, rfl⟩) ?_; clear hK K; (iterate 1 (refine wpMix_q rfl (fun K hK => ?_); (go_simp; try go_bits); (refine hK _ ?_; clear hK K))); refine wpMix_e rfl (fun osm0_1 dm0_1 K hK => ?_); (go_simp; try go_bits); refine hK _ _ (⟨⟨_, by (repeat (first | exact HF.out | refine CsH.on ?_ ⟨_, _, rfl⟩ | refine HK.out.set _ _ _ ?_))⟩, rfl⟩) ?_; clear hK K; refine wpMix_nil (fun osm dm => ?_)
  go_wp2
  go_returns
  exact ⟨rfl, (HH.out.w2 i n hn).on (by (first | ((repeat (first | with_reducible exact Junk.refl _ | with_reducible exact Junk.app _ _ _ _ _ | with_reducible apply Junk.alloc | with_reducible apply Junk.junk | with_reducible apply Junk.drew | with_reducible apply Junk.drewN)); done) | ((try simp only [World.junk_junk, Array.append_assoc]); (repeat (first | with_reducible exact Junk.refl _ | with_reducible exact Junk.app _ _ _ _ _ | with_reducible exact Junk.app2 _ _ _ _ _ _ | with_reducible exact Junk.app3 _ _ _ _ _ _ _ | with_reducible exact Junk.app4 _ _ _ _ _ _ _ _ | with_reducible exact Junk.app5 _ _ _ _ _ _ _ _ _ | with_reducible apply Junk.alloc | with_reducible apply Junk.junk | with_reducible apply Junk.drew | with_reducible apply Junk.drewN)))))⟩
end Go.Proofs.Ytnefphinmjeacaa
set_option linter.unusedVariables false
set_option maxRecDepth 100000
set_option linter.unusedSimpArgs false
namespace Go.Proofs.Ytnefphinmjeacaa
open Go.RowKit
def bmI (plain : Bool) (k : Nat) (xs : Nat → Int) (o n : Int) : Nat → Int := if plain = true then xs else w2 xs k (mendI (wd xs k) o n)
set_option maxHeartbeats 4000000 in
theorem bmend_st {L : List (Nat × Nat × Value)} {W0 V : World} {bb g l cap : Nat} {sum : Int} {plain : Bool} {xs : Nat → Int} (h : BSt L W0 V bb g l cap sum plain xs) (k : Nat) (hk : sum = (k : Int)) (hkl : k + 2 ≤ l) (hl : l ≤ 100000000) (o n : Int) (ho : 0 ≤ o ∧ o ≤ 65535) (hn : 0 ≤ n ∧ n ≤ 65535) :
    Calls Try.prog 96 #[.pointer (some ⟨bb, 0, none⟩), .int .u16 o, .int .u16 n] V fun e w' => e = .returned (.tuple #[]) ∧ BSt L W0 w' bb g l cap sum plain (bmI plain k xs o n) := by
  obtain ⟨hs, k0⟩ := h.c0
  have k1 := h.c1
  have k2 := h.c2
  have HB := Lib.hid h
  have HJ := Lib.hid h.st.j
  cases plain with
  | true =>
    rw [show bmI true k xs o n = xs from rfl]
    clear h
    go_enter Try.func96, Try.ntmps96
    go_wp2
    go_returns
    exact ⟨rfl, HB.out.on (by (first | ((repeat (first | with_reducible exact Junk.refl _ | with_reducible exact Junk.app _ _ _ _ _ | with_reducible apply Junk.alloc | with_reducible apply Junk.junk | with_reducible apply Junk.drew | with_reducible apply Junk.drewN)); done) | ((try simp only [World.junk_junk, Array.append_assoc]); (repeat (first | with_reducible exact Junk.refl _ | with_reducible exact Junk.app _ _ _ _ _ | with_reducible exact Junk.app2 _ _ _ _ _ _ | with_reducible exact Junk.app3 _ _ _ _ _ _ _ | with_reducible exact Junk.app4 _ _ _ _ _ _ _ _ | with_reducible exact Junk.app5 _ _ _ _ _ _ _ _ _ | with_reducible apply Junk.alloc | with_reducible apply Junk.junk | with_reducible apply Junk.drew | with_reducible apply Junk.drewN)))))⟩
  | false =>
    obtain ⟨c, hc⟩ : ∃ c, wd xs k = c := ⟨_, rfl⟩
    have hcb : 0 ≤ c ∧ c ≤ 65535 := by rw [← hc]; exact wd_bd (h.st.b.byte k (by omega)) (h.st.b.byte (k + 1) (by omega))
    obtain ⟨v, hv⟩ : ∃ v, mendI c o n = v := ⟨_, rfl⟩
    have hvb : 0 ≤ v ∧ v ≤ 65535 := by rw [← hv]; exact mendI_bd hcb ho hn
    rw [show bmI false k xs o n = w2 xs k v by rw [← hv, ← hc]; rfl]
    have HC := Lib.hid hc
    have HK := Lib.hid hk
    have HM := Lib.hid (fun w1 => show Calls Try.prog 94 #[.int .u16 c, .int .u16 o, .int .u16 n] w1 fun e w' => e = .returned (.int .u16 v) ∧ Junk w1 w' by rw [← hv]; exact (cmend_any c o n w1 hcb ho hn).mono fun e w' q => ⟨q.1, q.2 ▸ Junk.refl _⟩)
    clear h hc hv hk
    go_enter Try.func96, Try.ntmps96
    go_upto_region 1 with (fail)
    refine wp_region_mixn (V) 14 [(0, true), (1, true), (2, true), (3, true), (4, true), (5, true), (6, true), (7, true), (8, true), (9, true), (10, true), (11, true), (12, true), (13, true), (14, false)] (by kernel_rfl) (by kernel_rfl) (by (repeat (first | with_reducible exact Junk.refl _ | with_reducible exact Junk.app _ _ _ _ _ | with_reducible apply Junk.alloc | with_reducible apply Junk.junk | with_reducible apply Junk.drew | with_reducible apply Junk.drewN))) ?_; (iterate 14 (refine wpMixL_q rfl (fun K hK => ?_); (go_simp; try go_bits); first | (refine hK _ ?_; clear hK K) | (apply Exists.intro; refine ⟨fun _ => ?_, hK _ ?_⟩; (first | (first | (go_at_call 82; with_reducible exact bget_st (HB.out.on (by (first | ((repeat (first | with_reducible exact Junk.refl _ | with_reducible exact Junk.app _ _ _ _ _ | with_reducible apply Junk.alloc | with_reducible apply Junk.junk | with_reducible apply Junk.drew | with_reducible apply Junk.drewN)); done) | ((try simp only [World.junk_junk, Array.append_assoc]); (repeat (first | with_reducible exact Junk.refl _ | with_reducible exact Junk.app _ _ _ _ _ | with_reducible exact Junk.app2 _ _ _ _ _ _ | with_reducible exact Junk.app3 _ _ _ _ _ _ _ | with_reducible exact Junk.app4 _ _ _ _ _ _ _ _ | with_reducible exact Junk.app5 _ _ _ _ _ _ _ _ _ | with_reducible apply Junk.alloc | with_reducible apply Junk.junk | with_reducible apply Junk.drew | with_reducible apply Junk.drewN)))))) k _ c HC.out HK.out hkl hl) | (go_at_call 94; with_reducible exact HM.out _))); clear hK K))); refine wpMixL_last rfl (fun osm1_0 dm1_0 K hK => ?_); (go_simp; try go_bits); (go_at_call 83; refine (bset_st (HB.out.on (by (first | ((repeat (first | with_reducible exact Junk.refl _ | with_reducible exact Junk.app _ _ _ _ _ | with_reducible apply Junk.alloc | with_reducible apply Junk.junk | with_reducible apply Junk.drew | with_reducible apply Junk.drewN)); done) | ((try simp only [World.junk_junk, Array.append_assoc]); (repeat (first | with_reducible exact Junk.refl _ | with_reducible exact Junk.app _ _ _ _ _ | with_reducible exact Junk.app2 _ _ _ _ _ _ | with_reducible exact Junk.app3 _ _ _ _ _ _ _ | with_reducible exact Junk.app4 _ _ _ _ _ _ _ _ | with_reducible exact Junk.app5 _ _ _ _ _ _ _ _ _ | with_reducible apply Junk.alloc | with_reducible apply Junk.junk | with_reducible apply Junk.drew | with_reducible apply Junk.drewN)))))) k _ v HK.out hkl hl hvb).mono ?_; rintro e V5 ⟨rfl, hS5⟩; have HS5 := Lib.hid hS5; clear hS5); refine hK _ _ ?_; clear hK K; refine wpMixL_nil (fun osm dm => ?_)
    go_wp2
    go_returns
    exact ⟨rfl, HS5.out.on (by (first | ((repeat (first | with_reducible exact Junk.refl _ | with_reducible exact Junk.app _ _ _ _ _ | with_reducible apply Junk.alloc | with_reducible apply Junk.junk | with_reducible apply Junk.drew | with_reducible apply Junk.drewN)); done) | ((try simp only [World.junk_junk, Array.append_assoc]); (repeat (first | with_reducible exact Junk.refl _ | with_reducible exact Junk.app _ _ _ _ _ | with_reducible exact Junk.app2 _ _ _ _ _ _ | with_reducible exact Junk.app3 _ _ _ _ _ _ _ | with_reducible exact Junk.app4 _ _ _ _ _ _ _ _ | with_reducible exact Junk.app5 _ _ _ _ _ _ _ _ _ | with_reducible apply Junk.alloc | with_reducible apply Junk.junk | with_reducible apply Junk.drew | with_reducible apply Junk.drewN)))))⟩
set_option maxHeartbeats 4000000 in
theorem bword_st {L : List (Nat × Nat × Value)} {W0 V : World} {bb g l cap : Nat} {sum : Int} {plain : Bool} {xs : Nat → Int} (h : BSt L W0 V bb g l cap sum plain xs) (k : Nat) (hk : sum = (k : Int)) (hkl : k + 2 ≤ l) (hl : l ≤ 100000000) (i : Nat) (j : Int) (hj : j = (i : Int)) (hi : i + 2 ≤ l) (n : Int) (hn : 0 ≤ n ∧ n ≤ 65535) :
    Calls Try.prog 80 #[.pointer (some ⟨bb, 0, none⟩), .int .i64 j, .int .u16 n] V fun e w' => e = .returned (.tuple #[]) ∧ BSt L W0 w' bb g l cap sum plain (w2 (bmI plain k xs (wd xs i) n) i n) := by
  have HB := Lib.hid h
  obtain ⟨c, hc⟩ : ∃ c, wd xs i = c := ⟨_, rfl⟩
  have hcb : 0 ≤ c ∧ c ≤ 65535 := by rw [← hc]; exact wd_bd (h.st.b.byte i (by omega)) (h.st.b.byte (i + 1) (by omega))
  have HC := Lib.hid hc
  have HJJ := Lib.hid hj
  have HKK := Lib.hid hk
  rw [hc]
  clear h hc hj hk
  go_enter Try.func80, Try.ntmps80
  go_wp2_with (first
    | (go_at_call 82; (with_reducible refine (bget_st (HB.out.on (by (first | ((repeat (first | with_reducible exact Junk.refl _ | with_reducible exact Junk.app _ _ _ _ _ | with_reducible apply Junk.alloc | with_reducible apply Junk.junk | with_reducible apply Junk.drew | with_reducible apply Junk.drewN)); done) | ((try simp only [World.junk_junk, Array.append_assoc]); (repeat (first | with_reducible exact Junk.refl _ | with_reducible exact Junk.app _ _ _ _ _ | with_reducible exact Junk.app2 _ _ _ _ _ _ | with_reducible exact Junk.app3 _ _ _ _ _ _ _ | with_reducible exact Junk.app4 _ _ _ _ _ _ _ _ | with_reducible exact Junk.app5 _ _ _ _ _ _ _ _ _ | with_reducible apply Junk.alloc | with_reducible apply Junk.junk | with_reducible apply Junk.drew | with_reducible apply Junk.drewN)))))) i _ c HC.out HJJ.out hi hl).mono ?_); rintro e w' ⟨rfl, ⟨osj, dj, rfl⟩⟩)
    | (go_at_call 96; refine (bmend_st (HB.out.on (by (first | ((repeat (first | with_reducible exact Junk.refl _ | with_reducible exact Junk.app _ _ _ _ _ | with_reducible apply Junk.alloc | with_reducible apply Junk.junk | with_reducible apply Junk.drew | with_reducible apply Junk.drewN)); done) | ((try simp only [World.junk_junk, Array.append_assoc]); (repeat (first | with_reducible exact Junk.refl _ | with_reducible exact Junk.app _ _ _ _ _ | with_reducible exact Junk.app2 _ _ _ _ _ _ | with_reducible exact Junk.app3 _ _ _ _ _ _ _ | with_reducible exact Junk.app4 _ _ _ _ _ _ _ _ | with_reducible exact Junk.app5 _ _ _ _ _ _ _ _ _ | with_reducible apply Junk.alloc | with_reducible apply Junk.junk | with_reducible apply Junk.drew | with_reducible apply Junk.drewN)))))) k HKK.out hkl hl c n hcb hn).mono ?_; rintro e V5 ⟨rfl, hS5⟩; have HS5 := Lib.hid hS5; clear hS5)
    | (go_at_call 83; refine (bset_st (HS5.out.on (by (first | ((repeat (first | with_reducible exact Junk.refl _ | with_reducible exact Junk.app _ _ _ _ _ | with_reducible apply Junk.alloc | with_reducible apply Junk.junk | with_reducible apply Junk.drew | with_reducible apply Junk.drewN)); done) | ((try simp only [World.junk_junk, Array.append_assoc]); (repeat (first | with_reducible exact Junk.refl _ | with_reducible exact Junk.app _ _ _ _ _ | with_reducible exact Junk.app2 _ _ _ _ _ _ | with_reducible exact Junk.app3 _ _ _ _ _ _ _ | with_reducible exact Junk.app4 _ _ _ _ _ _ _ _ | with_reducible exact Junk.app5 _ _ _ _ _ _ _ _ _ | with_reducible apply Junk.alloc | with_reducible apply Junk.junk | with_reducible apply Junk.drew | with_reducible apply Junk.drewN)))))) i _ n HJJ.out hi hl hn).mono ?_; rintro e V6 ⟨rfl, hS6⟩; have HS6 := Lib.hid hS6; clear hS6))
  go_returns
  exact ⟨rfl, HS6.out⟩
set_option maxHeartbeats 4000000 in
theorem baddr_st {L : List (Nat × Nat × Value)} {W0 V : World} {bb g l cap : Nat} {sum : Int} {plain : Bool} {xs : Nat → Int} (h : BSt L W0 V bb g l cap sum plain xs) (k : Nat) (hk : sum = (k : Int)) (hkl : k + 2 ≤ l) (hl : l ≤ 100000000) (o n : Int) (ho : 0 ≤ o ∧ o ≤ 4294967295) (hn : 0 ≤ n ∧ n ≤ 4294967295) :
    Calls Try.prog 81 #[.pointer (some ⟨bb, 0, none⟩), .int .u32 o, .int .u32 n] V fun e w' => e = .returned (.tuple #[]) ∧ BSt L W0 w' bb g l cap sum plain (bmI plain k (bmI plain k xs (o / 65536) (n / 65536)) (o % 65536) (n % 65536)) := by
  have HB := Lib.hid h
  have HKK := Lib.hid hk
  have q1 := wrapk_u16 (o / 65536) (by omega) (by omega)
  have q2 := wrapk_u16 (n / 65536) (by omega) (by omega)
  have q3 : IntKind.u16.wrap o = o % 65536 := IntKind.wrap_u16 _
  have q4 : IntKind.u16.wrap n = n % 65536 := IntKind.wrap_u16 _
  clear h hk
  go_enter Try.func81, Try.ntmps81
  go_wp2_with (first
    | (go_at_call 96; refine (bmend_st (HS5.out.on (by (first | ((repeat (first | with_reducible exact Junk.refl _ | with_reducible exact Junk.app _ _ _ _ _ | with_reducible apply Junk.alloc | with_reducible apply Junk.junk | with_reducible apply Junk.drew | with_reducible apply Junk.drewN)); done) | ((try simp only [World.junk_junk, Array.append_assoc]); (repeat (first | with_reducible exact Junk.refl _ | with_reducible exact Junk.app _ _ _ _ _ | with_reducible exact Junk.app2 _ _ _ _ _ _ | with_reducible exact Junk.app3 _ _ _ _ _ _ _ | with_reducible exact Junk.app4 _ _ _ _ _ _ _ _ | with_reducible exact Junk.app5 _ _ _ _ _ _ _ _ _ | with_reducible apply Junk.alloc | with_reducible apply Junk.junk | with_reducible apply Junk.drew | with_reducible apply Junk.drewN)))))) k HKK.out hkl hl (o % 65536) (n % 65536) (by omega) (by omega)).mono ?_; rintro e V6 ⟨rfl, hS6⟩; have HS6 := Lib.hid hS6; clear hS6)
    | (go_at_call 96; refine (bmend_st (HB.out.on (by (first | ((repeat (first | with_reducible exact Junk.refl _ | with_reducible exact Junk.app _ _ _ _ _ | with_reducible apply Junk.alloc | with_reducible apply Junk.junk | with_reducible apply Junk.drew | with_reducible apply Junk.drewN)); done) | ((try simp only [World.junk_junk, Array.append_assoc]); (repeat (first | with_reducible exact Junk.refl _ | with_reducible exact Junk.app _ _ _ _ _ | with_reducible exact Junk.app2 _ _ _ _ _ _ | with_reducible exact Junk.app3 _ _ _ _ _ _ _ | with_reducible exact Junk.app4 _ _ _ _ _ _ _ _ | with_reducible exact Junk.app5 _ _ _ _ _ _ _ _ _ | with_reducible apply Junk.alloc | with_reducible apply Junk.junk | with_reducible apply Junk.drew | with_reducible apply Junk.drewN)))))) k HKK.out hkl hl (o / 65536) (n / 65536) (by omega) (by omega)).mono ?_; rintro e V5 ⟨rfl, hS5⟩; have HS5 := Lib.hid hS5; clear hS5))
  go_returns
  exact ⟨rfl, HS6.out⟩
end Go.Proofs.Ytnefphinmjeacaa
set_option linter.unusedVariables false
set_option maxRecDepth 100000
set_option linter.unusedSimpArgs false
namespace Go.Proofs.Ytnefphinmjeacaa
open Go.RowKit
def rwSum (pr : Int) : Nat := if pr = 17 then 6 else if pr = 1 then 2 else 16
def rwPlain (pr : Int) (xs : Nat → Int) : Bool := decide (pr = 17 ∧ wd xs 6 = 0)
set_option maxHeartbeats 4000000 in
theorem rof_any (c0 c1 c2 c3 c4 c5 c7 c8 c9 : Value) (pr : Int) (oa : Option Addr) (l c : Nat) (xs : Nat → Int) (w : World) (hl8 : 8 ≤ l) (hl : l ≤ 100000000) (hB : Bts w oa l c xs) :
    Calls Try.prog 79 #[.agg #[c0, c1, c2, c3, c4, c5, .int .i64 pr, c7, c8, c9, .slice oa l c]] w fun e w' => ∃ (bb g cap : Nat), e = .returned (.pointer (some ⟨bb, 0, none⟩)) ∧ BSt [] w w' bb g l cap (rwSum pr : Nat) (rwPlain pr xs) xs := by
  obtain ⟨ad, rfl⟩ : ∃ ad, oa = some ad := by
    obtain ⟨b, off, he, _⟩ := hB.at_ 0 (by omega)
    exact ⟨_, he⟩
  have HB := Lib.hid hB
  have HX := Lib.hid hB.byte
  clear hB
  obtain ⟨C, hC⟩ : ∃ v, wd xs 6 = v := ⟨_, rfl⟩
  have HC := Lib.hid hC
  clear hC
  go_enter Try.func79, Try.ntmps79
  go_upto_block 0 with (first | (go_at_call 41; refine (clone_own ad l c xs _ hl (HB.out.on (by (first | ((repeat (first | with_reducible exact Junk.refl _ | with_reducible exact Junk.app _ _ _ _ _ | with_reducible apply Junk.alloc | with_reducible apply Junk.junk | with_reducible apply Junk.drew | with_reducible apply Junk.drewN)); done) | ((try simp only [World.junk_junk, Array.append_assoc]); (repeat (first | with_reducible exact Junk.refl _ | with_reducible exact Junk.app _ _ _ _ _ | with_reducible exact Junk.app2 _ _ _ _ _ _ | with_reducible exact Junk.app3 _ _ _ _ _ _ _ | with_reducible exact Junk.app4 _ _ _ _ _ _ _ _ | with_reducible exact Junk.app5 _ _ _ _ _ _ _ _ _ | with_reducible apply Junk.alloc | with_reducible apply Junk.junk | with_reducible apply Junk.drew | with_reducible apply Junk.drewN))))))).mono ?_; rintro e w' ⟨oc, cap, rfl, ⟨osC, dC, rfl⟩, hown⟩; have HOWN := Lib.hid hown; clear hown))
  obtain ⟨g, rfl, hgB, hgS, hcells⟩ := own_some HOWN.out (by omega)
  have hg1 : w.heap.size + 1 ≤ g := by simpa using hgB
  have hg2 : g < w.heap.size + 1 + osC.size := by simpa using hgS
  have HBS := Lib.hid (fun (s : Int) (b : Bool) => show BSt [] w ((fun (s : Int) (b : Bool) => (((w.alloc (.cells #[c0, c1, c2, c3, c4, c5, .int .i64 pr, c7, c8, c9, .slice (some ad) l c] 43)).junk osC dC).alloc (.cells #[.slice (some ⟨g, 0, none⟩) l cap, .int .i64 s, .bool b] 117))) s b) (w.heap.size + 1 + osC.size) g l cap s b xs from
    ⟨⟨by (first | ((repeat (first | with_reducible exact Junk.refl _ | with_reducible exact Junk.app _ _ _ _ _ | with_reducible apply Junk.alloc | with_reducible apply Junk.junk | with_reducible apply Junk.drew | with_reducible apply Junk.drewN)); done) | ((try simp only [World.junk_junk, Array.append_assoc]); (repeat (first | with_reducible exact Junk.refl _ | with_reducible exact Junk.app _ _ _ _ _ | with_reducible exact Junk.app2 _ _ _ _ _ _ | with_reducible exact Junk.app3 _ _ _ _ _ _ _ | with_reducible exact Junk.app4 _ _ _ _ _ _ _ _ | with_reducible exact Junk.app5 _ _ _ _ _ _ _ _ _ | with_reducible apply Junk.alloc | with_reducible apply Junk.junk | with_reducible apply Junk.drew | with_reducible apply Junk.drewN)))), by omega, by simp; omega, (own_bts HOWN.out HX.out).on (by (first | ((repeat (first | with_reducible exact Junk.refl _ | with_reducible exact Junk.app _ _ _ _ _ | with_reducible apply Junk.alloc | with_reducible apply Junk.junk | with_reducible apply Junk.drew | with_reducible apply Junk.drewN)); done) | ((try simp only [World.junk_junk, Array.append_assoc]); (repeat (first | with_reducible exact Junk.refl _ | with_reducible exact Junk.app _ _ _ _ _ | with_reducible exact Junk.app2 _ _ _ _ _ _ | with_reducible exact Junk.app3 _ _ _ _ _ _ _ | with_reducible exact Junk.app4 _ _ _ _ _ _ _ _ | with_reducible exact Junk.app5 _ _ _ _ _ _ _ _ _ | with_reducible apply Junk.alloc | with_reducible apply Junk.junk | with_reducible apply Junk.drew | with_reducible apply Junk.drewN))))), fun i hi => by
      have := (hcells i (.int .u8 (xs i)) (by rw [bytesL, List.getElem?_map, List.getElem?_range hi]; rfl)).2
      rw [World.frozen?_alloc_old _ _ _ (by simp; omega)]
      exact this, by
      show CsH (bodyL _ _ _ _ _ _ ++ []) _
      rw [List.append_nil]
      unfold bodyL
      repeat (refine CsH.cons.2 ⟨⟨(by simp), (by go_simp), (by go_simp)⟩, ?_⟩)
      exact CsH.nil _⟩, by
      show ∀ q ∈ bodyL _ _ _ _ _ _ ++ [], q.1 ≠ g
      rw [List.append_nil]
      unfold bodyL
      simp
      omega⟩)
  clear hcells HOWN hgB hgS
  by_cases h17 : pr = 17
  · subst h17
    by_cases hz : C = 0
    · have hz1 : (C == 0) = true := by simpa using hz
      have HP := Lib.hid (show rwPlain 17 xs = true by unfold rwPlain; rw [HC.out, hz]; decide)
      clear hz
      go_wp2_with (first | (go_at_call 82; (with_reducible refine (bget_st (HBS.out 6 false) 6 _ C HC.out (by omega) (by omega) hl).mono ?_); rintro e w' ⟨rfl, ⟨osG, dG, rfl⟩⟩))
      go_returns
      first | exact ⟨w.heap.size + 1 + osC.size, g, cap, rfl, by rw [HP.out]; exact (HBS.out 6 true).on (by (first | ((repeat (first | with_reducible exact Junk.refl _ | with_reducible exact Junk.app _ _ _ _ _ | with_reducible apply Junk.alloc | with_reducible apply Junk.junk | with_reducible apply Junk.drew | with_reducible apply Junk.drewN)); done) | ((try simp only [World.junk_junk, Array.append_assoc]); (repeat (first | with_reducible exact Junk.refl _ | with_reducible exact Junk.app _ _ _ _ _ | with_reducible exact Junk.app2 _ _ _ _ _ _ | with_reducible exact Junk.app3 _ _ _ _ _ _ _ | with_reducible exact Junk.app4 _ _ _ _ _ _ _ _ | with_reducible exact Junk.app5 _ _ _ _ _ _ _ _ _ | with_reducible apply Junk.alloc | with_reducible apply Junk.junk | with_reducible apply Junk.drew | with_reducible apply Junk.drewN)))))⟩ | exact ⟨w.heap.size + 1 + osC.size, rfl, g, cap, by rw [HP.out]; exact (HBS.out 6 true).on (by (first | ((repeat (first | with_reducible exact Junk.refl _ | with_reducible exact Junk.app _ _ _ _ _ | with_reducible apply Junk.alloc | with_reducible apply Junk.junk | with_reducible apply Junk.drew | with_reducible apply Junk.drewN)); done) | ((try simp only [World.junk_junk, Array.append_assoc]); (repeat (first | with_reducible exact Junk.refl _ | with_reducible exact Junk.app _ _ _ _ _ | with_reducible exact Junk.app2 _ _ _ _ _ _ | with_reducible exact Junk.app3 _ _ _ _ _ _ _ | with_reducible exact Junk.app4 _ _ _ _ _ _ _ _ | with_reducible exact Junk.app5 _ _ _ _ _ _ _ _ _ | with_reducible apply Junk.alloc | with_reducible apply Junk.junk | with_reducible apply Junk.drew | with_reducible apply Junk.drewN)))))⟩
    · have hz1 : (C == 0) = false := by simpa using hz
      have HP := Lib.hid (show rwPlain 17 xs = false by unfold rwPlain; rw [HC.out]; simp [hz])
      clear hz
      go_wp2_with (first | (go_at_call 82; (with_reducible refine (bget_st (HBS.out 6 false) 6 _ C HC.out (by omega) (by omega) hl).mono ?_); rintro e w' ⟨rfl, ⟨osG, dG, rfl⟩⟩))
      go_returns
      first | exact ⟨w.heap.size + 1 + osC.size, g, cap, rfl, by rw [HP.out]; exact (HBS.out 6 false).on (by (first | ((repeat (first | with_reducible exact Junk.refl _ | with_reducible exact Junk.app _ _ _ _ _ | with_reducible apply Junk.alloc | with_reducible apply Junk.junk | with_reducible apply Junk.drew | with_reducible apply Junk.drewN)); done) | ((try simp only [World.junk_junk, Array.append_assoc]); (repeat (first | with_reducible exact Junk.refl _ | with_reducible exact Junk.app _ _ _ _ _ | with_reducible exact Junk.app2 _ _ _ _ _ _ | with_reducible exact Junk.app3 _ _ _ _ _ _ _ | with_reducible exact Junk.app4 _ _ _ _ _ _ _ _ | with_reducible exact Junk.app5 _ _ _ _ _ _ _ _ _ | with_reducible apply Junk.alloc | with_reducible apply Junk.junk | with_reducible apply Junk.drew | with_reducible apply Junk.drewN)))))⟩ | exact ⟨w.heap.size + 1 + osC.size, rfl, g, cap, by rw [HP.out]; exact (HBS.out 6 false).on (by (first | ((repeat (first | with_reducible exact Junk.refl _ | with_reducible exact Junk.app _ _ _ _ _ | with_reducible apply Junk.alloc | with_reducible apply Junk.junk | with_reducible apply Junk.drew | with_reducible apply Junk.drewN)); done) | ((try simp only [World.junk_junk, Array.append_assoc]); (repeat (first | with_reducible exact Junk.refl _ | with_reducible exact Junk.app _ _ _ _ _ | with_reducible exact Junk.app2 _ _ _ _ _ _ | with_reducible exact Junk.app3 _ _ _ _ _ _ _ | with_reducible exact Junk.app4 _ _ _ _ _ _ _ _ | with_reducible exact Junk.app5 _ _ _ _ _ _ _ _ _ | with_reducible apply Junk.alloc | with_reducible apply Junk.junk | with_reducible apply Junk.drew | with_reducible apply Junk.drewN)))))⟩
  · have HP := Lib.hid (show rwPlain pr xs = false by unfold rwPlain; simp [h17])
    have h17' : (pr == 17) = false := by simpa using h17
    by_cases h1 : pr = 1
    · subst h1
      clear h17
      go_wp2
      go_returns
      first | exact ⟨w.heap.size + 1 + osC.size, g, cap, rfl, by rw [HP.out]; exact HBS.out 2 false⟩ | exact ⟨w.heap.size + 1 + osC.size, rfl, g, cap, by rw [HP.out]; exact HBS.out 2 false⟩
    · have h1' : (pr == 1) = false := by simpa using h1
      have HS := Lib.hid (show rwSum pr = 16 by unfold rwSum; rw [if_neg h17, if_neg h1])
      clear h17 h1
      go_wp2
      go_returns
      first | exact ⟨w.heap.size + 1 + osC.size, g, cap, rfl, by rw [HP.out, HS.out]; exact HBS.out 16 false⟩ | exact ⟨w.heap.size + 1 + osC.size, rfl, g, cap, by rw [HP.out, HS.out]; exact HBS.out 16 false⟩
end Go.Proofs.Ytnefphinmjeacaa
set_option linter.unusedVariables false
set_option maxRecDepth 100000
namespace Go
section
variable {P : Program} {ops : Array Oper} {md : Region.Mode} {D : World → Prop} {late : List Nat}
def Region.lateT (md : Region.Mode) (ops : Array Oper) (late : List Nat) : Bool := late.all fun t => (List.range ops.size).all fun i => late.contains i || Region.downB md ops ops.size i t
theorem Region.lateT_spec (h : Region.lateT md ops late = true) {t : Nat} (ht : t ∈ late) {listed : Array Bool} {i : Nat} (hc : Region.Closed md ops listed) (hr : t ∈ Region.ready md ops listed) (hi : i ∉ late) (his : i < ops.size) : listed.getD i false = true := by
  unfold Region.lateT at h
  obtain ⟨_, o, ho, hall⟩ := mem_ready.1 hr
  simp only [List.all_eq_true, List.mem_range, Bool.or_eq_true, List.contains_eq_mem, decide_eq_true_eq] at h
  rcases h t ht i his with h1 | h1
  · exact absurd h1 hi
  · refine Region.downB_listed hc _ t (fun o' ho' e he hb => ?_) h1
    rw [ho] at ho'
    cases ho'
    exact hall e he hb
/-- An order in which nothing quiet comes behind a late operation. -/
def Region.endsM (late : List Nat) : List (Nat × Bool) → Bool
  | [] => true
  | (k, q) :: r => (if q then !late.contains k else (!late.contains k || r.all (fun x => !x.2))) && Region.endsM late r
def wpAnyM (P : Program) (md : Region.Mode) (ops : Array Oper) (D : World → Prop) (late : List Nat) (Q : Act → World → Prop) : Nat → Array Bool → Act → World → Prop
  | 0, listed, a, w => Region.ready md ops listed = [] ∧ ∀ w', Junk w w' → Q a w'
  | f + 1, listed, a, w => (Region.ready md ops listed = [] → ∀ w', Junk w w' → Q a w') ∧
    ∀ i ∈ Region.ready md ops listed, ∀ w', Junk w w' → wpE P ops i (fun a' w'' => (i ∈ late ∨ D w'') ∧ wpAnyM P md ops D late Q f (listed.setIfInBounds i true) a' w'') a w'
theorem wpAnyM_junk {Q : Act → World → Prop} : ∀ {f : Nat} {listed : Array Bool} {a : Act} {w w' : World}, Junk w w' → wpAnyM P md ops D late Q f listed a w → wpAnyM P md ops D late Q f listed a w'
  | 0, _, _, _, _, hj, h => ⟨h.1, fun _ h' => h.2 _ (hj.trans h')⟩
  | _ + 1, _, _, _, _, hj, h => ⟨fun h0 _ h' => h.1 h0 _ (hj.trans h'), fun i hi _ h' => h.2 i hi _ (hj.trans h')⟩
theorem wpAny_of_M {Q : Act → World → Prop} {Q' : Exit → Act → World → Prop} (hQ : ∀ a w, Q a w → Q' .normal a w) : ∀ (f : Nat) (listed : Array Bool) (a : Act) (w : World), wpAnyM P md ops D late Q f listed a w → wpAny P md ops Q' f listed a w
  | 0, _, _, _, h => ⟨h.1, hQ _ _ (h.2 _ (Junk.refl _))⟩
  | f + 1, _, _, _, h => ⟨fun h0 => hQ _ _ (h.1 h0 _ (Junk.refl _)), fun i hi => wpOp_mono (fun a' w' h' => wpAny_of_M hQ f _ a' w' h'.2) (wpOp_of_wpE (h.2 i hi _ (Junk.refl _)))⟩
theorem wpAnyM_first (hcl : ∀ w w', D w → Junk w w' → D w') {Q : Act → World → Prop} {i : Nat} {oi : Oper} {v : Value} (hi : ops[i]? = some oi) (hsel : ∀ (j : Nat) (o : Oper) cs b, ops[j]? = some o → o.op ≠ .select cs b) (hlast : Region.lateT md ops late = true) (hil : i ∉ late) :
    ∀ (f : Nat) (listed : Array Bool) (a : Act) (w : World),
      (∀ j oj, ops[j]? = some oj → j ≠ i → listed.getD j true = false → (∀ e ∈ oj.after, Region.binds md e = true → e.on ≠ i) → oi.apart ops oj = true) →
      i ∈ Region.ready md ops listed → Region.Closed md ops listed → YieldsJ P ops D oi v a → D w →
      wpAnyM P md ops D late Q f (listed.setIfInBounds i true) (a.put oi.dst v) w → wpAnyM P md ops D late Q (f + 1) listed a w := by
  intro f
  induction f with
  | zero =>
    intro listed a w _ hr hcs hy hD H
    refine ⟨fun h => (by rw [h] at hr; cases hr), fun j hj w' hw' => ?_⟩
    by_cases hji : j = i
    · subst hji; exact hy.wpE hi (hcl _ _ hD hw') fun w'' hw'' => ⟨.inr (hcl _ _ (hcl _ _ hD hw') hw''), wpAnyM_junk (hw'.trans hw'') H⟩
    · have := ready_mono hj hji
      rw [H.1] at this
      cases this
  | succ f ih =>
    intro listed a w hfree hr hcs hy hD H
    refine ⟨fun h => (by rw [h] at hr; cases hr), fun j hj w' hw' => ?_⟩
    by_cases hji : j = i
    · subst hji; exact hy.wpE hi (hcl _ _ hD hw') fun w'' hw'' => ⟨.inr (hcl _ _ (hcl _ _ hD hw') hw''), wpAnyM_junk (hw'.trans hw'') H⟩
    · have hjl : j ∉ late := fun h => by
        have h0 := (mem_ready.1 hr).1
        have h1 := Region.lateT_spec hlast h hcs hj hil (Array.getElem?_eq_some_iff.1 hi).1
        rcases Nat.lt_or_ge i listed.size with h' | h'
        · simp [h'] at h0 h1; rw [h0] at h1; cases h1
        · simp [Array.getElem?_eq_none h'] at h1
      have h1 := H.2 j (ready_mono hj hji) w' hw'
      obtain ⟨hjun, oj, hoj, hall⟩ := mem_ready.1 hj
      have hnot : ∀ e ∈ oj.after, Region.binds md e = true → e.on ≠ i := fun e he hb heq => by
        have h1 := hall e he hb
        have h0 := (mem_ready.1 hr).1
        rw [heq] at h1
        rcases Nat.lt_or_ge i listed.size with h' | h'
        · simp [h'] at h0 h1; rw [h0] at h1; cases h1
        · simp [Array.getElem?_eq_none h'] at h1
      have h2 := wpE_put hoj (hfree j oj hoj hji hjun hnot) (fun cs b => hsel i oi cs b hi) (fun cs b => hsel j oj cs b hoj) hy h1
      have hfree' : ∀ k ok, ops[k]? = some ok → k ≠ i → (listed.setIfInBounds j true).getD k true = false →
          (∀ e ∈ ok.after, Region.binds md e = true → e.on ≠ i) → oi.apart ops ok = true := fun k ok hk hki hun hno => by
        refine hfree k ok hk hki ?_ hno
        by_cases hjk : j = k
        · subst hjk; exact hjun
        · rw [getD_set_ne true hjk] at hun; exact hun
      refine wpE_mono (fun a' w'' h3 => ⟨h3.2.1, ih (listed.setIfInBounds j true) a' w'' hfree' (ready_mono hr (Ne.symm hji)) (hcs.set hj) h3.1 (h3.2.1.resolve_left hjl) ?_⟩) h2
      rw [Array.setIfInBounds_comm _ _ hji]
      exact h3.2.2
def wpMixM (P : Program) (ops : Array Oper) (D : World → Prop) (late : List Nat) (Q : Act → World → Prop) : List (Nat × Bool) → Act → World → Prop
  | [], a, w => ∀ w', Junk w w' → Q a w'
  | (k, true) :: r, a, w => match ops[k]? with
    | none => False
    | some o => if Region.wanted o (yielded ops a.tmps) then ∃ v, (∀ w, D w → o.quietAt P a (Junk w) w v) ∧ wpMixM P ops D late Q r (a.put o.dst v) w else wpMixM P ops D late Q r (a.put o.dst undef) w
  | (k, false) :: r, a, w => ∀ w', Junk w w' → wpE P ops k (fun a' w'' => (k ∈ late ∨ D w'') ∧ wpMixM P ops D late Q r a' w'') a w'
theorem wpMixM_q {Q : Act → World → Prop} {k : Nat} {r : List (Nat × Bool)} {o : Oper} {a : Act} {w : World} (ho : ops[k]? = some o)
    (h : ∀ K : Act → Prop, (∀ a, wpMixM P ops D late Q r a w → K a) → if Region.wanted o (yielded ops a.tmps) then ∃ v, (∀ w, D w → o.quietAt P a (Junk w) w v) ∧ K (a.put o.dst v) else K (a.put o.dst undef)) :
    wpMixM P ops D late Q ((k, true) :: r) a w := by
  unfold wpMixM
  simp only [ho]
  exact h _ (fun _ h => h)
theorem wpMixM_e {Q : Act → World → Prop} {k : Nat} {r : List (Nat × Bool)} {o : Oper} {a : Act} {w : World} (ho : ops[k]? = some o)
    (h : ∀ os d, ∀ K : Act → World → Prop, (∀ a w', D w' → wpMixM P ops D late Q r a w' → K a w') → if Region.wanted o (yielded ops a.tmps) then o.wp P a (w.junk os d) K NoExit else K (a.put o.dst undef) (w.junk os d)) :
    wpMixM P ops D late Q ((k, false) :: r) a w := by
  unfold wpMixM
  rintro w' ⟨os, d, rfl⟩
  unfold wpE
  simp only [ho]
  exact h os d _ (fun _ _ hd h => ⟨.inr hd, h⟩)
theorem wpMixM_late {Q : Act → World → Prop} {k : Nat} {o : Oper} {r : List (Nat × Bool)} {a : Act} {w : World} (hk : late.contains k = true) (ho : ops[k]? = some o)
    (h : ∀ os d, ∀ K : Act → World → Prop, (∀ a w', wpMixM P ops D late Q r a w' → K a w') → if Region.wanted o (yielded ops a.tmps) then o.wp P a (w.junk os d) K NoExit else K (a.put o.dst undef) (w.junk os d)) :
    wpMixM P ops D late Q ((k, false) :: r) a w := by
  unfold wpMixM
  rintro w' ⟨os, d, rfl⟩
  unfold wpE
  simp only [ho]
  exact h os d _ (fun _ _ h => ⟨.inl (by simpa using hk), h⟩)
theorem wpMixM_nil {Q : Act → World → Prop} {a : Act} {w : World} (h : ∀ os d, Q a (w.junk os d)) : wpMixM P ops D late Q [] a w := by
  rintro w' ⟨os, d, rfl⟩
  exact h os d
theorem wpMixM_e1 {Q : Act → World → Prop} {k : Nat} {r : List (Nat × Bool)} {o : Oper} {a : Act} {w : World} (ho : ops[k]? = some o) (hg : o.guard = none)
    (h : ∀ os d, ∀ K : Act → World → Prop, (∀ a w', D w' → wpMixM P ops D late Q r a w' → K a w') → o.wp P a (w.junk os d) K NoExit) :
    wpMixM P ops D late Q ((k, false) :: r) a w :=
  wpMixM_e ho fun os d K hK => by
    have hw : Region.wanted o (yielded ops a.tmps) = true := by simp [Region.wanted, hg]
    rw [if_pos hw]
    exact h os d K hK
/-- An order in which the last one comes last, if at all as an effect. -/
theorem wpAnyM_mix (hcl : ∀ w w', D w → Junk w w' → D w') {Q : Act → World → Prop} (hsel : Region.noSelect ops = true) (hlast : Region.lateT md ops late = true) : ∀ (π : List (Nat × Bool)) (listed : Array Bool) (a : Act) (w : World),
    Region.mixB md ops π listed = true → Region.endsM late π = true → Region.Closed md ops listed → (π.all (fun x => !x.2) = true ∨ D w) → wpMixM P ops D late Q π a w → wpAnyM P md ops D late Q π.length listed a w
  | [], _, _, _, hB, _, _, _, h => ⟨by simpa [Region.mixB] using hB, h⟩
  | (k, true) :: r, listed, a, w, hB, hE, hcs, hD, h => by
    have hD := hD.resolve_left (by simp)
    simp only [Region.mixB, if_true, Bool.and_eq_true] at hB
    obtain ⟨⟨hr, hf⟩, hB'⟩ := hB
    have hkl : k ∉ late ∧ Region.endsM late r = true := by
      simp only [Region.endsM, if_true, Bool.and_eq_true, Bool.not_eq_true', List.contains_eq_mem, decide_eq_false_iff_not] at hE
      exact hE
    unfold wpMixM at h
    split at h
    · exact h.elim
    · rename_i o ho
      have hk : ∃ v, YieldsJ P ops D o v a ∧ wpMixM P ops D late Q r (a.put o.dst v) w := by
        split at h
        · rename_i hw; obtain ⟨v, h1, h2⟩ := h; exact ⟨v, .inl ⟨hw, h1⟩, h2⟩
        · rename_i hw; exact ⟨undef, .inr ⟨by simpa using hw, rfl⟩, h⟩
      obtain ⟨v, hy, h2⟩ := hk
      exact wpAnyM_first hcl ho (Region.noSelect_spec hsel) hlast hkl.1 r.length listed a w (Region.free_spec ho hf) (by simpa using hr) hcs hy hD (wpAnyM_mix hcl hsel hlast r _ _ w hB' hkl.2 (hcs.set (by simpa using hr)) (.inr hD) h2)
  | (k, false) :: r, listed, a, w, hB, hE, hcs, hD, h => by
    simp only [Region.mixB, Bool.false_eq_true, if_false, Bool.and_eq_true, decide_eq_true_eq] at hB
    obtain ⟨hr, hB'⟩ := hB
    have hE' : Region.endsM late r = true ∧ (r.all (fun x => !x.2) = true ∨ k ∉ late) := by
      simp only [Region.endsM, Bool.false_eq_true, if_false, Bool.and_eq_true, Bool.or_eq_true, Bool.not_eq_true', List.contains_eq_mem, decide_eq_false_iff_not] at hE
      exact ⟨hE.2, hE.1.symm⟩
    unfold wpMixM at h
    refine ⟨fun h0 => (by rw [hr] at h0; cases h0), fun i hi w' hw' => ?_⟩
    rw [hr] at hi
    obtain rfl : i = k := by simpa using hi
    exact wpE_mono (fun a' w'' h' => ⟨h'.1, wpAnyM_mix hcl hsel hlast r _ a' w'' hB' hE'.1 (hcs.set (by rw [hr]; simp)) (hE'.2.elim .inl fun hne => .inr (h'.1.resolve_left hne)) h'.2⟩) (h w' hw')
theorem wp_region_mixm {id : Nat} {Q : Exit → Act → World → Prop} {a : Act} {w1 : World} {l : List Oper} (w : World) (late : List Nat) (π : List (Nat × Bool)) (hm : P.follows .mixedOrders = true)
    (hB : (Region.noSelect l.toArray && decide (π.length = l.length) && Region.mixB .any l.toArray π (Array.replicate l.length false) && Region.lateT .any l.toArray late && Region.endsM late π) = true) (hj : Junk w w1)
    (h : wpMixM P l.toArray (fun w' => ∃ x : Jk, w' = w.junk x.os x.d) late (fun a' w' => Q .normal a' w') π a w1.drew) : (Code.region id l.toArray true).wp P Q a w1 := by
  simp only [Bool.and_eq_true, decide_eq_true_eq] at hB
  refine wp_region_any hm (wpAny_of_M (D := fun w' => ∃ x : Jk, w' = w.junk x.os x.d) (late := late) (Q := fun a' w' => Q .normal a' w') (fun _ _ h => h) _ _ _ _ ?_)
  have := wpAnyM_mix (P := P) (md := .any) (D := fun w' => ∃ x : Jk, w' = w.junk x.os x.d) (late := late) (fun _ _ h1 h2 => InJunk.on (w := w) h1 h2) hB.1.1.1.1 hB.1.2 π _ a w1.drew hB.1.1.2 hB.2 (Region.Closed.none _) (.inr hj.drew.pair) h
  rw [hB.1.1.1.2] at this
  simpa using this
end
end Go
set_option linter.unusedVariables false
set_option maxRecDepth 100000
set_option linter.unusedSimpArgs false
namespace Go.Proofs.Ytnefphinmjeacaa
open Go.RowKit
theorem clos_src (b : Nat) (w : World) : Calls Try.prog 46 #[.pointer (some ⟨b, 0, none⟩)] w fun e w' => e = .returned (.pointer (some ⟨b, 7, none⟩)) ∧ Junk w w' := by
  go_enter Try.func46, Try.ntmps46
  go_wp2
  go_ret
  exact ⟨rfl, by (first | ((repeat (first | with_reducible exact Junk.refl _ | with_reducible exact Junk.app _ _ _ _ _ | with_reducible apply Junk.alloc | with_reducible apply Junk.junk | with_reducible apply Junk.drew | with_reducible apply Junk.drewN)); done) | ((try simp only [World.junk_junk, Array.append_assoc]); (repeat (first | with_reducible exact Junk.refl _ | with_reducible exact Junk.app _ _ _ _ _ | with_reducible exact Junk.app2 _ _ _ _ _ _ | with_reducible exact Junk.app3 _ _ _ _ _ _ _ | with_reducible exact Junk.app4 _ _ _ _ _ _ _ _ | with_reducible exact Junk.app5 _ _ _ _ _ _ _ _ _ | with_reducible apply Junk.alloc | with_reducible apply Junk.junk | with_reducible apply Junk.drew | with_reducible apply Junk.drewN))))⟩
theorem clos_dst (b : Nat) (w : World) : Calls Try.prog 78 #[.pointer (some ⟨b, 0, none⟩)] w fun e w' => e = .returned (.pointer (some ⟨b, 8, none⟩)) ∧ Junk w w' := by
  go_enter Try.func78, Try.ntmps78
  go_wp2
  go_ret
  exact ⟨rfl, by (first | ((repeat (first | with_reducible exact Junk.refl _ | with_reducible exact Junk.app _ _ _ _ _ | with_reducible apply Junk.alloc | with_reducible apply Junk.junk | with_reducible apply Junk.drew | with_reducible apply Junk.drewN)); done) | ((try simp only [World.junk_junk, Array.append_assoc]); (repeat (first | with_reducible exact Junk.refl _ | with_reducible exact Junk.app _ _ _ _ _ | with_reducible exact Junk.app2 _ _ _ _ _ _ | with_reducible exact Junk.app3 _ _ _ _ _ _ _ | with_reducible exact Junk.app4 _ _ _ _ _ _ _ _ | with_reducible exact Junk.app5 _ _ _ _ _ _ _ _ _ | with_reducible apply Junk.alloc | with_reducible apply Junk.junk | with_reducible apply Junk.drew | with_reducible apply Junk.drewN))))⟩
/-- A cell that is none of a block's stays when that block's cells become others. -/
theorem swap_cell {A : World} {cur cur' : Array Value} {t : TypeId} {o2 o3 : Obj} {os1 os : Array Obj} {d1 d : Nat} {b i : Nat} {v : Value}
    (h : (((((A.alloc (.cells cur t)).alloc o2).junk os1 d1).alloc o3).junk os d).cell? ⟨b, i, none⟩ = some v) (hs : b < (((((A.alloc (.cells cur t)).alloc o2).junk os1 d1).alloc o3).junk os d).heap.size) (hne : cur[i]? ≠ some v) :
    b < (((((A.alloc (.cells cur' t)).alloc o2).junk os1 d1).alloc o3).junk os d).heap.size ∧ (((((A.alloc (.cells cur' t)).alloc o2).junk os1 d1).alloc o3).junk os d).cell? ⟨b, i, none⟩ = some v := by
  by_cases hb : b = A.heap.size
  · subst hb
    have e1 : (⟨A.heap.size, i, none⟩ : Addr).block ≠ (((A.alloc (.cells cur t)).alloc o2).junk os1 d1).heap.size := by simp; omega
    have e2 : (⟨A.heap.size, i, none⟩ : Addr).block ≠ (A.alloc (.cells cur t)).heap.size := by simp
    rw [World.cell?_junk _ _ _ _ _ (by simp; omega), World.cell?_alloc_old (h := e1), World.cell?_junk _ _ _ _ _ (by simp; omega), World.cell?_alloc_old (h := e2), World.cell?_alloc_new] at h
    exact absurd h hne
  · refine ⟨by simpa using hs, ?_⟩
    rw [← h]
    apply World.cell?_of_block
    simp only [World.junk, World.alloc]
    simp [Array.getElem?_append, Array.getElem?_push, hb]
theorem bts_swap {A : World} {cur cur' : Array Value} {t : TypeId} {o2 o3 : Obj} {os1 os : Array Obj} {d1 d : Nat} {oa : Option Addr} {l c : Nat} {xs : Nat → Int}
    (h : Bts (((((A.alloc (.cells cur t)).alloc o2).junk os1 d1).alloc o3).junk os d) oa l c xs) (hn : ∀ (i : Nat) (v : Int), cur[i]? ≠ some (.int .u8 v)) :
    Bts (((((A.alloc (.cells cur' t)).alloc o2).junk os1 d1).alloc o3).junk os d) oa l c xs :=
  ⟨fun i hi => by
    obtain ⟨b, off, he, hlt, hc⟩ := h.at_ i hi
    obtain ⟨q1, q2⟩ := swap_cell (cur' := cur') hc hlt (hn _ _)
    exact ⟨b, off, he, q1, q2⟩, h.byte, h.nil, h.le, h.cap⟩
/-- The same for the block behind it. -/
theorem bts_swap2 {A : World} {cur cur' : Array Value} {t : TypeId} {o3 : Obj} {os1 os : Array Obj} {d1 d : Nat} {oa : Option Addr} {l c : Nat} {xs : Nat → Int}
    (h : Bts ((((A.alloc (.cells cur t)).junk os1 d1).alloc o3).junk os d) oa l c xs) (hn : ∀ (i : Nat) (v : Int), cur[i]? ≠ some (.int .u8 v)) :
    Bts ((((A.alloc (.cells cur' t)).junk os1 d1).alloc o3).junk os d) oa l c xs := by
  refine ⟨fun i hi => ?_, h.byte, h.nil, h.le, h.cap⟩
  obtain ⟨b, off, he, hlt, hc⟩ := h.at_ i hi
  by_cases hb : b = A.heap.size
  · subst hb
    have e1 : (⟨A.heap.size, off + i, none⟩ : Addr).block ≠ ((A.alloc (.cells cur t)).junk os1 d1).heap.size := by simp; omega
    rw [World.cell?_junk _ _ _ _ _ (by simp; omega), World.cell?_alloc_old (h := e1), World.cell?_junk _ _ _ _ _ (by simp), World.cell?_alloc_new] at hc
    exact absurd hc (hn _ _)
  · refine ⟨b, off, he, by simpa using hlt, ?_⟩
    rw [← hc]
    apply World.cell?_of_block
    simp only [World.junk, World.alloc]
    simp [Array.getElem?_append, Array.getElem?_push, hb]
/-- The cells of a packet's block hold no byte. -/
theorem ip_nb (a0 a1 a4 a5 a6 a7 a8 : Int) (a2 a3 : Bool) (oo ob : Option Addr) (l1 c1 l2 c2 : Nat) : ∀ (i : Nat) (v : Int), (#[.int .i64 a0, .int .i64 a1, .bool a2, .bool a3, .int .i64 a4, .int .i64 a5, .int .i64 a6, .int .u32 a7, .int .u32 a8, .slice oo l1 c1, .slice ob l2 c2] : Array Value)[i]? ≠ some (.int .u8 v) := by
  intro i v h
  rcases i with _ | _ | _ | _ | _ | _ | _ | _ | _ | _ | _ | i <;> simp at h
end Go.Proofs.Ytnefphinmjeacaa
