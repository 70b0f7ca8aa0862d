/- reasm.add, first half: the piece's run is put between the others. -/
import Derived.Test.YtgjppmkadmfibaaRsJ
import Derived.Test.YtgjppmkadmfibaaRsL
import Derived.Test.YtgjppmkadmfibaaRsP
import Derived.Test.YtgjppmkadmfibaaIcmpAwake
set_option linter.unusedVariables false
set_option maxRecDepth 100000
set_option linter.unusedSimpArgs false
namespace Go.Proofs.Ytgjppmkadmfibaa
open Go.RowKit
def insOd : List Od → Od → List Od
  | [], r => [r]
  | f :: F, r => if f.k < r.k then f :: insOd F r else r :: f :: F
def addQ (b : Bq) (x : Ip) : Bq := { b with runs := insOd b.runs ⟨x.off, x.bl, x.body⟩, total := if x.mf then b.total else x.off + x.bl, first := b.first || (x.off == 0), head := if x.off = 0 then headI x else b.head }
theorem insL_d {t : Ot} : ∀ {L : List Ot} {k : Nat}, OtPos L t k → (insL L k t).map Ot.d = insOd (L.map Ot.d) t.d
  | [], k, h => by
    have := h.le
    simp only [List.length_nil, Nat.le_zero_eq] at this
    subst this
    rfl
  | x :: L, 0, h => by
    have h1 := h.high 0 (Nat.le_refl _) x rfl
    unfold insL
    simp only [List.take_zero, List.drop_zero, List.nil_append, List.map_cons, insOd]
    rw [if_neg (show ¬ (Ot.d x).k < (Ot.d t).k from by show ¬ x.k < t.k; omega)]
  | x :: L, k + 1, h => by
    have h1 := h.low 0 (by omega) x rfl
    have ih := insL_d (t := t) (L := L) (k := k) ⟨by have := h.le; simpa using this, fun m hm y hy => h.low (m + 1) (by omega) y hy, fun m hm y hy => h.high (m + 1) (by omega) y hy⟩
    unfold insL at ih ⊢
    simp only [List.take_succ_cons, List.drop_succ_cons, List.cons_append, List.map_cons, insOd]
    rw [if_pos (show (Ot.d x).k < (Ot.d t).k from h1), ih]
theorem three_box (w : World) (A B C : Obj) : (((w.alloc A).alloc B).alloc C).heap[w.heap.size]? = some A ∧ (((w.alloc A).alloc B).alloc C).heap[w.heap.size + 1]? = some B ∧ (((w.alloc A).alloc B).alloc C).heap[w.heap.size + 2]? = some C := by
  refine ⟨?_, ?_, ?_⟩
  · show (((w.heap.push A).push B).push C)[w.heap.size]? = some A
    rw [Array.getElem?_push, if_neg (by simp; try omega), Array.getElem?_push, if_neg (by simp), Array.getElem?_push, if_pos rfl]
  · show (((w.heap.push A).push B).push C)[w.heap.size + 1]? = some B
    rw [Array.getElem?_push, if_neg (by simp), Array.getElem?_push, if_pos (by simp)]
  · show (((w.heap.push A).push B).push C)[w.heap.size + 2]? = some C
    rw [Array.getElem?_push, if_pos (by simp)]
theorem box3 (w : World) (A B C : Array Value) (tA tB tC : TypeId) : Box (((w.alloc (.cells A tA)).alloc (.cells B tB)).alloc (.cells C tC)) w.heap.size tA A.toList ∧ Box (((w.alloc (.cells A tA)).alloc (.cells B tB)).alloc (.cells C tC)) (w.heap.size + 1) tB B.toList ∧ Box (((w.alloc (.cells A tA)).alloc (.cells B tB)).alloc (.cells C tC)) (w.heap.size + 2) tC C.toList := by
  unfold Box
  simp only [Array.toArray_toList]
  exact three_box w _ _ _
theorem row_ne {ro : Option Addr} {m : Nat} (h : ∀ a, ro = some a → a.block < m) (g : Nat) (hg : m ≤ g) : some g ≠ rowOf ro := fun he => by
  cases hro : ro with
  | none => rw [hro] at he; cases he
  | some a =>
    rw [hro] at he
    have h1 := h a hro
    have h2 : g = a.block := Option.some.inj he
    omega
set_option maxHeartbeats 8000000 in
theorem rhead2_any (p : Ip) (oo ob : Option Addr) (oc bc : Nat) (w : World) (hl : p.ol ≤ 100000000) (hP : IpAt w p oo oc ob bc) :
    Calls Try.prog 56 #[.agg #[.int .i64 p.tos, .int .i64 p.id, .bool p.df, .bool p.mf, .int .i64 p.off, .int .i64 p.ttl, .int .i64 p.proto, .int .u32 p.src, .int .u32 p.dst, .slice oo p.ol oc, .slice ob p.bl bc]] w fun e w' => ∃ (o1 : Option Addr) (c1 : Nat), e = .returned (.agg #[.int .i64 (headI p).tos, .int .i64 (headI p).id, .bool (headI p).df, .bool (headI p).mf, .int .i64 (headI p).off, .int .i64 (headI p).ttl, .int .i64 (headI p).proto, .int .u32 (headI p).src, .int .u32 (headI p).dst, .slice o1 (headI p).ol c1, .slice none (headI p).bl 0]) ∧ Junk w w' ∧ IpAt w' (headI p) o1 c1 none 0 ∧ Fresh w.heap.size o1 := by
  have HP := Lib.hid hP
  clear hP
  go_enter Try.func56, Try.ntmps56
  go_wp2_with (first
    | (go_at_call 24; refine (clone_any oo p.ol oc p.opts _ hl (HP.out.opts.on (by (exact jkc)))).mono ?_; rintro e w' ⟨o1, c1, rfl, ⟨osj, dj, rfl⟩, hcb, hcn, hcf⟩; have Hcb := Lib.hid hcb; have Hcf := Lib.hid hcf; clear hcb hcn hcf))
  go_returns
  refine ⟨o1, c1, rfl, by (exact jkc), ⟨?_, bts_noneR _ _, HP.out.src, HP.out.dst⟩, fun a ha => by have := Hcf.out a ha; simp at this; omega⟩
  exact bts_overR Hcb.out (by have := Hcf.out; simpa using this) ⟨#[], by simp⟩
/-- No slice of the buffer lies in that block. -/
structure BfOff (r : Nat) (b : Bf) : Prop where
  opts : Go.Off (some r) b.ho b.head.ol
  body : Go.Off (some r) b.hb b.head.bl
  row : rowOf b.ro ≠ some r
  data : ∀ f ∈ b.F, Go.Off (some r) f.oa f.l
theorem BfIn.grown {w w' : World} {b : Bf} {r : Nat} (h : BfIn w b) (hg : w.grownBy w' (some r)) (ho : BfOff r b) : BfIn w' b := by
  refine ⟨⟨h.head.opts.grown hg ho.opts, h.head.body.grown hg ho.body, h.head.src, h.head.dst⟩, fun i f hf => ?_, h.nil, h.cap, h.max⟩
  obtain ⟨g, off, he, hlt, c0, c1, hb⟩ := h.runs i f hf
  have hne : some g ≠ some r := fun e => ho.row (by rw [he]; exact e)
  exact ⟨g, off, he, Nat.lt_of_lt_of_le hlt hg.size, hg.cell c0 hne, hg.cell c1 hne, hb.grown hg (ho.data f (List.mem_of_getElem? hf))⟩
/-- What is kept behind the insertion. -/
structure AdK (W0 w V : World) (b : Bf) (n : Nat) (p : Ip) (oq : Option Addr) (cq : Nat) (F2 : List Ot) : Prop where
  junk : Junk W0 V
  grown : w.grownBy V (rowOf b.ro)
  own : Own W0.heap.size V 72 2 oq cq (n + 1) (otsL F2)
  data : ∀ f ∈ F2, Bts V f.oa f.l f.c f.xs
  far : rowOf oq = rowOf b.ro ∨ ∀ a, oq = some a → w.heap.size + 3 ≤ a.block
  rl : ∀ a, b.ro = some a → a.block < w.heap.size
  dfar : ∀ f ∈ F2, (f ∈ b.F ∧ (0 < f.l → ∀ a, f.oa = some a → a.block < w.heap.size)) ∨ ∀ a, f.oa = some a → w.heap.size + 3 ≤ a.block
  runs : F2.map Ot.d = insOd (b.F.map Ot.d) ⟨p.off, p.bl, p.body⟩
theorem AdK.on {W0 w V V' : World} {b : Bf} {n : Nat} {p : Ip} {oq : Option Addr} {cq : Nat} {F2 : List Ot} (h : AdK W0 w V b n p oq cq F2) (hj : Junk V V') : AdK W0 w V' b n p oq cq F2 :=
  ⟨h.junk.trans hj, grown_tr h.grown (grown_junk hj _), h.own.on hj, fun f hf => (h.data f hf).on hj, h.far, h.rl, h.dfar, h.runs⟩
theorem AdK.store {W0 w V V' : World} {b : Bf} {n : Nat} {p : Ip} {oq : Option Addr} {cq : Nat} {F2 : List Ot} (h : AdK W0 w V b n p oq cq F2) (h0 : Junk W0 w) {r : Nat} (hg : V.grownBy V' (some r)) (h1 : w.heap.size ≤ r) (h2 : r < w.heap.size + 3) : AdK W0 w V' b n p oq cq F2 :=
  ⟨below_of_grown h.junk hg (fun k hk => by cases hk; have := h0.size; omega), grown_past h.grown hg h1, own_grownR h.own hg (fun k hk a ha => by
    cases hk
    rcases h.far with hf | hf
    · rw [ha] at hf
      exact fun e => row_ne h.rl r (by omega) (by rw [← hf, e]; rfl)
    · have := hf a ha; omega), fun f hf => (h.data f hf).grown hg (fun hl a ha he => by
    have h4 : a.block = r := Option.some.inj he
    rcases h.dfar f hf with ⟨_, h3⟩ | h3
    · have := h3 hl a ha; omega
    · have := h3 a ha; omega), h.far, h.rl, h.dfar, h.runs⟩
theorem AdK.offrow {W0 w V : World} {b : Bf} {n : Nat} {p : Ip} {oq : Option Addr} {cq : Nat} {F2 : List Ot} (h : AdK W0 w V b n p oq cq F2) {r : Nat} (hr : r < w.heap.size) (hb : BfOff r b) : rowOf oq ≠ some r := by
  rcases h.far with hf | hf
  · rw [hf]; exact hb.row
  · intro he
    cases ho : oq with
    | none => rw [ho] at he; cases he
    | some a =>
      rw [ho] at he
      have h1 : a.block = r := Option.some.inj he
      have := hf a ho
      omega
theorem AdK.offdata {W0 w V : World} {b : Bf} {n : Nat} {p : Ip} {oq : Option Addr} {cq : Nat} {F2 : List Ot} (h : AdK W0 w V b n p oq cq F2) {r : Nat} (hr : r < w.heap.size) (hb : BfOff r b) : ∀ f ∈ F2, Go.Off (some r) f.oa f.l := fun f hf => by
  rcases h.dfar f hf with ⟨h1, _⟩ | h1
  · exact hb.data f h1
  · intro _ a ha he
    have h2 : a.block = r := Option.some.inj he
    have := h1 a ha
    omega
/-- What stands behind the insertion. -/
structure AdW (W0 w V : World) (b : Bf) (n : Nat) (p : Ip) (oo ob : Option Addr) (oc bc : Nat) (gr : Nat) (o1 : Option Addr) (c1 : Nat) (oq : Option Addr) (cq : Nat) (F2 : List Ot) (T : Int) : Prop where
  box : Box V w.heap.size 45 [.int .u32 b.src, .int .u32 b.dst, .int .i64 b.id, .int .i64 b.proto, .int .i64 b.born, .int .i64 b.head.tos, .int .i64 b.head.id, .bool b.head.df, .bool b.head.mf, .int .i64 b.head.off, .int .i64 b.head.ttl, .int .i64 b.head.proto, .int .u32 b.head.src, .int .u32 b.head.dst, .slice b.ho b.head.ol b.hoc, .slice b.hb b.head.bl b.hbc, .bool b.first, .int .i64 T, .slice oq (n + 1) cq]
  ipb : Box V (w.heap.size + 1) 25 [.int .i64 p.tos, .int .i64 p.id, .bool p.df, .bool p.mf, .int .i64 p.off, .int .i64 p.ttl, .int .i64 p.proto, .int .u32 p.src, .int .u32 p.dst, .slice oo p.ol oc, .slice ob p.bl bc]
  res : Box V (w.heap.size + 2) 45 [.int .u32 0, .int .u32 0, .int .i64 0, .int .i64 0, .int .i64 0, .int .i64 0, .int .i64 0, .bool false, .bool false, .int .i64 0, .int .i64 0, .int .i64 0, .int .u32 0, .int .u32 0, .slice none 0 0, .slice none 0 0, .bool false, .int .i64 0, .slice none 0 0]
  run : Box V gr 72 [.int .i64 p.off, .slice o1 p.bl c1]
  k : AdK W0 w V b n p oq cq F2
  gr3 : w.heap.size + 3 ≤ gr
theorem AdW.on {W0 w V V' : World} {b : Bf} {n : Nat} {p : Ip} {oo ob : Option Addr} {oc bc gr : Nat} {o1 : Option Addr} {c1 : Nat} {oq : Option Addr} {cq : Nat} {F2 : List Ot} {T : Int} (h : AdW W0 w V b n p oo ob oc bc gr o1 c1 oq cq F2 T) (hj : Junk V V') : AdW W0 w V' b n p oo ob oc bc gr o1 c1 oq cq F2 T :=
  ⟨h.box.on hj, h.ipb.on hj, h.res.on hj, h.run.on hj, h.k.on hj, h.gr3⟩
theorem AdW.setT {W0 w V : World} {b : Bf} {n : Nat} {p : Ip} {oo ob : Option Addr} {oc bc gr : Nat} {o1 : Option Addr} {c1 : Nat} {oq : Option Addr} {cq : Nat} {F2 : List Ot} {T : Int} (h : AdW W0 w V b n p oo ob oc bc gr o1 c1 oq cq F2 T) (h0 : Junk W0 w) (T' : Int) : AdW W0 w (V.setCell ⟨w.heap.size, 17, none⟩ (.int .i64 T')) b n p oo ob oc bc gr o1 c1 oq cq F2 T' :=
  ⟨h.box.set 17 _, h.ipb.far (by simp) _, h.res.far (by simp) _, h.run.far (by have := h.gr3; simp only; omega) _, h.k.store h0 (grown_set V ⟨w.heap.size, 17, none⟩ _) (Nat.le_refl _) (by simp only; omega), h.gr3⟩
theorem mem_insL {L : List Ot} {k : Nat} {t f : Ot} (h : f ∈ insL L k t) : f = t ∨ f ∈ L := by
  unfold insL at h
  rcases List.mem_append.1 h with h | h
  · exact .inr (List.mem_of_mem_take h)
  · rcases List.mem_cons.1 h with h | h
    · exact .inl h
    · exact .inr (List.mem_of_mem_drop h)
/-- .. it is so. -/
theorem adw_mk {W0 w V U w4 : World} {b : Bf} {n : Nat} {p : Ip} {oo ob : Option Addr} {oc bc gr : Nat} {o1 : Option Addr} {c1 : Nat} {oq : Option Addr} {cq k : Nat}
    (hj0 : Junk W0 w) (hn : b.F.length = n) (hd : ∀ f ∈ b.F, Bts w f.oa f.l f.c f.xs ∧ Go.Off (rowOf b.ro) f.oa f.l) (hrl : ∀ a, b.ro = some a → a.block < w.heap.size)
    (hj3 : Junk (((w.alloc (.cells #[.int .u32 b.src, .int .u32 b.dst, .int .i64 b.id, .int .i64 b.proto, .int .i64 b.born, .int .i64 b.head.tos, .int .i64 b.head.id, .bool b.head.df, .bool b.head.mf, .int .i64 b.head.off, .int .i64 b.head.ttl, .int .i64 b.head.proto, .int .u32 b.head.src, .int .u32 b.head.dst, .slice b.ho b.head.ol b.hoc, .slice b.hb b.head.bl b.hbc, .bool b.first, .int .i64 b.total, .slice b.ro n b.rc] 45)).alloc (.cells #[.int .i64 p.tos, .int .i64 p.id, .bool p.df, .bool p.mf, .int .i64 p.off, .int .i64 p.ttl, .int .i64 p.proto, .int .u32 p.src, .int .u32 p.dst, .slice oo p.ol oc, .slice ob p.bl bc] 25)).alloc (.cells #[.int .u32 0, .int .u32 0, .int .i64 0, .int .i64 0, .int .i64 0, .int .i64 0, .int .i64 0, .bool false, .bool false, .int .i64 0, .int .i64 0, .int .i64 0, .int .u32 0, .int .u32 0, .slice none 0 0, .slice none 0 0, .bool false, .int .i64 0, .slice none 0 0] 45)) V) (hrun : Box V gr 72 [.int .i64 p.off, .slice o1 p.bl c1]) (hb1 : Bts V o1 p.bl c1 p.body) (hf1 : Fresh (w.heap.size + 3) o1) (hgr : w.heap.size + 3 ≤ gr)
    (hjU : Junk V U) (hj4 : Junk W0 w4) (ho4 : Own W0.heap.size w4 72 2 oq cq (n + 1) (otsL (insL b.F k ⟨p.off, o1, p.bl, c1, p.body⟩))) (hg4 : U.grownBy w4 (rowOf b.ro)) (hrow : rowOf oq = rowOf b.ro ∨ ∀ a, oq = some a → U.heap.size ≤ a.block) (hpos : OtPos b.F ⟨p.off, o1, p.bl, c1, p.body⟩ k) :
    AdW W0 w (w4.setCell ⟨w.heap.size, 18, none⟩ (.slice oq (n + 1) cq)) b n p oo ob oc bc gr o1 c1 oq cq (insL b.F k ⟨p.off, o1, p.bl, c1, p.body⟩) b.total := by
  have h3 := box3 w #[.int .u32 b.src, .int .u32 b.dst, .int .i64 b.id, .int .i64 b.proto, .int .i64 b.born, .int .i64 b.head.tos, .int .i64 b.head.id, .bool b.head.df, .bool b.head.mf, .int .i64 b.head.off, .int .i64 b.head.ttl, .int .i64 b.head.proto, .int .u32 b.head.src, .int .u32 b.head.dst, .slice b.ho b.head.ol b.hoc, .slice b.hb b.head.bl b.hbc, .bool b.first, .int .i64 b.total, .slice b.ro n b.rc] #[.int .i64 p.tos, .int .i64 p.id, .bool p.df, .bool p.mf, .int .i64 p.off, .int .i64 p.ttl, .int .i64 p.proto, .int .u32 p.src, .int .u32 p.dst, .slice oo p.ol oc, .slice ob p.bl bc] #[.int .u32 0, .int .u32 0, .int .i64 0, .int .i64 0, .int .i64 0, .int .i64 0, .int .i64 0, .bool false, .bool false, .int .i64 0, .int .i64 0, .int .i64 0, .int .u32 0, .int .u32 0, .slice none 0 0, .slice none 0 0, .bool false, .int .i64 0, .slice none 0 0] 45 25 45
  have hw3 : ((((w.alloc (.cells #[.int .u32 b.src, .int .u32 b.dst, .int .i64 b.id, .int .i64 b.proto, .int .i64 b.born, .int .i64 b.head.tos, .int .i64 b.head.id, .bool b.head.df, .bool b.head.mf, .int .i64 b.head.off, .int .i64 b.head.ttl, .int .i64 b.head.proto, .int .u32 b.head.src, .int .u32 b.head.dst, .slice b.ho b.head.ol b.hoc, .slice b.hb b.head.bl b.hbc, .bool b.first, .int .i64 b.total, .slice b.ro n b.rc] 45)).alloc (.cells #[.int .i64 p.tos, .int .i64 p.id, .bool p.df, .bool p.mf, .int .i64 p.off, .int .i64 p.ttl, .int .i64 p.proto, .int .u32 p.src, .int .u32 p.dst, .slice oo p.ol oc, .slice ob p.bl bc] 25)).alloc (.cells #[.int .u32 0, .int .u32 0, .int .i64 0, .int .i64 0, .int .i64 0, .int .i64 0, .int .i64 0, .bool false, .bool false, .int .i64 0, .int .i64 0, .int .i64 0, .int .u32 0, .int .u32 0, .slice none 0 0, .slice none 0 0, .bool false, .int .i64 0, .slice none 0 0] 45))).heap.size = w.heap.size + 3 := by simp
  have hsV := hj3.size
  rw [hw3] at hsV
  have hsU := hjU.size
  have hJw : Junk w V := (show Junk w (((w.alloc (.cells #[.int .u32 b.src, .int .u32 b.dst, .int .i64 b.id, .int .i64 b.proto, .int .i64 b.born, .int .i64 b.head.tos, .int .i64 b.head.id, .bool b.head.df, .bool b.head.mf, .int .i64 b.head.off, .int .i64 b.head.ttl, .int .i64 b.head.proto, .int .u32 b.head.src, .int .u32 b.head.dst, .slice b.ho b.head.ol b.hoc, .slice b.hb b.head.bl b.hbc, .bool b.first, .int .i64 b.total, .slice b.ro n b.rc] 45)).alloc (.cells #[.int .i64 p.tos, .int .i64 p.id, .bool p.df, .bool p.mf, .int .i64 p.off, .int .i64 p.ttl, .int .i64 p.proto, .int .u32 p.src, .int .u32 p.dst, .slice oo p.ol oc, .slice ob p.bl bc] 25)).alloc (.cells #[.int .u32 0, .int .u32 0, .int .i64 0, .int .i64 0, .int .i64 0, .int .i64 0, .int .i64 0, .bool false, .bool false, .int .i64 0, .int .i64 0, .int .i64 0, .int .u32 0, .int .u32 0, .slice none 0 0, .slice none 0 0, .bool false, .int .i64 0, .slice none 0 0] 45)) by (exact jkc)).trans hj3
  have hne : ∀ g, w.heap.size ≤ g → some g ≠ rowOf b.ro := fun g hg he => by
    cases hro : b.ro with
    | none => rw [hro] at he; cases he
    | some a =>
      rw [hro] at he
      have h1 := hrl a hro
      have h2 : g = a.block := Option.some.inj he
      omega
  have B0 := ((h3.1.on hj3).on hjU).grown hg4 (hne _ (by omega))
  have B1 := ((h3.2.1.on hj3).on hjU).grown hg4 (hne _ (by omega))
  have B2 := ((h3.2.2.on hj3).on hjU).grown hg4 (hne _ (by omega))
  have BR := (hrun.on hjU).grown hg4 (hne _ (by omega))
  have hgs := grown_set w4 ⟨w.heap.size, 18, none⟩ (.slice oq (n + 1) cq)
  have hoq : ∀ a, oq = some a → w.heap.size ≠ a.block := fun a ha he => by
    rcases hrow with h | h
    · rw [ha] at h
      exact hne a.block (by omega) h
    · have := h a ha; omega
  refine ⟨B0.set 18 _, B1.far (by simp) _, B2.far (by simp) _, BR.far (by simp only; omega) _, ⟨hj4.setCell (a := ⟨w.heap.size, 18, none⟩) hj0.size _, grown_past (grown_tr (grown_junk (hJw.trans hjU) _) hg4) hgs (Nat.le_refl _), own_grownR ho4 hgs (fun q hq a ha => by cases hq; exact hoq a ha), fun f hf => ?_, ?_, hrl, fun f hf => ?_, insL_d hpos⟩, hgr⟩
  · rcases mem_insL hf with rfl | hf
    · refine ((hb1.on hjU).grown hg4 (fun _ a ha he => hne a.block (by have := hf1 a ha; omega) he)).grown hgs (fun _ a ha he => ?_)
      have h1 := hf1 a ha
      have h2 : a.block = w.heap.size := Option.some.inj he
      omega
    · have h1 := hd f hf
      refine ((h1.1.on (hJw.trans hjU)).grown hg4 h1.2).grown hgs (fun hl a ha he => ?_)
      have h4 := h1.1.below hl a ha
      have h2 : a.block = w.heap.size := Option.some.inj he
      omega
  · rcases hrow with h | h
    · exact .inl h
    · exact .inr (fun a ha => by have := h a ha; omega)
  · rcases mem_insL hf with rfl | hf
    · right; exact hf1
    · left; exact ⟨hf, (hd f hf).1.below⟩
/-- A buffer with a piece more. -/
def AddM (W0 w : World) (b : Bf) (p : Ip) (e : Ending) (w' : World) : Prop := ∃ b2 : Bf, e = .returned (.agg b2.cells.toArray) ∧ b2.q = addQ b.q p ∧ Junk W0 w' ∧ w.grownBy w' (rowOf b.ro) ∧ BfIn w' b2 ∧ ∀ r, r < w.heap.size → BfOff r b → BfOff r b2
set_option maxRecDepth 100000 in
set_option maxHeartbeats 32000000 in
theorem add_any (b : Bf) (n : Nat) (p : Ip) (oo ob : Option Addr) (oc bc : Nat) (W0 w : World) (hj : Junk W0 w) (hn : b.F.length = n) (hn6 : n ≤ 1000000) (hown : Own W0.heap.size w 72 2 b.ro b.rc n (otsL b.F)) (hd : ∀ f ∈ b.F, Bts w f.oa f.l f.c f.xs ∧ Go.Off (rowOf b.ro) f.oa f.l) (hs : OtSorted b.F) (hP : IpAt W0 p oo oc ob bc) (hbl : p.bl ≤ 1000000) (hoff : 0 ≤ p.off ∧ p.off ≤ 1000000) (hol : p.ol ≤ 1000000) (hH : IpAt w b.head b.ho b.hoc b.hb b.hbc) (hH1 : Go.Off (rowOf b.ro) b.ho b.head.ol) (hH2 : Go.Off (rowOf b.ro) b.hb b.head.bl) :
    Calls Try.prog 31 #[.agg #[.int .u32 b.src, .int .u32 b.dst, .int .i64 b.id, .int .i64 b.proto, .int .i64 b.born, .int .i64 b.head.tos, .int .i64 b.head.id, .bool b.head.df, .bool b.head.mf, .int .i64 b.head.off, .int .i64 b.head.ttl, .int .i64 b.head.proto, .int .u32 b.head.src, .int .u32 b.head.dst, .slice b.ho b.head.ol b.hoc, .slice b.hb b.head.bl b.hbc, .bool b.first, .int .i64 b.total, .slice b.ro n b.rc], .agg #[.int .i64 p.tos, .int .i64 p.id, .bool p.df, .bool p.mf, .int .i64 p.off, .int .i64 p.ttl, .int .i64 p.proto, .int .u32 p.src, .int .u32 p.dst, .slice oo p.ol oc, .slice ob p.bl bc]] w (AddM W0 w b p) := by
  have HJ := Lib.hid hj
  have HN := Lib.hid hn
  have HO := Lib.hid hown
  have HD := Lib.hid hd
  have HS := Lib.hid hs
  have HP := Lib.hid hP
  have HCO := Lib.hid (fun w1 (hj2 : Junk W0 w1) => clone_any ob p.bl bc p.body w1 (by omega) (hP.body.on hj2))
  have HH := Lib.hid (And.intro hH (And.intro hH1 hH2))
  clear hj hn hown hd hs hP hH hH1 hH2
  go_enter Try.func31, Try.ntmps31
  go_upto_region 1 with (fail)
  have HJ3 := Lib.hid (HJ.out.trans (show Junk w (((w.alloc (.cells #[.int .u32 b.src, .int .u32 b.dst, .int .i64 b.id, .int .i64 b.proto, .int .i64 b.born, .int .i64 b.head.tos, .int .i64 b.head.id, .bool b.head.df, .bool b.head.mf, .int .i64 b.head.off, .int .i64 b.head.ttl, .int .i64 b.head.proto, .int .u32 b.head.src, .int .u32 b.head.dst, .slice b.ho b.head.ol b.hoc, .slice b.hb b.head.bl b.hbc, .bool b.first, .int .i64 b.total, .slice b.ro n b.rc] 45)).alloc (.cells #[.int .i64 p.tos, .int .i64 p.id, .bool p.df, .bool p.mf, .int .i64 p.off, .int .i64 p.ttl, .int .i64 p.proto, .int .u32 p.src, .int .u32 p.dst, .slice oo p.ol oc, .slice ob p.bl bc] 25)).alloc (.cells #[.int .u32 0, .int .u32 0, .int .i64 0, .int .i64 0, .int .i64 0, .int .i64 0, .int .i64 0, .bool false, .bool false, .int .i64 0, .int .i64 0, .int .i64 0, .int .u32 0, .int .u32 0, .slice none 0 0, .slice none 0 0, .bool false, .int .i64 0, .slice none 0 0] 45)) by (exact jkc)))
  refine wp_region_mixTj ((((w.alloc (.cells #[.int .u32 b.src, .int .u32 b.dst, .int .i64 b.id, .int .i64 b.proto, .int .i64 b.born, .int .i64 b.head.tos, .int .i64 b.head.id, .bool b.head.df, .bool b.head.mf, .int .i64 b.head.off, .int .i64 b.head.ttl, .int .i64 b.head.proto, .int .u32 b.head.src, .int .u32 b.head.dst, .slice b.ho b.head.ol b.hoc, .slice b.hb b.head.bl b.hbc, .bool b.first, .int .i64 b.total, .slice b.ro n b.rc] 45)).alloc (.cells #[.int .i64 p.tos, .int .i64 p.id, .bool p.df, .bool p.mf, .int .i64 p.off, .int .i64 p.ttl, .int .i64 p.proto, .int .u32 p.src, .int .u32 p.dst, .slice oo p.ol oc, .slice ob p.bl bc] 25)).alloc (.cells #[.int .u32 0, .int .u32 0, .int .i64 0, .int .i64 0, .int .i64 0, .int .i64 0, .int .i64 0, .bool false, .bool false, .int .i64 0, .int .i64 0, .int .i64 0, .int .u32 0, .int .u32 0, .slice none 0 0, .slice none 0 0, .bool false, .int .i64 0, .slice none 0 0] 45))) (.q 0 (.q 1 (.q 2 (.q 3 (.two 4 (.q 5 (.e 6 (.e 7 .nil))) 6 (.e 4 (.q 5 (.e 7 .nil)))))))) (by kernel_rfl) (by kernel_rfl) (by (exact jkc)) ?_; refine wpMixT_q rfl (fun K hK => ?_); (go_simp; try go_bits); (refine hK _ ?_; clear hK K); refine wpMixT_q rfl (fun K hK => ?_); (go_simp; try go_bits); (refine hK _ ?_; clear hK K); refine wpMixT_q rfl (fun K hK => ?_); (go_simp; try go_bits); (refine hK _ ?_; clear hK K); refine wpMixT_q rfl (fun K hK => ?_); (go_simp; try go_bits); (refine hK _ ?_; clear hK K); refine wpMixT_two ?_ ?_; refine wpMixT_e rfl (fun osm1_0 dm1_0 K hK => ?_); (go_simp; try go_bits); (go_at_call 24; (with_reducible refine (HCO.out _ (HJ3.out.trans (by (exact jkc)))).mono ?_); rintro e w' ⟨o1, c1, rfl, ⟨osc, dc, rfl⟩, hcb, hcn, hcf⟩; have HCB := Lib.hid hcb; have HCF := Lib.hid hcf; clear hcb hcn hcf); refine hK _ _ (Junk.pair (by (first | exact jkc | repeat (first | with_reducible exact Junk.refl _ | with_reducible exact Junk.app _ _ _ _ _ | with_reducible apply Junk.alloc | with_reducible apply Junk.junk | with_reducible apply Junk.drew | with_reducible apply Junk.drewN | (with_reducible refine Junk.setCell ?_ (by simp) _))))) ?_; clear hK K; refine wpMixT_q rfl (fun K hK => ?_); (go_simp; try go_bits); (refine hK _ ?_; clear hK K); refine wpMixT_e rfl (fun osm1_1 dm1_1 K hK => ?_); (go_simp; try go_bits); refine hK _ _ (Junk.pair (by (first | exact jkc | repeat (first | with_reducible exact Junk.refl _ | with_reducible exact Junk.app _ _ _ _ _ | with_reducible apply Junk.alloc | with_reducible apply Junk.junk | with_reducible apply Junk.drew | with_reducible apply Junk.drewN | (with_reducible refine Junk.setCell ?_ (by simp) _))))) ?_; clear hK K; refine wpMixT_e rfl (fun osm1_2 dm1_2 K hK => ?_); (go_simp; try go_bits); refine hK _ _ (Junk.pair (by (first | exact jkc | repeat (first | with_reducible exact Junk.refl _ | with_reducible exact Junk.app _ _ _ _ _ | with_reducible apply Junk.alloc | with_reducible apply Junk.junk | with_reducible apply Junk.drew | with_reducible apply Junk.drewN | (with_reducible refine Junk.setCell ?_ (by simp) _))))) ?_; clear hK K; refine wpMixT_nil (fun osm dm => ?_); rotate_left; refine wpMixT_e rfl (fun osm1_3 dm1_3 K hK => ?_); (go_simp; try go_bits); refine hK _ _ (Junk.pair (by (first | exact jkc | repeat (first | with_reducible exact Junk.refl _ | with_reducible exact Junk.app _ _ _ _ _ | with_reducible apply Junk.alloc | with_reducible apply Junk.junk | with_reducible apply Junk.drew | with_reducible apply Junk.drewN | (with_reducible refine Junk.setCell ?_ (by simp) _))))) ?_; clear hK K; refine wpMixT_e rfl (fun osm1_4 dm1_4 K hK => ?_); (go_simp; try go_bits); (go_at_call 24; (with_reducible refine (HCO.out _ (HJ3.out.trans (by (exact jkc)))).mono ?_); rintro e w' ⟨o1, c1, rfl, ⟨osc, dc, rfl⟩, hcb, hcn, hcf⟩; have HCB := Lib.hid hcb; have HCF := Lib.hid hcf; clear hcb hcn hcf); refine hK _ _ (Junk.pair (by (first | exact jkc | repeat (first | with_reducible exact Junk.refl _ | with_reducible exact Junk.app _ _ _ _ _ | with_reducible apply Junk.alloc | with_reducible apply Junk.junk | with_reducible apply Junk.drew | with_reducible apply Junk.drewN | (with_reducible refine Junk.setCell ?_ (by simp) _))))) ?_; clear hK K; refine wpMixT_q rfl (fun K hK => ?_); (go_simp; try go_bits); (refine hK _ ?_; clear hK K); refine wpMixT_e rfl (fun osm1_5 dm1_5 K hK => ?_); (go_simp; try go_bits); refine hK _ _ (Junk.pair (by (first | exact jkc | repeat (first | with_reducible exact Junk.refl _ | with_reducible exact Junk.app _ _ _ _ _ | with_reducible apply Junk.alloc | with_reducible apply Junk.junk | with_reducible apply Junk.drew | with_reducible apply Junk.drewN | (with_reducible refine Junk.setCell ?_ (by simp) _))))) ?_; clear hK K; refine wpMixT_nil (fun osm dm => ?_)
  go_upto_region 2 with (fail)
  refine wp_genX (fun V => Junk (((w.alloc (.cells #[.int .u32 b.src, .int .u32 b.dst, .int .i64 b.id, .int .i64 b.proto, .int .i64 b.born, .int .i64 b.head.tos, .int .i64 b.head.id, .bool b.head.df, .bool b.head.mf, .int .i64 b.head.off, .int .i64 b.head.ttl, .int .i64 b.head.proto, .int .u32 b.head.src, .int .u32 b.head.dst, .slice b.ho b.head.ol b.hoc, .slice b.hb b.head.bl b.hbc, .bool b.first, .int .i64 b.total, .slice b.ro n b.rc] 45)).alloc (.cells #[.int .i64 p.tos, .int .i64 p.id, .bool p.df, .bool p.mf, .int .i64 p.off, .int .i64 p.ttl, .int .i64 p.proto, .int .u32 p.src, .int .u32 p.dst, .slice oo p.ol oc, .slice ob p.bl bc] 25)).alloc (.cells #[.int .u32 0, .int .u32 0, .int .i64 0, .int .i64 0, .int .i64 0, .int .i64 0, .int .i64 0, .bool false, .bool false, .int .i64 0, .int .i64 0, .int .i64 0, .int .u32 0, .int .u32 0, .slice none 0 0, .slice none 0 0, .bool false, .int .i64 0, .slice none 0 0] 45)) V ∧ V.heap[w.heap.size + 1 + 1 + 1 + osm1_3.size]? = some (.cells #[.int .i64 p.off, .slice o1 p.bl c1] 72) ∧ Bts V o1 p.bl c1 p.body ∧ Fresh (w.heap.size + 3) o1 ∧ w.heap.size + 3 ≤ w.heap.size + 1 + 1 + 1 + osm1_3.size) ⟨by (exact jkc), heap_on (show (((((w.alloc (.cells #[.int .u32 b.src, .int .u32 b.dst, .int .i64 b.id, .int .i64 b.proto, .int .i64 b.born, .int .i64 b.head.tos, .int .i64 b.head.id, .bool b.head.df, .bool b.head.mf, .int .i64 b.head.off, .int .i64 b.head.ttl, .int .i64 b.head.proto, .int .u32 b.head.src, .int .u32 b.head.dst, .slice b.ho b.head.ol b.hoc, .slice b.hb b.head.bl b.hbc, .bool b.first, .int .i64 b.total, .slice b.ro n b.rc] 45)).alloc (.cells #[.int .i64 p.tos, .int .i64 p.id, .bool p.df, .bool p.mf, .int .i64 p.off, .int .i64 p.ttl, .int .i64 p.proto, .int .u32 p.src, .int .u32 p.dst, .slice oo p.ol oc, .slice ob p.bl bc] 25)).alloc (.cells #[.int .u32 0, .int .u32 0, .int .i64 0, .int .i64 0, .int .i64 0, .int .i64 0, .int .i64 0, .bool false, .bool false, .int .i64 0, .int .i64 0, .int .i64 0, .int .u32 0, .int .u32 0, .slice none 0 0, .slice none 0 0, .bool false, .int .i64 0, .slice none 0 0] 45)).junk (osm1_3) dm1_3).alloc (.cells #[.int .i64 p.off, .slice o1 p.bl c1] 72)).heap[w.heap.size + 1 + 1 + 1 + osm1_3.size]? = some (.cells #[.int .i64 p.off, .slice o1 p.bl c1] 72) from by rw [show w.heap.size + 1 + 1 + 1 + osm1_3.size = ((((w.alloc (.cells #[.int .u32 b.src, .int .u32 b.dst, .int .i64 b.id, .int .i64 b.proto, .int .i64 b.born, .int .i64 b.head.tos, .int .i64 b.head.id, .bool b.head.df, .bool b.head.mf, .int .i64 b.head.off, .int .i64 b.head.ttl, .int .i64 b.head.proto, .int .u32 b.head.src, .int .u32 b.head.dst, .slice b.ho b.head.ol b.hoc, .slice b.hb b.head.bl b.hbc, .bool b.first, .int .i64 b.total, .slice b.ro n b.rc] 45)).alloc (.cells #[.int .i64 p.tos, .int .i64 p.id, .bool p.df, .bool p.mf, .int .i64 p.off, .int .i64 p.ttl, .int .i64 p.proto, .int .u32 p.src, .int .u32 p.dst, .slice oo p.ol oc, .slice ob p.bl bc] 25)).alloc (.cells #[.int .u32 0, .int .u32 0, .int .i64 0, .int .i64 0, .int .i64 0, .int .i64 0, .int .i64 0, .bool false, .bool false, .int .i64 0, .int .i64 0, .int .i64 0, .int .u32 0, .int .u32 0, .slice none 0 0, .slice none 0 0, .bool false, .int .i64 0, .slice none 0 0] 45)).junk (osm1_3) dm1_3).heap.size by simp]; exact heap_alloc_last _ _) (by (exact jkc)), (bts_over2 (V := (((w.alloc (.cells #[.int .u32 b.src, .int .u32 b.dst, .int .i64 b.id, .int .i64 b.proto, .int .i64 b.born, .int .i64 b.head.tos, .int .i64 b.head.id, .bool b.head.df, .bool b.head.mf, .int .i64 b.head.off, .int .i64 b.head.ttl, .int .i64 b.head.proto, .int .u32 b.head.src, .int .u32 b.head.dst, .slice b.ho b.head.ol b.hoc, .slice b.hb b.head.bl b.hbc, .bool b.first, .int .i64 b.total, .slice b.ro n b.rc] 45)).alloc (.cells #[.int .i64 p.tos, .int .i64 p.id, .bool p.df, .bool p.mf, .int .i64 p.off, .int .i64 p.ttl, .int .i64 p.proto, .int .u32 p.src, .int .u32 p.dst, .slice oo p.ol oc, .slice ob p.bl bc] 25)).alloc (.cells #[.int .u32 0, .int .u32 0, .int .i64 0, .int .i64 0, .int .i64 0, .int .i64 0, .int .i64 0, .bool false, .bool false, .int .i64 0, .int .i64 0, .int .i64 0, .int .u32 0, .int .u32 0, .slice none 0 0, .slice none 0 0, .bool false, .int .i64 0, .slice none 0 0] 45)).junk osm1_3 dm1_3) (V' := (((w.alloc (.cells #[.int .u32 b.src, .int .u32 b.dst, .int .i64 b.id, .int .i64 b.proto, .int .i64 b.born, .int .i64 b.head.tos, .int .i64 b.head.id, .bool b.head.df, .bool b.head.mf, .int .i64 b.head.off, .int .i64 b.head.ttl, .int .i64 b.head.proto, .int .u32 b.head.src, .int .u32 b.head.dst, .slice b.ho b.head.ol b.hoc, .slice b.hb b.head.bl b.hbc, .bool b.first, .int .i64 b.total, .slice b.ro n b.rc] 45)).alloc (.cells #[.int .i64 p.tos, .int .i64 p.id, .bool p.df, .bool p.mf, .int .i64 p.off, .int .i64 p.ttl, .int .i64 p.proto, .int .u32 p.src, .int .u32 p.dst, .slice oo p.ol oc, .slice ob p.bl bc] 25)).alloc (.cells #[.int .u32 0, .int .u32 0, .int .i64 0, .int .i64 0, .int .i64 0, .int .i64 0, .int .i64 0, .bool false, .bool false, .int .i64 0, .int .i64 0, .int .i64 0, .int .u32 0, .int .u32 0, .slice none 0 0, .slice none 0 0, .bool false, .int .i64 0, .slice none 0 0] 45)).junk osm1_3 dm1_3) (cur' := #[.int .i64 p.off, .slice o1 p.bl c1]) (os' := osm1_4 ++ (osc ++ osm1_5)) (d' := dm1_5) rfl (by have := HCB.out; simp only [World.junk_junk] at this; exact this) (fun a ha => by have := HCF.out a ha; simp at this ⊢; omega) ⟨osm1_5, by simp [Array.append_assoc]⟩).on (by (exact jkc)), fun a ha => by have := HCF.out a ha; simp at this; omega, by omega⟩ ?_
  generalize w.heap.size + 1 + 1 + 1 + osm1_3.size = gr
  rintro V ⟨hj3, hrun, hb1, hf1, hgr⟩
  rotate_left
  go_upto_region 2 with (fail)
  refine wp_genX (fun V => Junk (((w.alloc (.cells #[.int .u32 b.src, .int .u32 b.dst, .int .i64 b.id, .int .i64 b.proto, .int .i64 b.born, .int .i64 b.head.tos, .int .i64 b.head.id, .bool b.head.df, .bool b.head.mf, .int .i64 b.head.off, .int .i64 b.head.ttl, .int .i64 b.head.proto, .int .u32 b.head.src, .int .u32 b.head.dst, .slice b.ho b.head.ol b.hoc, .slice b.hb b.head.bl b.hbc, .bool b.first, .int .i64 b.total, .slice b.ro n b.rc] 45)).alloc (.cells #[.int .i64 p.tos, .int .i64 p.id, .bool p.df, .bool p.mf, .int .i64 p.off, .int .i64 p.ttl, .int .i64 p.proto, .int .u32 p.src, .int .u32 p.dst, .slice oo p.ol oc, .slice ob p.bl bc] 25)).alloc (.cells #[.int .u32 0, .int .u32 0, .int .i64 0, .int .i64 0, .int .i64 0, .int .i64 0, .int .i64 0, .bool false, .bool false, .int .i64 0, .int .i64 0, .int .i64 0, .int .u32 0, .int .u32 0, .slice none 0 0, .slice none 0 0, .bool false, .int .i64 0, .slice none 0 0] 45)) V ∧ V.heap[w.heap.size + 1 + 1 + 1 + (osm1_0.size + (osc.size + osm1_1.size))]? = some (.cells #[.int .i64 p.off, .slice o1 p.bl c1] 72) ∧ Bts V o1 p.bl c1 p.body ∧ Fresh (w.heap.size + 3) o1 ∧ w.heap.size + 3 ≤ w.heap.size + 1 + 1 + 1 + (osm1_0.size + (osc.size + osm1_1.size))) ⟨by (exact jkc), heap_on (show (((((w.alloc (.cells #[.int .u32 b.src, .int .u32 b.dst, .int .i64 b.id, .int .i64 b.proto, .int .i64 b.born, .int .i64 b.head.tos, .int .i64 b.head.id, .bool b.head.df, .bool b.head.mf, .int .i64 b.head.off, .int .i64 b.head.ttl, .int .i64 b.head.proto, .int .u32 b.head.src, .int .u32 b.head.dst, .slice b.ho b.head.ol b.hoc, .slice b.hb b.head.bl b.hbc, .bool b.first, .int .i64 b.total, .slice b.ro n b.rc] 45)).alloc (.cells #[.int .i64 p.tos, .int .i64 p.id, .bool p.df, .bool p.mf, .int .i64 p.off, .int .i64 p.ttl, .int .i64 p.proto, .int .u32 p.src, .int .u32 p.dst, .slice oo p.ol oc, .slice ob p.bl bc] 25)).alloc (.cells #[.int .u32 0, .int .u32 0, .int .i64 0, .int .i64 0, .int .i64 0, .int .i64 0, .int .i64 0, .bool false, .bool false, .int .i64 0, .int .i64 0, .int .i64 0, .int .u32 0, .int .u32 0, .slice none 0 0, .slice none 0 0, .bool false, .int .i64 0, .slice none 0 0] 45)).junk (osm1_0 ++ (osc ++ osm1_1)) dm1_1).alloc (.cells #[.int .i64 p.off, .slice o1 p.bl c1] 72)).heap[w.heap.size + 1 + 1 + 1 + (osm1_0.size + (osc.size + osm1_1.size))]? = some (.cells #[.int .i64 p.off, .slice o1 p.bl c1] 72) from by rw [show w.heap.size + 1 + 1 + 1 + (osm1_0.size + (osc.size + osm1_1.size)) = ((((w.alloc (.cells #[.int .u32 b.src, .int .u32 b.dst, .int .i64 b.id, .int .i64 b.proto, .int .i64 b.born, .int .i64 b.head.tos, .int .i64 b.head.id, .bool b.head.df, .bool b.head.mf, .int .i64 b.head.off, .int .i64 b.head.ttl, .int .i64 b.head.proto, .int .u32 b.head.src, .int .u32 b.head.dst, .slice b.ho b.head.ol b.hoc, .slice b.hb b.head.bl b.hbc, .bool b.first, .int .i64 b.total, .slice b.ro n b.rc] 45)).alloc (.cells #[.int .i64 p.tos, .int .i64 p.id, .bool p.df, .bool p.mf, .int .i64 p.off, .int .i64 p.ttl, .int .i64 p.proto, .int .u32 p.src, .int .u32 p.dst, .slice oo p.ol oc, .slice ob p.bl bc] 25)).alloc (.cells #[.int .u32 0, .int .u32 0, .int .i64 0, .int .i64 0, .int .i64 0, .int .i64 0, .int .i64 0, .bool false, .bool false, .int .i64 0, .int .i64 0, .int .i64 0, .int .u32 0, .int .u32 0, .slice none 0 0, .slice none 0 0, .bool false, .int .i64 0, .slice none 0 0] 45)).junk (osm1_0 ++ (osc ++ osm1_1)) dm1_1).heap.size by simp]; exact heap_alloc_last _ _) (by (exact jkc)), HCB.out.on (by (exact jkc)), fun a ha => by have := HCF.out a ha; simp at this; omega, by omega⟩ ?_
  generalize w.heap.size + 1 + 1 + 1 + (osm1_0.size + (osc.size + osm1_1.size)) = gr
  rintro V ⟨hj3, hrun, hb1, hf1, hgr⟩
  rotate_left
  all_goals
    have HJV := Lib.hid ((show Junk w (((w.alloc (.cells #[.int .u32 b.src, .int .u32 b.dst, .int .i64 b.id, .int .i64 b.proto, .int .i64 b.born, .int .i64 b.head.tos, .int .i64 b.head.id, .bool b.head.df, .bool b.head.mf, .int .i64 b.head.off, .int .i64 b.head.ttl, .int .i64 b.head.proto, .int .u32 b.head.src, .int .u32 b.head.dst, .slice b.ho b.head.ol b.hoc, .slice b.hb b.head.bl b.hbc, .bool b.first, .int .i64 b.total, .slice b.ro n b.rc] 45)).alloc (.cells #[.int .i64 p.tos, .int .i64 p.id, .bool p.df, .bool p.mf, .int .i64 p.off, .int .i64 p.ttl, .int .i64 p.proto, .int .u32 p.src, .int .u32 p.dst, .slice oo p.ol oc, .slice ob p.bl bc] 25)).alloc (.cells #[.int .u32 0, .int .u32 0, .int .i64 0, .int .i64 0, .int .i64 0, .int .i64 0, .int .i64 0, .bool false, .bool false, .int .i64 0, .int .i64 0, .int .i64 0, .int .u32 0, .int .u32 0, .slice none 0 0, .slice none 0 0, .bool false, .int .i64 0, .slice none 0 0] 45)) by (exact jkc)).trans hj3)
    have HA := Lib.hid (And.intro hj3 (And.intro (show Box V gr 72 [.int .i64 p.off, .slice o1 p.bl c1] from hrun) (And.intro hb1 hf1)))
    have h3 := box3 w #[.int .u32 b.src, .int .u32 b.dst, .int .i64 b.id, .int .i64 b.proto, .int .i64 b.born, .int .i64 b.head.tos, .int .i64 b.head.id, .bool b.head.df, .bool b.head.mf, .int .i64 b.head.off, .int .i64 b.head.ttl, .int .i64 b.head.proto, .int .u32 b.head.src, .int .u32 b.head.dst, .slice b.ho b.head.ol b.hoc, .slice b.hb b.head.bl b.hbc, .bool b.first, .int .i64 b.total, .slice b.ro n b.rc] #[.int .i64 p.tos, .int .i64 p.id, .bool p.df, .bool p.mf, .int .i64 p.off, .int .i64 p.ttl, .int .i64 p.proto, .int .u32 p.src, .int .u32 p.dst, .slice oo p.ol oc, .slice ob p.bl bc] #[.int .u32 0, .int .u32 0, .int .i64 0, .int .i64 0, .int .i64 0, .int .i64 0, .int .i64 0, .bool false, .bool false, .int .i64 0, .int .i64 0, .int .i64 0, .int .u32 0, .int .u32 0, .slice none 0 0, .slice none 0 0, .bool false, .int .i64 0, .slice none 0 0] 45 25 45
    have HB0 := Lib.hid (h3.1.on hj3)
    have v18 : V.cell? ⟨w.heap.size, 18, none⟩ = some (.slice b.ro n b.rc) := HB0.out.cell rfl
    have r0 : V.cell? ⟨gr, 0, none⟩ = some (.int .i64 p.off) := HA.out.2.1.cell rfl
    have r1 : V.cell? ⟨gr, 1, none⟩ = some (.slice o1 p.bl c1) := HA.out.2.1.cell rfl
    have sr : gr < V.heap.size := HA.out.2.1.lt
    have sb : w.heap.size < V.heap.size := HB0.out.lt
    have HBS := Lib.hid (fun w1 (hj : Junk V w1) => bsearchR_any b.ro n b.rc b.F ⟨p.off, o1, p.bl, c1, p.body⟩ w1 hn6 HN.out ((own_os HO.out (fun f hf => (HD.out f hf).1)).on (HJV.out.trans hj)) HS.out)
    have HRL := Lib.hid (show ∀ a, b.ro = some a → a.block < w.heap.size from fun a ha => by
      rcases HO.out.form with ⟨h, _⟩ | ⟨g, cur, h, _, hc, _⟩
      · rw [h] at ha; cases ha
      · rw [h] at ha; cases ha; exact (Array.getElem?_eq_some_iff.1 hc).1)
    have HIN := Lib.hid (fun w1 gv k (hj : Junk V w1) (hg : w1.heap[gv]? = some (.cells #[.int .i64 p.off, .slice o1 p.bl c1] 72 (0, 0))) (hgv : V.heap.size ≤ gv) (hk : k ≤ n) => insert_any b.ro n b.rc k gv b.F ⟨p.off, o1, p.bl, c1, p.body⟩ W0 w1 hn6 (HJ.out.trans (HJV.out.trans hj)) (HO.out.on (HJV.out.trans hj)) HN.out hg hk (fun g hg he => by
      have h1 := HRL.out _ hg
      have h2 := HJV.out.size
      simp only at h1
      omega))
    clear h3 hj3 hrun hb1 hf1
    go_upto_region 3 with (first | (go_at_call 52; (with_reducible refine (HBS.out _ (by (exact jkc))).mono ?_); rintro e w' ⟨k, rfl, ⟨osb, db, rfl⟩, hpos⟩; have HPOS := Lib.hid hpos; clear hpos))
    have hkn : k ≤ n := by have := HPOS.out.le; rw [HN.out] at this; exact this
    go_upto_region 4 with (first | (go_at_call 55; (with_reducible refine (HIN.out _ _ _ (by (exact jkc)) (by rw [show V.heap.size + osb.size = (V.junk osb db).heap.size by simp]; exact heap_alloc_last _ _) (by simp) hkn).mono ?_); rintro e w4 ⟨oq, cq, rfl, hj4, ho4, hg4, hrow⟩; have hbx := ((HB0.out.on (show Junk V _ by (exact jkc))).grown hg4 (row_ne HRL.out _ (Nat.le_refl _))); have u18 := hbx.cell (j := 18) rfl; have uf := hbx.frozen 18; have us := hbx.lt; have H4 := Lib.hid (And.intro hj4 (And.intro ho4 (And.intro hg4 hrow))); clear hbx hj4 ho4 hg4 hrow))
    have HAD := Lib.hid (adw_mk (n := n) (p := p) (oo := oo) (ob := ob) (oc := oc) (bc := bc) HJ.out HN.out HD.out HRL.out HA.out.1 HA.out.2.1 HA.out.2.2.1 HA.out.2.2.2 hgr (show Junk V _ by (exact jkc)) H4.out.1 H4.out.2.1 H4.out.2.2.1 H4.out.2.2.2 HPOS.out)
    generalize hV4 : w4.setCell ⟨w.heap.size, 18, none⟩ (.slice oq (n + 1) cq) = V4 at HAD ⊢
    generalize insL b.F k ⟨p.off, o1, p.bl, c1, p.body⟩ = F2 at HAD
    clear hV4 H4 HB0 v18 r0 r1 sr sb HIN HBS HA u18 uf us HPOS
    have i3 : V4.cell? ⟨w.heap.size + 1, 3, none⟩ = some (.bool p.mf) := HAD.out.ipb.cell rfl
    have q0 : V4.cell? ⟨gr, 0, none⟩ = some (.int .i64 p.off) := HAD.out.run.cell rfl
    have q1 : V4.cell? ⟨gr, 1, none⟩ = some (.slice o1 p.bl c1) := HAD.out.run.cell rfl
    have x17 : V4.cell? ⟨w.heap.size, 17, none⟩ = some (.int .i64 b.total) := HAD.out.box.cell rfl
    have f17 := HAD.out.box.frozen 17
    have s0 := HAD.out.box.lt
    have s1 := HAD.out.ipb.lt
    have s2 := HAD.out.run.lt
    have HEN := Lib.hid (fun w1 => rend_any p.off o1 p.bl c1 w1 (by omega) (by omega))
    obtain ⟨m, hm⟩ : ∃ m, p.mf = m := ⟨_, rfl⟩
    obtain ⟨T, hT⟩ : ∃ T, (if p.mf then b.total else p.off + p.bl) = T := ⟨_, rfl⟩
    rw [hm] at i3
    have HM := Lib.hid hm
    have HT := Lib.hid hT
    clear hm hT
    cases m
    · have hT2 : T = p.off + p.bl := by rw [← HT.out, HM.out]; rfl
      go_upto_region 6 with (first | (go_at_call 51; (with_reducible refine (HEN.out _).mono ?_); rintro e w' ⟨rfl, ⟨osj, dj, rfl⟩⟩))
      have HAT := Lib.hid (show AdW W0 w ((V4.setCell ⟨w.heap.size, 17, none⟩ (.int .i64 (p.off + p.bl))).junk osj dj) b n p oo ob oc bc gr o1 c1 oq cq F2 T from hT2 ▸ (HAD.out.setT HJ.out _).on ⟨osj, dj, rfl⟩)
      generalize (V4.setCell ⟨w.heap.size, 17, none⟩ (.int .i64 (p.off + p.bl))).junk osj dj = V5 at HAT ⊢
      clear i3 q0 q1 x17 f17 s0 s1 s2 HAD hT2
      have j4 : V5.cell? ⟨w.heap.size + 1, 4, none⟩ = some (.int .i64 p.off) := HAT.out.ipb.cell rfl
      have j5 := HAT.out.ipb.lt
      have j6 := HAT.out.box.lt
      have HHD := Lib.hid (fun w1 (hj : Junk W0 w1) => rhead2_any p oo ob oc bc w1 (by omega) (HP.out.on hj))
      by_cases hz : p.off = 0
      · have hz2 : (p.off == 0) = true := by simpa using hz
        have HZ := Lib.hid hz
        clear hz
        have x16 : V5.cell? ⟨w.heap.size, 16, none⟩ = some (.bool b.first) := HAT.out.box.cell rfl
        have f16 := HAT.out.box.frozen 16
        go_upto_region 7 with (fail)
        go_upto_region 8 with (first | ((with_reducible show wpList _ _ _ _ _ _); refine wpList_loadBox rfl 25 _ rfl Try.isAgg25 11 Try.sizeOf25 HAT.out.ipb 0 rfl [.int .i64 p.tos, .int .i64 p.id, .bool p.df, .bool p.mf, .int .i64 p.off, .int .i64 p.ttl, .int .i64 p.proto, .int .u32 p.src, .int .u32 p.dst, .slice oo p.ol oc, .slice ob p.bl bc] rfl rfl ?_) | (go_at_call 56; (with_reducible refine (HHD.out _ (HAT.out.k.junk.trans (by (exact jkc)))).mono ?_); rintro e w' ⟨o5, c5, rfl, ⟨osh, dh, rfl⟩, hih⟩; have HIH := Lib.hid hih; clear hih) | ((with_reducible show wpList _ _ _ _ _ _); refine wpList_storeBox rfl 25 _ _ rfl ((HAT.out.box.set 16 (.bool true)).on (show Junk _ _ by (exact jkc))) 5 #[.int .i64 p.tos, .int .i64 p.id, .bool p.df, .bool false, .int .i64 0, .int .i64 p.ttl, .int .i64 p.proto, .int .u32 p.src, .int .u32 p.dst, .slice o5 p.ol c5, .slice none 0 0] (show (Try.prog.info? 25).map (·.size) = some 11 from by kernel_rfl) rfl rfl (by simp) (by simp [Value.oneCell']) ?_; intro w6 hg6 hb6; have HG6 := Lib.hid hg6; have HB6 := Lib.hid hb6; clear hg6 hb6))
        have K6 := Lib.hid (((HAT.out.k.store HJ.out (grown_set _ ⟨w.heap.size, 16, none⟩ (.bool true)) (Nat.le_refl _) (by simp only; omega)).on (show Junk _ ((V5.setCell ⟨w.heap.size, 16, none⟩ (.bool true)).junk osh dh) from ⟨osh, dh, rfl⟩)).store HJ.out HG6.out (Nat.le_refl _) (by omega))
        have HR6 := Lib.hid (((HAT.out.res.far (a := ⟨w.heap.size, 16, none⟩) (by simp) (.bool true)).on (show Junk _ ((V5.setCell ⟨w.heap.size, 16, none⟩ (.bool true)).junk osh dh) from ⟨osh, dh, rfl⟩)).grown HG6.out (by simp))
        have HQ6 := Lib.hid (show Box w6 w.heap.size 45 [.int .u32 b.src, .int .u32 b.dst, .int .i64 b.id, .int .i64 b.proto, .int .i64 b.born, .int .i64 p.tos, .int .i64 p.id, .bool p.df, .bool false, .int .i64 0, .int .i64 p.ttl, .int .i64 p.proto, .int .u32 p.src, .int .u32 p.dst, .slice o5 p.ol c5, .slice none 0 0, .bool true, .int .i64 T, .slice oq (n + 1) cq] from HB6.out)
        have s6 := HQ6.out.lt
        have s7 := HR6.out.lt
        have HO6 := Lib.hid (show Bts w6 o5 p.ol c5 p.opts ∧ Fresh (w.heap.size + 3) o5 from ⟨(show Bts ((V5.setCell ⟨w.heap.size, 16, none⟩ (.bool true)).junk osh dh) o5 p.ol c5 p.opts from by
            have h1 := HIH.out.1.opts
            rw [← World.setCell_junk _ _ _ _ _ _ j6]
            exact h1.grown (grown_set _ ⟨w.heap.size, 16, none⟩ _) (fun _ a ha he => by have := HIH.out.2 a ha; have h2 : a.block = w.heap.size := Option.some.inj he; omega)).grown HG6.out (fun _ a ha he => by have := HIH.out.2 a ha; have h2 : a.block = w.heap.size := Option.some.inj he; omega), fun a ha => by have := HIH.out.2 a ha; have := HAT.out.res.lt; omega⟩)
        clear HB6 HG6 HIH HAT j4 j5 j6 x16 f16
        go_wp2_with (first | ((with_reducible show wpList _ _ _ _ _ _); refine wpList_loadBox rfl 45 _ rfl Try.isAgg45 19 Try.sizeOf45 HQ6.out 0 rfl [.int .u32 b.src, .int .u32 b.dst, .int .i64 b.id, .int .i64 b.proto, .int .i64 b.born, .int .i64 p.tos, .int .i64 p.id, .bool p.df, .bool false, .int .i64 0, .int .i64 p.ttl, .int .i64 p.proto, .int .u32 p.src, .int .u32 p.dst, .slice o5 p.ol c5, .slice none 0 0, .bool true, .int .i64 T, .slice oq (n + 1) cq] rfl rfl ?_) | ((with_reducible show wpList _ _ _ _ _ _); refine wpList_storeBox rfl 45 _ _ rfl HR6.out 0 #[.int .u32 b.src, .int .u32 b.dst, .int .i64 b.id, .int .i64 b.proto, .int .i64 b.born, .int .i64 p.tos, .int .i64 p.id, .bool p.df, .bool false, .int .i64 0, .int .i64 p.ttl, .int .i64 p.proto, .int .u32 p.src, .int .u32 p.dst, .slice o5 p.ol c5, .slice none 0 0, .bool true, .int .i64 T, .slice oq (n + 1) cq] (show (Try.prog.info? 45).map (·.size) = some 19 from by kernel_rfl) rfl rfl (by simp) (by simp [Value.oneCell']) ?_; intro w7 hg7 hb7; have HG7 := Lib.hid hg7; have HB7 := Lib.hid hb7; clear hg7 hb7))
        refine bodyPost_ret (results_cell1 Try.results31 rfl ((show Box w7 (w.heap.size + 2) 45 [.int .u32 b.src, .int .u32 b.dst, .int .i64 b.id, .int .i64 b.proto, .int .i64 b.born, .int .i64 p.tos, .int .i64 p.id, .bool p.df, .bool false, .int .i64 0, .int .i64 p.ttl, .int .i64 p.proto, .int .u32 p.src, .int .u32 p.dst, .slice o5 p.ol c5, .slice none 0 0, .bool true, .int .i64 T, .slice oq (n + 1) cq] from HB7.out).loadVar 45 Try.isAgg45 Try.sizeOf45)) rfl ?_
        have K7 := K6.out.store HJ.out HG7.out (by omega) (by omega)
        have hl2 : F2.length = n + 1 := by have := K7.own.len; rw [otsL_len] at this; omega
        refine ⟨{ b with head := headI p, ho := o5, hoc := c5, hb := none, hbc := 0, first := true, total := T, F := F2, ro := oq, rc := cq }, ?_, ?_, K7.junk, K7.grown, ?_, fun r hr hbo => ?_⟩
        · unfold Bf.cells headI
          simp only [hl2]
        · unfold Bf.q addQ
          have e1 : (if p.off = 0 then headI p else b.head) = headI p := if_pos HZ.out
          simp only [K7.runs, HT.out, hz2, e1, Bool.or_true]
        · refine ⟨⟨HO6.out.1.grown HG7.out (fun _ a ha he => by have := HO6.out.2 a ha; have h2 : a.block = w.heap.size + 2 := Option.some.inj he; omega), bts_noneR _ _, HP.out.src, HP.out.dst⟩, own_os K7.own K7.data, fun hn => ?_, by rw [hl2]; exact K7.own.capLe.1, K7.own.capLe.2⟩
          rcases K7.own.form with ⟨_, h1, h2⟩ | ⟨g, cur, h1, _⟩
          · omega
          · have h3 : oq = none := hn
            rw [h3] at h1; cases h1
        · refine ⟨fun _ a ha he => by have := HO6.out.2 a ha; have h2 : a.block = r := Option.some.inj he; omega, fun hl => absurd hl (Nat.lt_irrefl 0), K7.offrow hr hbo, K7.offdata hr hbo⟩
      · have hz2 : (p.off == 0) = false := by simpa using hz
        have HZ := Lib.hid hz
        clear hz
        go_upto_region 8 with (fail)
        have K6 := Lib.hid HAT.out.k
        have HR6 := Lib.hid HAT.out.res
        have HQ6 := Lib.hid HAT.out.box
        have s6 := HQ6.out.lt
        have s7 := HR6.out.lt
        generalize V5 = w6 at K6 HR6 HQ6 s6 s7 ⊢
        clear HAT
        go_wp2_with (first | ((with_reducible show wpList _ _ _ _ _ _); refine wpList_loadBox rfl 45 _ rfl Try.isAgg45 19 Try.sizeOf45 HQ6.out 0 rfl [.int .u32 b.src, .int .u32 b.dst, .int .i64 b.id, .int .i64 b.proto, .int .i64 b.born, .int .i64 b.head.tos, .int .i64 b.head.id, .bool b.head.df, .bool b.head.mf, .int .i64 b.head.off, .int .i64 b.head.ttl, .int .i64 b.head.proto, .int .u32 b.head.src, .int .u32 b.head.dst, .slice b.ho b.head.ol b.hoc, .slice b.hb b.head.bl b.hbc, .bool b.first, .int .i64 T, .slice oq (n + 1) cq] rfl rfl ?_) | ((with_reducible show wpList _ _ _ _ _ _); refine wpList_storeBox rfl 45 _ _ rfl HR6.out 0 #[.int .u32 b.src, .int .u32 b.dst, .int .i64 b.id, .int .i64 b.proto, .int .i64 b.born, .int .i64 b.head.tos, .int .i64 b.head.id, .bool b.head.df, .bool b.head.mf, .int .i64 b.head.off, .int .i64 b.head.ttl, .int .i64 b.head.proto, .int .u32 b.head.src, .int .u32 b.head.dst, .slice b.ho b.head.ol b.hoc, .slice b.hb b.head.bl b.hbc, .bool b.first, .int .i64 T, .slice oq (n + 1) cq] (show (Try.prog.info? 45).map (·.size) = some 19 from by kernel_rfl) rfl rfl (by simp) (by simp [Value.oneCell']) ?_; intro w7 hg7 hb7; have HG7 := Lib.hid hg7; have HB7 := Lib.hid hb7; clear hg7 hb7))
        refine bodyPost_ret (results_cell1 Try.results31 rfl ((show Box w7 (w.heap.size + 2) 45 [.int .u32 b.src, .int .u32 b.dst, .int .i64 b.id, .int .i64 b.proto, .int .i64 b.born, .int .i64 b.head.tos, .int .i64 b.head.id, .bool b.head.df, .bool b.head.mf, .int .i64 b.head.off, .int .i64 b.head.ttl, .int .i64 b.head.proto, .int .u32 b.head.src, .int .u32 b.head.dst, .slice b.ho b.head.ol b.hoc, .slice b.hb b.head.bl b.hbc, .bool b.first, .int .i64 T, .slice oq (n + 1) cq] from HB7.out).loadVar 45 Try.isAgg45 Try.sizeOf45)) rfl ?_
        have K7 := K6.out.store HJ.out HG7.out (by omega) (by omega)
        have hl2 : F2.length = n + 1 := by have := K7.own.len; rw [otsL_len] at this; omega
        refine ⟨{ b with total := T, F := F2, ro := oq, rc := cq }, ?_, ?_, K7.junk, K7.grown, ?_, fun r hr hbo => ?_⟩
        · unfold Bf.cells
          simp only [hl2]
        · unfold Bf.q addQ
          simp only [K7.runs, HT.out, hz2, HZ.out, if_false, Bool.or_false]
        · have hb := HH.out.1.opts.grown K7.grown HH.out.2.1
          have hc := HH.out.1.body.grown K7.grown HH.out.2.2
          refine ⟨⟨hb, hc, HH.out.1.src, HH.out.1.dst⟩, own_os K7.own K7.data, fun hn => ?_, by rw [hl2]; exact K7.own.capLe.1, K7.own.capLe.2⟩
          rcases K7.own.form with ⟨_, h1, h2⟩ | ⟨g, cur, h1, _⟩
          · omega
          · have h3 : oq = none := hn
            rw [h3] at h1; cases h1
        · exact ⟨hbo.opts, hbo.body, K7.offrow hr hbo, K7.offdata hr hbo⟩
    · have hT2 : T = b.total := by rw [← HT.out, HM.out]; rfl
      go_upto_region 6 with (fail)
      have HAT := Lib.hid (show AdW W0 w V4 b n p oo ob oc bc gr o1 c1 oq cq F2 T from by rw [hT2]; exact HAD.out)
      clear hT2
      clear i3 q0 q1 x17 f17 s0 s1 s2 HAD
      generalize V4 = V5 at HAT ⊢
      have j4 : V5.cell? ⟨w.heap.size + 1, 4, none⟩ = some (.int .i64 p.off) := HAT.out.ipb.cell rfl
      have j5 := HAT.out.ipb.lt
      have j6 := HAT.out.box.lt
      have HHD := Lib.hid (fun w1 (hj : Junk W0 w1) => rhead2_any p oo ob oc bc w1 (by omega) (HP.out.on hj))
      by_cases hz : p.off = 0
      · have hz2 : (p.off == 0) = true := by simpa using hz
        have HZ := Lib.hid hz
        clear hz
        have x16 : V5.cell? ⟨w.heap.size, 16, none⟩ = some (.bool b.first) := HAT.out.box.cell rfl
        have f16 := HAT.out.box.frozen 16
        go_upto_region 7 with (fail)
        go_upto_region 8 with (first | ((with_reducible show wpList _ _ _ _ _ _); refine wpList_loadBox rfl 25 _ rfl Try.isAgg25 11 Try.sizeOf25 HAT.out.ipb 0 rfl [.int .i64 p.tos, .int .i64 p.id, .bool p.df, .bool p.mf, .int .i64 p.off, .int .i64 p.ttl, .int .i64 p.proto, .int .u32 p.src, .int .u32 p.dst, .slice oo p.ol oc, .slice ob p.bl bc] rfl rfl ?_) | (go_at_call 56; (with_reducible refine (HHD.out _ (HAT.out.k.junk.trans (by (exact jkc)))).mono ?_); rintro e w' ⟨o5, c5, rfl, ⟨osh, dh, rfl⟩, hih⟩; have HIH := Lib.hid hih; clear hih) | ((with_reducible show wpList _ _ _ _ _ _); refine wpList_storeBox rfl 25 _ _ rfl ((HAT.out.box.set 16 (.bool true)).on (show Junk _ _ by (exact jkc))) 5 #[.int .i64 p.tos, .int .i64 p.id, .bool p.df, .bool false, .int .i64 0, .int .i64 p.ttl, .int .i64 p.proto, .int .u32 p.src, .int .u32 p.dst, .slice o5 p.ol c5, .slice none 0 0] (show (Try.prog.info? 25).map (·.size) = some 11 from by kernel_rfl) rfl rfl (by simp) (by simp [Value.oneCell']) ?_; intro w6 hg6 hb6; have HG6 := Lib.hid hg6; have HB6 := Lib.hid hb6; clear hg6 hb6))
        have K6 := Lib.hid (((HAT.out.k.store HJ.out (grown_set _ ⟨w.heap.size, 16, none⟩ (.bool true)) (Nat.le_refl _) (by simp only; omega)).on (show Junk _ ((V5.setCell ⟨w.heap.size, 16, none⟩ (.bool true)).junk osh dh) from ⟨osh, dh, rfl⟩)).store HJ.out HG6.out (Nat.le_refl _) (by omega))
        have HR6 := Lib.hid (((HAT.out.res.far (a := ⟨w.heap.size, 16, none⟩) (by simp) (.bool true)).on (show Junk _ ((V5.setCell ⟨w.heap.size, 16, none⟩ (.bool true)).junk osh dh) from ⟨osh, dh, rfl⟩)).grown HG6.out (by simp))
        have HQ6 := Lib.hid (show Box w6 w.heap.size 45 [.int .u32 b.src, .int .u32 b.dst, .int .i64 b.id, .int .i64 b.proto, .int .i64 b.born, .int .i64 p.tos, .int .i64 p.id, .bool p.df, .bool false, .int .i64 0, .int .i64 p.ttl, .int .i64 p.proto, .int .u32 p.src, .int .u32 p.dst, .slice o5 p.ol c5, .slice none 0 0, .bool true, .int .i64 T, .slice oq (n + 1) cq] from HB6.out)
        have s6 := HQ6.out.lt
        have s7 := HR6.out.lt
        have HO6 := Lib.hid (show Bts w6 o5 p.ol c5 p.opts ∧ Fresh (w.heap.size + 3) o5 from ⟨(show Bts ((V5.setCell ⟨w.heap.size, 16, none⟩ (.bool true)).junk osh dh) o5 p.ol c5 p.opts from by
            have h1 := HIH.out.1.opts
            rw [← World.setCell_junk _ _ _ _ _ _ j6]
            exact h1.grown (grown_set _ ⟨w.heap.size, 16, none⟩ _) (fun _ a ha he => by have := HIH.out.2 a ha; have h2 : a.block = w.heap.size := Option.some.inj he; omega)).grown HG6.out (fun _ a ha he => by have := HIH.out.2 a ha; have h2 : a.block = w.heap.size := Option.some.inj he; omega), fun a ha => by have := HIH.out.2 a ha; have := HAT.out.res.lt; omega⟩)
        clear HB6 HG6 HIH HAT j4 j5 j6 x16 f16
        go_wp2_with (first | ((with_reducible show wpList _ _ _ _ _ _); refine wpList_loadBox rfl 45 _ rfl Try.isAgg45 19 Try.sizeOf45 HQ6.out 0 rfl [.int .u32 b.src, .int .u32 b.dst, .int .i64 b.id, .int .i64 b.proto, .int .i64 b.born, .int .i64 p.tos, .int .i64 p.id, .bool p.df, .bool false, .int .i64 0, .int .i64 p.ttl, .int .i64 p.proto, .int .u32 p.src, .int .u32 p.dst, .slice o5 p.ol c5, .slice none 0 0, .bool true, .int .i64 T, .slice oq (n + 1) cq] rfl rfl ?_) | ((with_reducible show wpList _ _ _ _ _ _); refine wpList_storeBox rfl 45 _ _ rfl HR6.out 0 #[.int .u32 b.src, .int .u32 b.dst, .int .i64 b.id, .int .i64 b.proto, .int .i64 b.born, .int .i64 p.tos, .int .i64 p.id, .bool p.df, .bool false, .int .i64 0, .int .i64 p.ttl, .int .i64 p.proto, .int .u32 p.src, .int .u32 p.dst, .slice o5 p.ol c5, .slice none 0 0, .bool true, .int .i64 T, .slice oq (n + 1) cq] (show (Try.prog.info? 45).map (·.size) = some 19 from by kernel_rfl) rfl rfl (by simp) (by simp [Value.oneCell']) ?_; intro w7 hg7 hb7; have HG7 := Lib.hid hg7; have HB7 := Lib.hid hb7; clear hg7 hb7))
        refine bodyPost_ret (results_cell1 Try.results31 rfl ((show Box w7 (w.heap.size + 2) 45 [.int .u32 b.src, .int .u32 b.dst, .int .i64 b.id, .int .i64 b.proto, .int .i64 b.born, .int .i64 p.tos, .int .i64 p.id, .bool p.df, .bool false, .int .i64 0, .int .i64 p.ttl, .int .i64 p.proto, .int .u32 p.src, .int .u32 p.dst, .slice o5 p.ol c5, .slice none 0 0, .bool true, .int .i64 T, .slice oq (n + 1) cq] from HB7.out).loadVar 45 Try.isAgg45 Try.sizeOf45)) rfl ?_
        have K7 := K6.out.store HJ.out HG7.out (by omega) (by omega)
        have hl2 : F2.length = n + 1 := by have := K7.own.len; rw [otsL_len] at this; omega
        refine ⟨{ b with head := headI p, ho := o5, hoc := c5, hb := none, hbc := 0, first := true, total := T, F := F2, ro := oq, rc := cq }, ?_, ?_, K7.junk, K7.grown, ?_, fun r hr hbo => ?_⟩
        · unfold Bf.cells headI
          simp only [hl2]
        · unfold Bf.q addQ
          have e1 : (if p.off = 0 then headI p else b.head) = headI p := if_pos HZ.out
          simp only [K7.runs, HT.out, hz2, e1, Bool.or_true]
        · refine ⟨⟨HO6.out.1.grown HG7.out (fun _ a ha he => by have := HO6.out.2 a ha; have h2 : a.block = w.heap.size + 2 := Option.some.inj he; omega), bts_noneR _ _, HP.out.src, HP.out.dst⟩, own_os K7.own K7.data, fun hn => ?_, by rw [hl2]; exact K7.own.capLe.1, K7.own.capLe.2⟩
          rcases K7.own.form with ⟨_, h1, h2⟩ | ⟨g, cur, h1, _⟩
          · omega
          · have h3 : oq = none := hn
            rw [h3] at h1; cases h1
        · refine ⟨fun _ a ha he => by have := HO6.out.2 a ha; have h2 : a.block = r := Option.some.inj he; omega, fun hl => absurd hl (Nat.lt_irrefl 0), K7.offrow hr hbo, K7.offdata hr hbo⟩
      · have hz2 : (p.off == 0) = false := by simpa using hz
        have HZ := Lib.hid hz
        clear hz
        go_upto_region 8 with (fail)
        have K6 := Lib.hid HAT.out.k
        have HR6 := Lib.hid HAT.out.res
        have HQ6 := Lib.hid HAT.out.box
        have s6 := HQ6.out.lt
        have s7 := HR6.out.lt
        generalize V5 = w6 at K6 HR6 HQ6 s6 s7 ⊢
        clear HAT
        go_wp2_with (first | ((with_reducible show wpList _ _ _ _ _ _); refine wpList_loadBox rfl 45 _ rfl Try.isAgg45 19 Try.sizeOf45 HQ6.out 0 rfl [.int .u32 b.src, .int .u32 b.dst, .int .i64 b.id, .int .i64 b.proto, .int .i64 b.born, .int .i64 b.head.tos, .int .i64 b.head.id, .bool b.head.df, .bool b.head.mf, .int .i64 b.head.off, .int .i64 b.head.ttl, .int .i64 b.head.proto, .int .u32 b.head.src, .int .u32 b.head.dst, .slice b.ho b.head.ol b.hoc, .slice b.hb b.head.bl b.hbc, .bool b.first, .int .i64 T, .slice oq (n + 1) cq] rfl rfl ?_) | ((with_reducible show wpList _ _ _ _ _ _); refine wpList_storeBox rfl 45 _ _ rfl HR6.out 0 #[.int .u32 b.src, .int .u32 b.dst, .int .i64 b.id, .int .i64 b.proto, .int .i64 b.born, .int .i64 b.head.tos, .int .i64 b.head.id, .bool b.head.df, .bool b.head.mf, .int .i64 b.head.off, .int .i64 b.head.ttl, .int .i64 b.head.proto, .int .u32 b.head.src, .int .u32 b.head.dst, .slice b.ho b.head.ol b.hoc, .slice b.hb b.head.bl b.hbc, .bool b.first, .int .i64 T, .slice oq (n + 1) cq] (show (Try.prog.info? 45).map (·.size) = some 19 from by kernel_rfl) rfl rfl (by simp) (by simp [Value.oneCell']) ?_; intro w7 hg7 hb7; have HG7 := Lib.hid hg7; have HB7 := Lib.hid hb7; clear hg7 hb7))
        refine bodyPost_ret (results_cell1 Try.results31 rfl ((show Box w7 (w.heap.size + 2) 45 [.int .u32 b.src, .int .u32 b.dst, .int .i64 b.id, .int .i64 b.proto, .int .i64 b.born, .int .i64 b.head.tos, .int .i64 b.head.id, .bool b.head.df, .bool b.head.mf, .int .i64 b.head.off, .int .i64 b.head.ttl, .int .i64 b.head.proto, .int .u32 b.head.src, .int .u32 b.head.dst, .slice b.ho b.head.ol b.hoc, .slice b.hb b.head.bl b.hbc, .bool b.first, .int .i64 T, .slice oq (n + 1) cq] from HB7.out).loadVar 45 Try.isAgg45 Try.sizeOf45)) rfl ?_
        have K7 := K6.out.store HJ.out HG7.out (by omega) (by omega)
        have hl2 : F2.length = n + 1 := by have := K7.own.len; rw [otsL_len] at this; omega
        refine ⟨{ b with total := T, F := F2, ro := oq, rc := cq }, ?_, ?_, K7.junk, K7.grown, ?_, fun r hr hbo => ?_⟩
        · unfold Bf.cells
          simp only [hl2]
        · unfold Bf.q addQ
          simp only [K7.runs, HT.out, hz2, HZ.out, if_false, Bool.or_false]
        · have hb := HH.out.1.opts.grown K7.grown HH.out.2.1
          have hc := HH.out.1.body.grown K7.grown HH.out.2.2
          refine ⟨⟨hb, hc, HH.out.1.src, HH.out.1.dst⟩, own_os K7.own K7.data, fun hn => ?_, by rw [hl2]; exact K7.own.capLe.1, K7.own.capLe.2⟩
          rcases K7.own.form with ⟨_, h1, h2⟩ | ⟨g, cur, h1, _⟩
          · omega
          · have h3 : oq = none := hn
            rw [h3] at h1; cases h1
        · exact ⟨hbo.opts, hbo.body, K7.offrow hr hbo, K7.offdata hr hbo⟩
end Go.Proofs.Ytgjppmkadmfibaa
