/- cmp.Compare; slices.BinarySearchFunc over runs. -/
import Derived.Test.YtgjppmkadmfibaaTcpC
import Derived.Test.YtgjppmkadmfibaaMix
import Derived.Test.YtgjppmkadmfibaaRsD
import Derived.Test.YtgjppmkadmfibaaRsP
set_option linter.unusedVariables false
set_option maxRecDepth 100000
set_option linter.unusedSimpArgs false
namespace Go.Proofs.Ytgjppmkadmfibaa
open Go.RowKit
def bz (n : Nat) (zs : Nat → Int) : List Value := (List.range n).map fun i => Value.int .u8 (zs i)
/-- A slice of bytes of the call's own: its first n bytes are those of 'zs'. -/
def OwB (B : Nat) (w : World) (oa : Option Addr) (cap n : Nat) (zs : Nat → Int) : Prop := Own B w 5 1 oa cap n (bz n zs)
theorem bz_congr {n : Nat} {xs ys : Nat → Int} (h : ∀ i, i < n → xs i = ys i) : bz n xs = bz n ys := by
  unfold bz
  apply List.map_congr_left
  intro i hi
  rw [h i (by simpa using hi)]
theorem bz_add (n m : Nat) (zs : Nat → Int) : bz n zs ++ bz m (fun j => zs (n + j)) = bz (n + m) zs := by
  unfold bz
  rw [List.range_add, List.map_append, List.map_map]
  rfl
theorem bz1 {zs : Nat → Int} {a : Int} (h0 : zs 0 = a) : [Value.int .u8 a] = bz 1 zs := by subst h0; rfl
theorem bz2 {zs : Nat → Int} {a b : Int} (h0 : zs 0 = a) (h1 : zs 1 = b) : [Value.int .u8 a, .int .u8 b] = bz 2 zs := by subst h0 h1; rfl
theorem bz4 {zs : Nat → Int} {a b c d : Int} (h0 : zs 0 = a) (h1 : zs 1 = b) (h2 : zs 2 = c) (h3 : zs 3 = d) : [Value.int .u8 a, .int .u8 b, .int .u8 c, .int .u8 d] = bz 4 zs := by subst h0 h1 h2 h3; rfl
theorem bz8 {zs : Nat → Int} {a b c d a' b' c' d' : Int} (h0 : zs 0 = a) (h1 : zs 1 = b) (h2 : zs 2 = c) (h3 : zs 3 = d) (h4 : zs 4 = a') (h5 : zs 5 = b') (h6 : zs 6 = c') (h7 : zs 7 = d') : [Value.int .u8 a, .int .u8 b, .int .u8 c, .int .u8 d, .int .u8 a', .int .u8 b', .int .u8 c', .int .u8 d'] = bz 8 zs := by subst h0 h1 h2 h3 h4 h5 h6 h7; rfl
section
variable {B : Nat} {w w' W0 : World} {oa : Option Addr} {cap n : Nat} {zs : Nat → Int}
theorem OwB.on (h : OwB B w oa cap n zs) (hj : Junk w w') : OwB B w' oa cap n zs := Own.on h hj
theorem OwB.lower {B' : Nat} (h : OwB B w oa cap n zs) (hB : B' ≤ B) : OwB B' w oa cap n zs := Own.lower h hB
theorem OwB.congr {ys : Nat → Int} (h : OwB B w oa cap n zs) (he : ∀ i, i < n → zs i = ys i) : OwB B w oa cap n ys := by unfold OwB; rw [← bz_congr he]; exact h
theorem OwB.nil (B : Nat) (w : World) (zs : Nat → Int) : OwB B w none 0 0 zs := Own.nil _ _ _ _
theorem OwB.ints (h : OwB B w oa cap n zs) : IntsAt w oa n .u8 zs := by
  have h2 : Own B w 5 1 oa cap n (((List.range n).map zs).map (Value.int .u8)) := by rw [List.map_map]; exact h
  intro i hi
  obtain ⟨b, off, h3, h4, h5⟩ := h2.ints i hi
  refine ⟨b, off, h3, h4, ?_⟩
  rw [h5]
  simp [List.getD, hi]
theorem OwB.isNil (h : OwB B w oa cap n zs) (hn : oa = none) : n = 0 ∧ cap = 0 := by
  rcases Own.form h with ⟨_, h1, h2⟩ | ⟨g, cur, h1, _⟩
  · exact ⟨h1, h2⟩
  · rw [h1] at hn; cases hn
theorem OwB.bts (h : OwB B w oa cap n zs) (hx : ∀ i, i < n → 0 ≤ zs i ∧ zs i ≤ 255) : Bts w oa n cap zs := ⟨h.ints, hx, fun hn => h.isNil hn, (Own.capLe h).1, (Own.capLe h).2⟩
theorem OwB.lit (Y : World) (g m : Nat) (cur : Array Value) (hg : g = Y.heap.size) (hb : B ≤ Y.heap.size) (hm : m = cur.size) (hmax : m ≤ maxLen) (hc : cur.toList = bz m zs) : OwB B (Y.alloc (.cells cur 5)) (some ⟨g, 0, none⟩) m m zs := by
  unfold OwB
  rw [← hc]
  exact own_lit Y _ g m cur hg hb hm hmax
theorem alloc_ints (Y : World) (cur : Array Value) (t : TypeId) (g : Nat) (hg : g = Y.heap.size) (m : Nat) (f : Nat → Int) (h : cur.toList = bz m f) : IntsAt (Y.alloc (.cells cur t)) (some ⟨g, 0, none⟩) m .u8 f := by
  subst hg
  intro i hi
  refine ⟨_, 0, rfl, by rw [World.size_alloc]; omega, ?_⟩
  rw [World.cell?_alloc_new, Nat.zero_add]
  have : cur.toList[i]? = some (.int .u8 (f i)) := by rw [h]; unfold bz; rw [List.getElem?_map, List.getElem?_range hi]; rfl
  simpa using this
theorem alloc_ints2 (Y : World) (cur : Array Value) (t : TypeId) (g : Nat) (hg : g = Y.heap.size) (m : Nat) (f : Nat → Int) (os : Array Obj) (d : Nat) (h : cur.toList = bz m f) : IntsAt ((Y.alloc (.cells cur t)).junk os d) (some ⟨g, 0, none⟩) m .u8 f :=
  (alloc_ints Y cur t g hg m f h).on ⟨os, d, rfl⟩
theorem ints_congr {oc : Option Addr} {m : Nat} {k : IntKind} {xs ys : Nat → Int} (h : IntsAt w oc m k xs) (he : ∀ i, i < m → xs i = ys i) : IntsAt w oc m k ys := fun i hi => by rw [← he i hi]; exact h i hi
theorem ap_bz_wp {o : Oper} {a : Act} {K : Act → World → Prop} {Q : Exit → Act → World → Prop} (s x : Operand)
    (ho : o.op = .call { callee := .builtin .append, args := #[s, x], argTypes := #[23, 23] })
    (hj : Junk W0 w) (oa : Option Addr) (cap n : Nat) (zs : Nat → Int) (hs : a.eval s = .slice oa n cap) (hown : OwB W0.heap.size w oa cap n zs)
    (oc : Option Addr) (m c : Nat) (hx : a.eval x = .slice oc m c) (hsrc : IntsAt w oc m .u8 (fun j => zs (n + j))) (hnone : oc = none → m = 0 ∧ c = 0) (hm : n + m ≤ 140737488355328)
    (h : ∀ oa' cap' os d, OwB W0.heap.size (W0.junk os d) oa' cap' (n + m) zs → (oa' = none → oa = none ∧ m = 0) → K (a.put o.dst (.slice oa' (n + m) cap')) (W0.junk os d)) : o.wp Try.prog a w K Q :=
  ap_own_wp s x 23 ho 5 (.int .u8 0) 1 1 (by kernel_rfl) rfl (by decide) Try.underlying23 hj oa cap n (bz n zs) hs hown oc m c hx (bz m (fun j => zs (n + j))) (by simp [bz]) hsrc.src hnone
    (by intro u hu; unfold bz at hu; obtain ⟨i, _, rfl⟩ := List.mem_map.1 hu; rfl) (by simp only [maxLen]; omega) (by omega) fun oa' cap' os d h2 h3 => h oa' cap' os d (by unfold OwB; rw [← bz_add]; exact h2) h3
theorem ap_bz {ops : Array Oper} {rest : List Oper} {o : Oper} {a : Act} {Q : Exit → Act → World → Prop} (hgd : o.guard = none) (s x : Operand)
    (ho : o.op = .call { callee := .builtin .append, args := #[s, x], argTypes := #[23, 23] })
    (hj : Junk W0 w) (oa : Option Addr) (cap n : Nat) (zs : Nat → Int) (hs : a.eval s = .slice oa n cap) (hown : OwB W0.heap.size w oa cap n zs)
    (oc : Option Addr) (m c : Nat) (hx : a.eval x = .slice oc m c) (hsrc : IntsAt w oc m .u8 (fun j => zs (n + j))) (hnone : oc = none → m = 0 ∧ c = 0) (hm : n + m ≤ 140737488355328)
    (h : ∀ oa' cap' os d, OwB W0.heap.size (W0.junk os d) oa' cap' (n + m) zs → (oa' = none → oa = none ∧ m = 0) → wpList Try.prog ops Q rest (a.put o.dst (.slice oa' (n + m) cap')) (W0.junk os d)) : wpList Try.prog ops Q (o :: rest) a w :=
  wpList_plain hgd fun K hK => ap_bz_wp s x ho hj oa cap n zs hs hown oc m c hx hsrc hnone hm fun oa' cap' os d h2 h3 => hK _ _ (h oa' cap' os d h2 h3)
end
end Go.Proofs.Ytgjppmkadmfibaa
set_option linter.unusedVariables false
set_option maxRecDepth 100000
set_option linter.unusedSimpArgs false
namespace Go.Proofs.Ytgjppmkadmfibaa
open Go.RowKit
/-- Do the runs follow each other without a gap? -/
def gapGo : Int → List Od → Bool
  | _, [] => true
  | at_, f :: F => (f.k == at_) && gapGo (at_ + f.l) F
/-- The bytes of runs that follow each other. -/
def catF : List Od → Nat → Int
  | [], _ => 0
  | f :: F, j => if j < f.l then f.xs j else catF F (j - f.l)
theorem gapGo_drop {at_ : Int} {F : List Od} {k : Nat} {f : Od} (h : F[k]? = some f) : gapGo at_ (F.drop k) = ((f.k == at_) && gapGo (at_ + f.l) (F.drop (k + 1))) := by
  obtain ⟨hk, rfl⟩ := List.getElem?_eq_some_iff.1 h
  rw [List.drop_eq_getElem_cons hk, gapGo]
theorem heldO_cons (f : Od) (F : List Od) : heldO (f :: F) = f.l + heldO F := by unfold heldO; simp
theorem catF_at : ∀ {F : List Od} {k : Nat} {f : Od}, F[k]? = some f → ∀ j, j < f.l → catF F (heldO (F.take k) + j) = f.xs j
  | [], k, f, h, _, _ => by simp at h
  | g :: F, 0, f, h, j, hj => by
    simp only [List.getElem?_cons_zero, Option.some.injEq] at h
    subst h
    show (if heldO [] + j < g.l then g.xs (heldO [] + j) else _) = _
    have e : heldO [] = 0 := rfl
    rw [e, Nat.zero_add, if_pos hj]
  | g :: F, k + 1, f, h, j, hj => by
    rw [List.getElem?_cons_succ] at h
    have ih := catF_at h j hj
    rw [List.take_succ_cons, heldO_cons]
    show (if g.l + heldO (F.take k) + j < g.l then _ else catF F (g.l + heldO (F.take k) + j - g.l)) = _
    rw [if_neg (by omega), show g.l + heldO (F.take k) + j - g.l = heldO (F.take k) + j by omega, ih]
theorem catF_byte : ∀ {F : List Od}, (∀ f ∈ F, ∀ i, i < f.l → 0 ≤ f.xs i ∧ f.xs i ≤ 255) → ∀ j, j < heldO F → 0 ≤ catF F j ∧ catF F j ≤ 255
  | [], _, j, hj => by simp [heldO] at hj
  | f :: F, h, j, hj => by
    rw [heldO_cons] at hj
    unfold catF
    by_cases hl : j < f.l
    · rw [if_pos hl]; exact h f (by simp) j hl
    · rw [if_neg hl]; exact catF_byte (fun g hg => h g (by simp [hg])) _ (by omega)
/-- All bytes of a buffer, or none. -/
def WholeM (w : World) (q : Bq) (e : Ending) (w' : World) : Prop :=
  Junk w w' ∧ ((gapGo 0 q.runs = false ∧ e = .returned (.tuple #[.slice none 0 0, .bool false])) ∨
    (gapGo 0 q.runs = true ∧ ∃ oz cz, e = .returned (.tuple #[.slice oz (heldO q.runs) cz, .bool ((heldO q.runs : Int) == q.total)]) ∧ Bts w' oz (heldO q.runs) cz (catF q.runs) ∧ Fresh w.heap.size oz))
set_option maxHeartbeats 16000000 in
theorem whole_any (b : Bf) (n : Nat) (w : World) (hr : OsAt w b.ro b.F) (hn : b.F.length = n) (hn6 : n ≤ 1000000) (hs : heldO (b.F.map Ot.d) ≤ 1000000000) :
    Calls Try.prog 32 #[.agg #[.int .u32 b.src, .int .u32 b.dst, .int .i64 b.id, .int .i64 b.proto, .int .i64 b.born, .int .i64 b.head.tos, .int .i64 b.head.id, .bool b.head.df, .bool b.head.mf, .int .i64 b.head.off, .int .i64 b.head.ttl, .int .i64 b.head.proto, .int .u32 b.head.src, .int .u32 b.head.dst, .slice b.ho b.head.ol b.hoc, .slice b.hb b.head.bl b.hbc, .bool b.first, .int .i64 b.total, .slice b.ro n b.rc]] w (WholeM w b.q) := by
  have HR := Lib.hid hr
  have HN := Lib.hid hn
  have HS := Lib.hid hs
  obtain ⟨D, hD⟩ : ∃ D, b.F.map Ot.d = D := ⟨_, rfl⟩
  have HD := Lib.hid hD
  have HQ := Lib.hid (show b.q.runs = D from hD)
  have HB := Lib.hid (show ∀ j, j < heldO D → 0 ≤ catF D j ∧ catF D j ≤ 255 from catF_byte (fun f hf i hi => by
    rw [← hD] at hf
    obtain ⟨x, hx, rfl⟩ := List.mem_map.1 hf
    obtain ⟨k, hk, rfl⟩ := List.getElem_of_mem hx
    obtain ⟨_, _, _, _, _, _, hb⟩ := hr k _ (List.getElem?_eq_getElem hk)
    exact hb.byte i hi))
  obtain ⟨zs, hzs⟩ : ∃ zs, catF D = zs := ⟨_, rfl⟩
  have HZ := Lib.hid hzs
  clear hr hn hs hD hzs
  go_enter Try.func32, Try.ntmps32
  go_wp2
  go_loopw [4, 10] (fun o i wr => ∃ (k A : Nat) (oz : Option Addr) (cz : Nat), k ≤ n ∧ o = .slice oz A cz ∧ i = .int .i64 (k : Int) ∧ Junk (w.alloc (.cells #[.int .u32 b.src, .int .u32 b.dst, .int .i64 b.id, .int .i64 b.proto, .int .i64 b.born, .int .i64 b.head.tos, .int .i64 b.head.id, .bool b.head.df, .bool b.head.mf, .int .i64 b.head.off, .int .i64 b.head.ttl, .int .i64 b.head.proto, .int .u32 b.head.src, .int .u32 b.head.dst, .slice b.ho b.head.ol b.hoc, .slice b.hb b.head.bl b.hbc, .bool b.first, .int .i64 b.total, .slice b.ro n b.rc] 45)) wr ∧ Hid (A = heldO (D.take k)) ∧ Hid (gapGo 0 D = gapGo (A : Int) (D.drop k)) ∧ Hid (OwB (w.alloc (.cells #[.int .u32 b.src, .int .u32 b.dst, .int .i64 b.id, .int .i64 b.proto, .int .i64 b.born, .int .i64 b.head.tos, .int .i64 b.head.id, .bool b.head.df, .bool b.head.mf, .int .i64 b.head.off, .int .i64 b.head.ttl, .int .i64 b.head.proto, .int .u32 b.head.src, .int .u32 b.head.dst, .slice b.ho b.head.ol b.hoc, .slice b.hb b.head.bl b.hbc, .bool b.first, .int .i64 b.total, .slice b.ro n b.rc] 45)).heap.size wr oz cz A zs)) (fun _ i _ => n + 1 - (intOf i).toNat)
  case atStart => exact ⟨0, 0, none, 0, by omega, rfl, rfl, Junk.refl _, Lib.hid rfl, Lib.hid rfl, Lib.hid (OwB.nil _ _ _)⟩
  case round =>
    obtain ⟨k, A, oz, cz, hk, rfl, rfl, hj, hA, hG, hO⟩ := hrel
    have HJ := Lib.hid hj
    have t17 := ((hj.below (Nat.le_refl _)).cell (p := ⟨w.heap.size, 17, none⟩) (by simp)).trans (show (w.alloc (.cells #[.int .u32 b.src, .int .u32 b.dst, .int .i64 b.id, .int .i64 b.proto, .int .i64 b.born, .int .i64 b.head.tos, .int .i64 b.head.id, .bool b.head.df, .bool b.head.mf, .int .i64 b.head.off, .int .i64 b.head.ttl, .int .i64 b.head.proto, .int .u32 b.head.src, .int .u32 b.head.dst, .slice b.ho b.head.ol b.hoc, .slice b.hb b.head.bl b.hbc, .bool b.first, .int .i64 b.total, .slice b.ro n b.rc] 45)).cell? ⟨w.heap.size, 17, none⟩ = some (.int .i64 b.total) by rw [World.cell?_alloc_new]; rfl)
    have ts : w.heap.size < wr.heap.size := Nat.lt_of_lt_of_le (by simp) hj.size
    have hA9 : A ≤ 1000000000 := by have h1 := heldO_take_le D k; have h2 := HS.out; rw [HD.out] at h2; have := hA.out; omega
    clear hj
    by_cases hkn : k < n
    · have hkn2 : (k : Int) < (n : Int) := by omega
      have pk := wrapk_i64 ((k : Int) + 1) (by omega) (by omega)
      obtain ⟨f, hf⟩ : ∃ f, b.F[k]? = some f := ⟨_, List.getElem?_eq_getElem (by rw [HN.out]; exact hkn)⟩
      obtain ⟨gx, ox, hox, hgx, d0, d1, hbf⟩ := (HR.out.on ((show Junk w _ by (exact jkc)).trans HJ.out)) k f hf
      have hfd : D[k]? = some f.d := by rw [← HD.out, List.getElem?_map, hf]; rfl
      have HGS := Lib.hid (gapGo_drop (at_ := (A : Int)) hfd)
      have HTK := Lib.hid (heldO_take hfd)
      have hb9 : A + f.l ≤ 1000000000 := by have h1 := heldO_take_le D (k + 1); have h2 := HS.out; rw [HD.out] at h2; have h3 := HTK.out; have h4 := hA.out; simp only [Ot.d] at h3; omega
      have HZ2 := Lib.hid (show ∀ j, j < f.l → zs (A + j) = f.xs j from fun j hj => by rw [← HZ.out, hA.out]; exact catF_at hfd j hj)
      have HBF := Lib.hid hbf
      obtain ⟨fk, fo, fl, fc, fx⟩ := f
      simp only at d0 d1 hb9
      rw [hox] at HJ hO ⊢
      clear hf hbf hfd
      cases hq : (fk == (A : Int)) with
      | false =>
        have hq2 : (fk != (A : Int)) = true := by simp [bne, hq]
        have HF := Lib.hid (show gapGo 0 D = false from by rw [hG.out, HGS.out]; show ((fk == (A : Int)) && _) = false; rw [hq]; rfl)
        clear hq
        go_wp2
        go_returns
        exact ⟨(show Junk w _ by (exact jkc)).trans (HJ.out.trans (by (exact jkc))), .inl ⟨by rw [HQ.out]; exact HF.out, rfl⟩⟩
      | true =>
        have hq2 : (fk != (A : Int)) = false := by simp [bne, hq]
        have HF := Lib.hid (show gapGo 0 D = gapGo ((A + fl : Nat) : Int) (D.drop (k + 1)) from by rw [hG.out, HGS.out]; show ((fk == (A : Int)) && gapGo ((A : Int) + (fl : Int)) _) = _; rw [hq, Bool.true_and]; congr 1)
        clear hq
        go_wp2_with (first | (at_builtin; (refine ap_bz rfl _ _ rfl (HJ.out.trans (by (exact jkc))) oz cz A zs rfl (hO.out.on (by (exact jkc))) fo fl fc rfl (ints_congr (HBF.out.at_.on (by (exact jkc))) (fun j hj => (HZ2.out j hj).symm)) HBF.out.nil (by omega) ?_; intro oN cN osN dN h_N hnN; have HN1 := Lib.hid h_N; clear h_N hnN)))
        exact ⟨⟨k + 1, A + fl, oN, cN, by omega, rfl, by go_num, by (exact jkc), Lib.hid (by rw [HTK.out, ← hA.out]; rfl), HF, Lib.hid (HN1.out.on (by (exact jkc)))⟩, by simp [intOf]; omega⟩
    · have hkn2 : ¬ (k : Int) < (n : Int) := by omega
      obtain rfl : k = n := by omega
      have hDl : D.length = k := by rw [← HD.out, List.length_map, HN.out]
      have HT := Lib.hid (show A = heldO D from by have := hA.out; rw [List.take_of_length_le (by omega)] at this; exact this)
      have HF := Lib.hid (show gapGo 0 D = true from by rw [hG.out, List.drop_eq_nil_of_le (by omega)]; rfl)
      go_upto_region 9 with (fail)
      refine wp_region_junk (by kernel_rfl) (by kernel_rfl) ?_; (repeat (go_big_quiet_step (first | fail))); refine wpQuiet_nil ?_; rintro _ ⟨⟨osq9, dq9⟩, rfl⟩
      go_wp2
      go_returns
      refine ⟨(show Junk w _ by (exact jkc)).trans (HJ.out.trans (by (exact jkc))), .inr ⟨by rw [HQ.out]; exact HF.out, oz, cz, by rw [HQ.out, ← HT.out]; rfl, ?_, (own_fresh hO.out).lower (by simp)⟩⟩
      rw [HQ.out, ← HT.out, HZ.out]
      exact (hO.out.on (by (exact jkc))).bts (by rw [HT.out, ← HZ.out]; exact HB.out)
end Go.Proofs.Ytgjppmkadmfibaa
set_option linter.unusedVariables false
set_option maxRecDepth 100000
set_option linter.unusedSimpArgs false
namespace Go.Proofs.Ytgjppmkadmfibaa
open Go.RowKit
def cmpI (a b : Int) : Int := if a < b then -1 else if b < a then 1 else 0
theorem cnan_any (x : Int) (w : World) : Calls Try.prog 62 #[.int .i64 x] w fun e w' => e = .returned (.bool false) ∧ w = w' := by
  go_enter Try.func62, Try.ntmps62
  go_wp2
  go_ret
  exact ⟨ret_bool (by simp), rfl⟩
theorem ccmp_any (x y : Int) (w : World) : Calls Try.prog 54 #[.int .i64 x, .int .i64 y] w fun e w' => e = .returned (.int .i64 (cmpI x y)) ∧ Junk w w' := by
  by_cases h1 : x < y
  · have e : cmpI x y = -1 := by unfold cmpI; rw [if_pos h1]
    rw [e]
    clear e
    go_enter Try.func54, Try.ntmps54
    go_wp2_with (first | (go_at_call 62; refine (cnan_any _ _).mono ?_; rintro e w' ⟨rfl, rfl⟩))
    go_ret
    exact ⟨rfl, by (exact jkc)⟩
  · by_cases h2 : y < x
    · have e : cmpI x y = 1 := by unfold cmpI; rw [if_neg h1, if_pos h2]
      rw [e]
      clear e
      go_enter Try.func54, Try.ntmps54
      go_wp2_with (first | (go_at_call 62; refine (cnan_any _ _).mono ?_; rintro e w' ⟨rfl, rfl⟩))
      go_ret
      exact ⟨rfl, by (exact jkc)⟩
    · have e : cmpI x y = 0 := by unfold cmpI; rw [if_neg h1, if_neg h2]
      rw [e]
      clear e
      go_enter Try.func54, Try.ntmps54
      go_wp2_with (first | (go_at_call 62; refine (cnan_any _ _).mono ?_; rintro e w' ⟨rfl, rfl⟩))
      go_ret
      exact ⟨rfl, by (exact jkc)⟩
theorem add1_any (x t : Ot) (w : World) : Calls Try.prog 53 #[x.val, t.val] w fun e w' => e = .returned (.int .i64 (cmpI x.k t.k)) ∧ Junk w w' := by
  obtain ⟨xk, xo, xl, xc, xx⟩ := x
  obtain ⟨tk, tz, tl, tc, tx⟩ := t
  go_enter Try.func53, Try.ntmps53
  go_wp2_with (first | (go_at_call 54; (with_reducible refine (ccmp_any _ _ _).mono ?_); rintro e w' ⟨rfl, ⟨osj, dj, rfl⟩⟩))
  go_ret
  exact ⟨rfl, by (exact jkc)⟩
theorem cmpI_neg (a b : Int) : cmpI a b < 0 ↔ a < b := by unfold cmpI; split <;> (try split) <;> omega
theorem cmpI_zero (a b : Int) : cmpI a b = 0 ↔ a = b := by unfold cmpI; split <;> (try split) <;> omega
def OtSorted (L : List Ot) : Prop := ∀ (i j : Nat) (x y : Ot), i < j → L[i]? = some x → L[j]? = some y → x.k < y.k
def foundR (L : List Ot) (t : Ot) (k : Nat) : Bool := match L[k]? with
  | some x => decide (x.k = t.k)
  | none => false
def LowR (L : List Ot) (t : Ot) (i : Nat) : Prop := ∀ m, m < i → ∀ x : Ot, L[m]? = some x → x.k < t.k
def HighR (L : List Ot) (t : Ot) (j : Nat) : Prop := ∀ m, j ≤ m → ∀ x : Ot, L[m]? = some x → t.k ≤ x.k
structure OtPos (L : List Ot) (t : Ot) (k : Nat) : Prop where
  le : k ≤ L.length
  low : LowR L t k
  high : HighR L t k
theorem lowR_to {L : List Ot} {t x : Ot} {h : Nat} (hs : OtSorted L) (hx : L[h]? = some x) (hl : x.k < t.k) : LowR L t (h + 1) := fun m hm y hy => by
  by_cases e : m = h
  · subst e; rw [hx] at hy; cases hy; exact hl
  · have := hs m h y x (by omega) hy hx; omega
theorem highR_to {L : List Ot} {t x : Ot} {h : Nat} (hs : OtSorted L) (hx : L[h]? = some x) (hl : t.k ≤ x.k) : HighR L t h := fun m hm y hy => by
  by_cases e : m = h
  · subst e; rw [hx] at hy; cases hy; exact hl
  · have := hs h m x y (by omega) hx hy; omega
set_option maxHeartbeats 4000000 in
theorem bsearchR_any (oa : Option Addr) (l c : Nat) (L : List Ot) (t : Ot) (w : World) (hl : l ≤ 1000000) (hL : L.length = l) (hS : OsAt w oa L) (hs : OtSorted L) :
    Calls Try.prog 52 #[.slice oa l c, t.val, .func (.func 53) #[] #[]] w fun e w' => ∃ k : Nat, e = .returned (.tuple #[.int .i64 k, .bool (foundR L t k)]) ∧ Junk w w' ∧ OtPos L t k := by
  have HS := Lib.hid hS
  have HL := Lib.hid hL
  have HSO := Lib.hid hs
  clear hS hs hL
  obtain ⟨tk, tz, tl, tc, tx⟩ := t
  show Calls Try.prog 52 #[.slice oa l c, .agg #[.int .i64 tk, .slice tz tl tc], .func (.func 53) #[] #[]] w _
  go_enter Try.func52, Try.ntmps52
  go_wp2
  go_loopw [9, 10] (fun i j wr => ∃ a b : Nat, i = .int .i64 (a : Int) ∧ j = .int .i64 (b : Int) ∧ Junk (w.alloc (.cells #[.int .i64 tk, .slice tz tl tc] 72)) wr ∧ a ≤ b ∧ b ≤ l ∧ Hid (LowR L ⟨tk, tz, tl, tc, tx⟩ a) ∧ Hid (HighR L ⟨tk, tz, tl, tc, tx⟩ b)) (fun i j _ => (intOf j).toNat - (intOf i).toNat)
  case atStart => exact ⟨0, l, rfl, rfl, by (exact jkc), by omega, by omega, Lib.hid (fun m hm => by omega), Lib.hid (fun m hm x hx => by have := (List.getElem?_eq_some_iff.1 hx).1; rw [HL.out] at this; omega)⟩
  case round =>
    obtain ⟨a, b, rfl, rfl, ⟨os, d, rfl⟩, hab, hbl, hA, hB⟩ := hrel
    by_cases hlt : a < b
    · have h1 : (a : Int) < (b : Int) := by omega
      obtain ⟨H, hH⟩ : ∃ H, H = (a + b) / 2 := ⟨_, rfl⟩
      have e1 : ((a : Int) + (b : Int)) / 2 = (H : Int) := by omega
      have e2 : H < l := by omega
      have e3 : (H : Int) < (l : Int) := by omega
      have e4 : a ≤ H ∧ H < b := by omega
      clear hH
      obtain ⟨x, hx⟩ : ∃ x, L[H]? = some x := ⟨_, List.getElem?_eq_getElem (by rw [HL.out]; exact e2)⟩
      obtain ⟨bb, off, hob, hbb, z0, z1, -⟩ := HS.out H x hx
      subst hob
      have HX := Lib.hid hx
      obtain ⟨R, hR⟩ : ∃ R, cmpI x.k tk = R := ⟨_, rfl⟩
      have HR := Lib.hid hR
      have HO := Lib.hid (fun w1 => show Calls Try.prog 53 #[x.val, .agg #[.int .i64 tk, .slice tz tl tc]] w1 fun e w' => e = .returned (.int .i64 R) ∧ Junk w1 w' by rw [← HR.out]; exact add1_any x ⟨tk, tz, tl, tc, tx⟩ w1)
      clear hx hR
      by_cases q : R < 0
      · have HA2 := Lib.hid (lowR_to (t := ⟨tk, tz, tl, tc, tx⟩) HSO.out HX.out ((cmpI_neg _ _).1 (by rw [HR.out]; exact q)))
        go_wp2
        refine wp_region_junk (by kernel_rfl) (by kernel_rfl) ?_; (repeat (go_big_quiet_step (first | (go_at_call 53; with_reducible exact Calls.jc (HO.out _))))); refine wpQuiet_nil ?_; rintro _ ⟨⟨osq, dq⟩, rfl⟩
        go_wp2
        exact ⟨⟨H + 1, b, by go_num, rfl, by (exact jkc), by omega, by omega, HA2, hB⟩, by simp [intOf]; omega⟩
      · have HB2 := Lib.hid (highR_to (t := ⟨tk, tz, tl, tc, tx⟩) HSO.out HX.out (show tk ≤ x.k by
          by_cases hc : x.k < tk
          · have := (cmpI_neg _ _).2 hc; rw [HR.out] at this; omega
          · omega))
        go_wp2
        refine wp_region_junk (by kernel_rfl) (by kernel_rfl) ?_; (repeat (go_big_quiet_step (first | (go_at_call 53; with_reducible exact Calls.jc (HO.out _))))); refine wpQuiet_nil ?_; rintro _ ⟨⟨osq, dq⟩, rfl⟩
        go_wp2
        exact ⟨⟨a, H, rfl, by go_num, by (exact jkc), by omega, by omega, hA, HB2⟩, by simp [intOf]; omega⟩
    · obtain rfl : a = b := by omega
      have h1 : ¬ (a : Int) < (a : Int) := by omega
      have HP := Lib.hid (show OtPos L ⟨tk, tz, tl, tc, tx⟩ a from ⟨by rw [HL.out]; exact hbl, hA.out, hB.out⟩)
      by_cases hal : a < l
      · have h2 : (a : Int) < (l : Int) := by omega
        obtain ⟨x, hx⟩ : ∃ x, L[a]? = some x := ⟨_, List.getElem?_eq_getElem (by rw [HL.out]; exact hal)⟩
        obtain ⟨bb, off, hob, hbb, z0, z1, -⟩ := HS.out a x hx
        subst hob
        have HF : foundR L ⟨tk, tz, tl, tc, tx⟩ a = decide (cmpI x.k tk = 0) := by unfold foundR; rw [hx]; simp only [cmpI_zero]
        obtain ⟨R, hR⟩ : ∃ R, cmpI x.k tk = R := ⟨_, rfl⟩
        rw [hR] at HF
        have HO := Lib.hid (fun w1 => show Calls Try.prog 53 #[x.val, .agg #[.int .i64 tk, .slice tz tl tc]] w1 fun e w' => e = .returned (.int .i64 R) ∧ Junk w1 w' by rw [← hR]; exact add1_any x ⟨tk, tz, tl, tc, tx⟩ w1)
        have HF := Lib.hid HF
        clear hx hR
        cases q : (R == 0) with
        | true =>
          have HF2 := Lib.hid (show foundR L ⟨tk, tz, tl, tc, tx⟩ a = true by rw [HF.out]; simpa using q)
          go_wp2
          refine wp_region_junk (by kernel_rfl) (by kernel_rfl) ?_; (repeat (go_big_quiet_step (first | (go_at_call 53; with_reducible exact Calls.jc (HO.out _))))); refine wpQuiet_nil ?_; rintro _ ⟨⟨osq, dq⟩, rfl⟩
          go_wp2
          go_returns
          exact ⟨a, by rw [HF2.out]; rfl, by (exact jkc), HP.out⟩
        | false =>
          have HF2 := Lib.hid (show foundR L ⟨tk, tz, tl, tc, tx⟩ a = false by rw [HF.out]; simpa using q)
          go_wp2
          refine wp_region_junk (by kernel_rfl) (by kernel_rfl) ?_; (repeat (go_big_quiet_step (first | (go_at_call 53; with_reducible exact Calls.jc (HO.out _))))); refine wpQuiet_nil ?_; rintro _ ⟨⟨osq, dq⟩, rfl⟩
          go_wp2
          go_returns
          exact ⟨a, by rw [HF2.out]; rfl, by (exact jkc), HP.out⟩
      · have h2 : ¬ (a : Int) < (l : Int) := by omega
        have HF2 := Lib.hid (show foundR L ⟨tk, tz, tl, tc, tx⟩ a = false by unfold foundR; rw [List.getElem?_eq_none (by rw [HL.out]; omega)])
        go_wp2
        refine wp_region_junk (by kernel_rfl) (by kernel_rfl) ?_; (repeat (go_big_quiet_step (first | fail))); refine wpQuiet_nil ?_; rintro _ ⟨⟨osq, dq⟩, rfl⟩
        go_wp2
        go_returns
        exact ⟨a, by rw [HF2.out]; rfl, by (exact jkc), HP.out⟩
end Go.Proofs.Ytgjppmkadmfibaa
