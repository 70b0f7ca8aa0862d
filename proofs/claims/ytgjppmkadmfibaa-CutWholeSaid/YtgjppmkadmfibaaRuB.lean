/- A law's own list of pieces, its pool, and Take of a piece. -/
import Derived.Test.YtgjppmkadmfibaaRtM
import Derived.Test.YtgjppmkadmfibaaRuA
import Derived.Test.YtgjppmkadmfibaaPk
set_option linter.unusedVariables false
set_option maxRecDepth 100000
set_option linter.unusedSimpArgs false
namespace Go.Proofs.Ytgjppmkadmfibaa
open Go.RowKit
theorem own_keep {B : Nat} {w w' : World} {e e' : TypeId} {sz : Nat} {oa : Option Addr} {cap n r : Nat} {xs cs : List Value} (h : Own B w e sz oa cap n xs) (hb : Box w r e' cs) (hne : e ≠ e') (hg : w.grownBy w' (some r)) : Own B w' e sz oa cap n xs := by
  refine ⟨h.1, ?_⟩
  rcases h.2 with hn | ⟨g, cap', cur, h1, hB, hgc, hr⟩
  · exact .inl hn
  · refine .inr ⟨g, cap', cur, h1, hB, (hg.block g (Array.getElem?_eq_some_iff.1 hgc).1 (fun e1 => ?_)).trans hgc, hr⟩
    cases e1
    unfold Box at hb
    rw [hb] at hgc
    simp only [Option.some.injEq, Obj.cells.injEq] at hgc
    exact hne hgc.2.1.symm
theorem ipAt_keep {w w' : World} {p : Ip} {oo ob : Option Addr} {oc bc r : Nat} (h : IpAt w p oo oc ob bc) (nb : ∀ j v, w.cell? ⟨r, j, none⟩ ≠ some (.int .u8 v)) (hg : w.grownBy w' (some r)) : IpAt w' p oo oc ob bc :=
  ⟨h.opts.grown hg (bts_off nb h.opts), h.body.grown hg (bts_off nb h.body), h.src, h.dst⟩
theorem bts_like {w : World} {oa : Option Addr} {l m c : Nat} {xs ys : Nat → Int} (h : Bts w oa l c xs) (hs : sameN xs ys l m = true) : Bts w oa m c ys := by
  obtain ⟨rfl, he⟩ := of_decide_eq_true hs
  refine ⟨fun i hi => ?_, fun i hi => ?_, h.nil, h.le, h.cap⟩
  · obtain ⟨b, off, h1, h2, h3⟩ := h.at_ i hi
    exact ⟨b, off, h1, h2, by rw [h3, he i hi]⟩
  · rw [← he i hi]; exact h.byte i hi
theorem same_at {w : World} {y X : Ip} {o1 o2 : Option Addr} {c1 c2 : Nat} (h : sameIp y X = true) (ha : IpAt w y o1 c1 o2 c2) : IpAt w X o1 c1 o2 c2 ∧ (.agg #[.int .i64 y.tos, .int .i64 y.id, .bool y.df, .bool y.mf, .int .i64 y.off, .int .i64 y.ttl, .int .i64 y.proto, .int .u32 y.src, .int .u32 y.dst, .slice o1 y.ol c1, .slice o2 y.bl c2] : Value) = .agg #[.int .i64 X.tos, .int .i64 X.id, .bool X.df, .bool X.mf, .int .i64 X.off, .int .i64 X.ttl, .int .i64 X.proto, .int .u32 X.src, .int .u32 X.dst, .slice o1 X.ol c1, .slice o2 X.bl c2] := by
  unfold sameIp headSame at h
  simp only [Bool.and_eq_true, beq_iff_eq] at h
  obtain ⟨⟨⟨⟨⟨⟨⟨⟨⟨⟨h1, h2⟩, h3⟩, h4⟩, h5⟩, h6⟩, h7⟩, h8⟩, h9⟩, h10⟩, h11⟩ := h
  have e1 := (of_decide_eq_true h10).1
  have e2 := (of_decide_eq_true h11).1
  refine ⟨⟨bts_like ha.opts h10, bts_like ha.body h11, by rw [← h8]; exact ha.src, by rw [← h9]; exact ha.dst⟩, ?_⟩
  rw [h1, h2, h3, h4, h5, h6, h7, h8, h9, e1, e2]
/-- Take of a piece of X. -/
theorem take_pc {room life : Int} {X : Ip} {n : Nat} {R : List Pc} {Q : List Bq} {k : Nat} {p : Pc} {oq : Option Addr} {lq cq : Nat} {f : Fr} {w : World} (hX : WhX X n) (hn : n ≤ 65000) (hroom : (n : Int) ≤ room) (hQ : QsAt w oq lq cq Q) (hK : PoK room life 0 Q)
    (hW : GoW X n R Q) (hk : R[k]? = some p) (hf : f.p = pcI X p) (hA : f.At w) :
    Calls Try.prog 10 #[.agg #[.int .i64 room, .int .i64 life, .int .i64 0, .slice oq lq cq], .agg #[.int .i64 f.p.tos, .int .i64 f.p.id, .bool f.p.df, .bool f.p.mf, .int .i64 f.p.off, .int .i64 f.p.ttl, .int .i64 f.p.proto, .int .u32 f.p.src, .int .u32 f.p.dst, .slice f.oo f.p.ol f.oc, .slice f.ob f.p.bl f.bc]] w fun e w' => Junk w w' ∧ ∃ (ol : Option Addr) (cap l2 : Nat) (Q2 : List Bq) (y : Ip) (o1 o2 : Option Addr) (c1 c2 : Nat) (ok : Bool),
      QsAt w' ol l2 cap Q2 ∧ PoK room life 0 Q2 ∧ (ok = true → R.eraseIdx k = [] ∧ y = X) ∧ (ok = false → R.eraseIdx k ≠ []) ∧ GoW X n (R.eraseIdx k) Q2 ∧ IpAt w' y o1 c1 o2 c2 ∧
      e = .returned (.tuple #[.agg #[.int .i64 room, .int .i64 life, .int .i64 0, .slice ol l2 cap], .agg #[.int .i64 y.tos, .int .i64 y.id, .bool y.df, .bool y.mf, .int .i64 y.off, .int .i64 y.ttl, .int .i64 y.proto, .int .u32 y.src, .int .u32 y.dst, .slice o1 y.ol c1, .slice o2 y.bl c2], .bool ok, .int .i64 0]) := by
  have hl := hK.len
  rw [hQ.len] at hl
  have hm := may_iff.1 hX.may
  have hpl := gw_len hW (List.mem_of_getElem? hk)
  have hw := gw_take (life := life) hX hn hroom hK.right hW hk
  have hpk := hK.take (x := f.p) hA.src hA.dst
  rw [hf] at hpk
  have hA2 : IpAt w (pcI X p) f.oo f.oc f.ob f.bc := by rw [← hf]; exact hA
  rw [hf]
  refine (take_any room life 0 oq lq cq Q (pcI X p) f.oo f.ob f.oc f.bc w hQ (by omega) hK.ok hA2 (by show X.ol ≤ 1000; have := hm.ol; omega) (by show p.l ≤ 1000000; omega) (by omega)).mono ?_
  rintro e w' ⟨hj, ol, cap, o1, o2, c1, c2, h3, h4, rfl⟩
  by_cases hR : R.eraseIdx k = []
  · obtain ⟨y, ht, hs⟩ := hw.1 hR
    rw [ht] at hpk h3 h4 ⊢
    obtain ⟨h5, h6⟩ := same_at hs h4
    exact ⟨hj, ol, cap, _, _, X, o1, o2, c1, c2, true, h3, hpk, fun _ => ⟨hR, rfl⟩, (fun h => by cases h), by rw [hR]; exact .inr ⟨rfl, .inl rfl⟩, h5, by simp only at h6 ⊢; rw [h6]⟩
  · obtain ⟨Q2, ht, hq⟩ := hw.2 hR
    rw [ht] at hpk h3 h4 ⊢
    exact ⟨hj, ol, cap, _, _, zeroIp, o1, o2, c1, c2, false, h3, hpk, (fun h => by cases h), fun _ => hR, hq, h4, rfl⟩
theorem bts_part {w : World} {oa : Option Addr} {l c : Nat} {xs : Nat → Int} (h : Bts w oa l c xs) (h0 : 0 < l) : ∃ b off, oa = some ⟨b, off, none⟩ ∧ b < w.heap.size := by
  obtain ⟨b, off, h1, h2, _⟩ := h.at_ 0 h0
  exact ⟨b, off, h1, h2⟩
theorem bts_mid {w : World} {b off l c : Nat} {xs : Nat → Int} (h : Bts w (some ⟨b, off, none⟩) l c xs) (i j : Nat) (hij : i ≤ j) (hj : j ≤ l) (hc : c ≠ i) : Bts w (some ⟨b, off + i, none⟩) (j - i) (c - i) (fun k => xs (i + k)) := by
  have := bts_sub h i j hij hj
  rwa [if_neg hc] at this
theorem junk_nil9 (w : World) : w = w.junk #[] w.drawn := by simp [World.junk]
theorem contig_snoc {n : Nat} {p : Pc} : ∀ {a : Nat} {P : List Pc}, contig a n P → p.o = n → 0 < p.l → contig a (n + p.l) (P ++ [p])
  | a, [], h, h1, h2 => by
    have h' : a = n := h
    exact ⟨by omega, h2, by show a + p.l = n + p.l; omega⟩
  | a, q :: P, ⟨h1, h2, h3⟩, h4, h5 => ⟨h1, h2, contig_snoc h3 h4 h5⟩
/-- The part of X from a to e, as a piece in memory. -/
theorem part_at {w : World} {X : Ip} {oo : Option Addr} {oc b boff bc a e : Nat} {mf : Bool} (h : IpAt w X oo oc (some ⟨b, boff, none⟩) bc) (h1 : a ≤ e) (h2 : e ≤ X.bl) (h3 : bc ≠ a) : Fr.At w ⟨pcI X ⟨a, e - a, mf⟩, oo, oc, some ⟨b, boff + a, none⟩, bc - a⟩ :=
  ⟨h.opts, bts_mid h.body a e h1 h2 h3, h.src, h.dst⟩
theorem mem_snoc {α : Type} {L : List α} {x : α} {P : α → Prop} (h : ∀ y ∈ L, P y) (hx : P x) : ∀ y ∈ L ++ [x], P y := fun y hy => by
  rcases List.mem_append.1 hy with h1 | h1
  · exact h y h1
  · rw [List.mem_singleton.1 h1]; exact hx
theorem contig_to {a n : Nat} {P : List Pc} (h : contig 0 a P) (han : a < n) (hm : ∀ p ∈ P, p.mf = true ∧ p.l % 8 = 0) : CutOf n (P ++ [⟨a, n - a, false⟩]) := by
  have h1 := contig_snoc (p := ⟨a, n - a, false⟩) h rfl (show 0 < n - a by omega)
  refine ⟨by simp only at h1; rwa [show a + (n - a) = n by omega] at h1, fun p hp => ?_, fun p hp => ?_⟩
  · rcases List.mem_append.1 hp with h2 | h2
    · rw [(hm p h2).1]
      have := (contig_le h).2 p h2
      exact (decide_eq_true (show p.o + p.l < n by omega)).symm
    · rw [List.mem_singleton.1 h2]
      exact (decide_eq_false (show ¬ a + (n - a) < n by omega)).symm
  · rcases List.mem_append.1 hp with h2 | h2
    · exact fun _ => (hm p h2).2
    · rw [List.mem_singleton.1 h2]
      intro h; cases h
theorem new_1000 (w : World) : Calls Try.prog 9 #[.int .i64 1000, .int .i64 10] w fun e w' => e = .returned (.tuple #[.agg #[.int .i64 1000, .int .i64 10, .int .i64 0, .slice none 0 0], .int .i64 0]) ∧ Junk w w' :=
  (new_any 1000 10 w).mono fun e w' h => ⟨by rw [h.2]; rfl, h.1⟩
theorem new_2000 (w : World) : Calls Try.prog 9 #[.int .i64 2000, .int .i64 10] w fun e w' => e = .returned (.tuple #[.agg #[.int .i64 2000, .int .i64 10, .int .i64 0, .slice none 0 0], .int .i64 0]) ∧ Junk w w' :=
  (new_any 2000 10 w).mono fun e w' h => ⟨by rw [h.2]; rfl, h.1⟩
theorem own_lt {B : Nat} {w : World} {e : TypeId} {sz g cap n : Nat} {xs : List Value} (h : Own B w e sz (some ⟨g, 0, none⟩) cap n xs) : g < w.heap.size := by
  rcases h.form with ⟨h1, _⟩ | ⟨g', cur, h1, _, h2, _⟩
  · cases h1
  · cases h1; exact (Array.getElem?_eq_some_iff.1 h2).1
/-- The eleven cells of a packet of the list. -/
theorem cells_fr {w : World} {B : Nat} {e : TypeId} {g cap n : Nat} {L : List Fr} (h : Own B w e 11 (some ⟨g, 0, none⟩) cap n (cellsL L)) (i : Nat) (f : Fr) (hi : L[i]? = some f) :
    w.cell? ⟨g, i * 11, none⟩ = some (.int .i64 f.p.tos) ∧ w.cell? ⟨g, i * 11 + 1, none⟩ = some (.int .i64 f.p.id) ∧ w.cell? ⟨g, i * 11 + 2, none⟩ = some (.bool f.p.df) ∧ w.cell? ⟨g, i * 11 + 3, none⟩ = some (.bool f.p.mf) ∧ w.cell? ⟨g, i * 11 + 4, none⟩ = some (.int .i64 f.p.off) ∧ w.cell? ⟨g, i * 11 + 5, none⟩ = some (.int .i64 f.p.ttl) ∧ w.cell? ⟨g, i * 11 + 6, none⟩ = some (.int .i64 f.p.proto) ∧ w.cell? ⟨g, i * 11 + 7, none⟩ = some (.int .u32 f.p.src) ∧ w.cell? ⟨g, i * 11 + 8, none⟩ = some (.int .u32 f.p.dst) ∧ w.cell? ⟨g, i * 11 + 9, none⟩ = some (.slice f.oo f.p.ol f.oc) ∧ w.cell? ⟨g, i * 11 + 10, none⟩ = some (.slice f.ob f.p.bl f.bc) := by
  have hk : ∀ k v, k < 11 → f.cells[k]? = some v → w.cell? ⟨g, i * 11 + k, none⟩ = some v := fun k v hk hv => by
    obtain ⟨g', h1, _, _, h2, _⟩ := h.cells (i * 11 + k) v (by rw [cellsL_get L i f hi k hk]; exact hv)
    cases h1
    exact h2
  exact ⟨hk 0 _ (by decide) rfl, hk 1 _ (by decide) rfl, hk 2 _ (by decide) rfl, hk 3 _ (by decide) rfl, hk 4 _ (by decide) rfl, hk 5 _ (by decide) rfl, hk 6 _ (by decide) rfl, hk 7 _ (by decide) rfl, hk 8 _ (by decide) rfl, hk 9 _ (by decide) rfl, hk 10 _ (by decide) rfl⟩
def slLen : Value → Nat
  | .slice _ n _ => n
  | _ => 0
/-- The list without one element, by two appends. -/
theorem cells_cut (L : List Fr) (k : Nat) : cellsL (L.take k) ++ cellsL (L.drop (k + 1)) = cellsL (L.eraseIdx k) := by rw [← cellsL_app, List.eraseIdx_eq_take_drop_succ]
theorem own_src {B : Nat} {w : World} {e : TypeId} {g cap m : Nat} {L : List Fr} (h : Own B w e 11 (some ⟨g, 0, none⟩) cap m (cellsL L)) (k : Nat) (M : List Fr) (hM : ∀ i f, M[i]? = some f → L[k + i]? = some f) :
    ∀ j u, (cellsL M)[j]? = some u → w.cell? ⟨g, k * 11 + j, none⟩ = some u := by
  intro j u hu
  have hl := (List.getElem?_eq_some_iff.1 hu).1
  rw [cellsL_len] at hl
  have h1 : M[j / 11]? = some M[j / 11] := List.getElem?_eq_getElem (by omega)
  have h2 := cellsL_get M (j / 11) _ h1 (j % 11) (Nat.mod_lt _ (by decide))
  rw [show j / 11 * 11 + j % 11 = j by omega, hu] at h2
  have h3 := cellsL_get L (k + j / 11) _ (hM _ _ h1) (j % 11) (Nat.mod_lt _ (by decide))
  rw [← h2, show (k + j / 11) * 11 + j % 11 = k * 11 + j by omega] at h3
  obtain ⟨g', e1, _, _, h4, _⟩ := h.cells _ _ h3
  cases e1
  exact h4
theorem take_src {L : List Fr} {k : Nat} : ∀ i f, (L.take k)[i]? = some f → L[0 + i]? = some f := fun i f h => by
  rw [List.getElem?_take] at h
  split at h
  · rw [Nat.zero_add]; exact h
  · cases h
theorem drop_src {L : List Fr} {k : Nat} : ∀ i f, (L.drop k)[i]? = some f → L[k + i]? = some f := fun i f h => by rwa [List.getElem?_drop] at h
theorem all_one {L : List Fr} : ∀ u ∈ cellsL L, u.oneCell' = true := fun u hu => by
  unfold cellsL at hu
  obtain ⟨c, hc, h1⟩ := List.mem_flatten.1 hu
  obtain ⟨f, _, rfl⟩ := List.mem_map.1 hc
  exact f.one u h1
theorem map_erase2 {α β : Type} (g : α → β) (L : List α) (k : Nat) : (L.eraseIdx k).map g = (L.map g).eraseIdx k := by
  rw [List.eraseIdx_eq_take_drop_succ, List.eraseIdx_eq_take_drop_succ, List.map_append, List.map_take, List.map_drop]
/-- The pool's variable of a law that puts pieces together. -/
def StW (W : World) (r : Nat) (room life : Int) (X : Ip) (n : Nat) (R : List Pc) (wx : World) : Prop := Junk W wx ∧ W.heap.size ≤ r ∧ ∃ (oq : Option Addr) (lq cq : Nat) (Q : List Bq), Box wx r 31 [.int .i64 room, .int .i64 life, .int .i64 0, .slice oq lq cq] ∧ QsAt wx oq lq cq Q ∧ PoK room life 0 Q ∧ GoW X n R Q
theorem StW.on {W wx wy : World} {r : Nat} {room life : Int} {X : Ip} {n : Nat} {R : List Pc} (h : StW W r room life X n R wx) (hj : Junk wx wy) : StW W r room life X n R wy := by
  obtain ⟨h1, h2, oq, lq, cq, Q, h3, h4, h5, h6⟩ := h
  exact ⟨h1.trans hj, h2, oq, lq, cq, Q, h3.on hj, h4.on hj, h5, h6⟩
theorem stW_put {W wx wy : World} {r : Nat} {room life : Int} {X : Ip} {n : Nat} {R2 : List Pc} {oq : Option Addr} {lq cq : Nat} {Q Q2 : List Bq} {ol : Option Addr} {cap l2 : Nat} (h1 : Junk W wx) (h2 : W.heap.size ≤ r) (h3 : Box wx r 31 [.int .i64 room, .int .i64 life, .int .i64 0, .slice oq lq cq]) (h4 : QsAt wx oq lq cq Q)
    (h5 : QsAt wx ol l2 cap Q2) (h6 : PoK room life 0 Q2) (hg : wx.grownBy wy (some r)) (hb : Box wy r 31 [.int .i64 room, .int .i64 life, .int .i64 0, .slice ol l2 cap]) (hw : GoW X n R2 Q2) : StW W r room life X n R2 wy := by
  obtain ⟨L, h7, h8⟩ := h4.ex
  have hx : PoolBox wx r 31 room life 0 oq lq cq L := ⟨h3, h7, by rw [← h4.len, ← h8, List.length_map]⟩
  exact ⟨below_of_grown h1 hg (fun k hk => by cases hk; exact h2), h2, ol, l2, cap, Q2, hb, hx.qs h5 h6.runs hg, h6, hw⟩
/-- The second loop of such a law: what is left, and the pool. -/
def LpW (w : World) (X : Ip) (n : Nat) (R : List Pc) (r3 r : Nat) (room life : Int) (cX : List Value) (oq : Option Addr) (cq m : Nat) (L : List Fr) (wx : World) : Prop :=
  StW w r room life X n R wx ∧ Box wx r3 25 cX ∧ Own w.heap.size wx 25 11 oq cq m (cellsL L) ∧ L.map Fr.p = R.map (pcI X) ∧ (∀ f ∈ L, f.At w) ∧ R.length = m
theorem LpW.on {w wx wy : World} {X : Ip} {n : Nat} {R : List Pc} {r3 r : Nat} {room life : Int} {cX : List Value} {oq : Option Addr} {cq m : Nat} {L : List Fr} (h : LpW w X n R r3 r room life cX oq cq m L wx) (hj : Junk wx wy) : LpW w X n R r3 r room life cX oq cq m L wy :=
  ⟨h.1.on hj, h.2.1.on hj, h.2.2.1.on hj, h.2.2.2⟩
theorem StW.start {W wx : World} {r : Nat} {room life : Int} {X : Ip} {n : Nat} {R : List Pc} (h1 : Junk W wx) (h2 : W.heap.size ≤ r) (h3 : Box wx r 31 [.int .i64 room, .int .i64 life, .int .i64 0, .slice none 0 0]) (hw : (wiR room 1 1048576 && wiR life 1 1048576) = true) (hR : GoW X n R []) : StW W r room life X n R wx :=
  ⟨h1, h2, none, 0, 0, [], h3, qsat_nil _, PoK.new hw, hR⟩
end Go.Proofs.Ytgjppmkadmfibaa
