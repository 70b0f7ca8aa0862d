/- A pool that a law keeps in a variable of its own: what Take and Tick leave of it. -/
import Derived.Test.YtgjppmkadmfibaaRtL
set_option linter.unusedVariables false
set_option maxRecDepth 100000
set_option linter.unusedSimpArgs false
namespace Go.Proofs.Ytgjppmkadmfibaa
open Go.RowKit
section
variable {V V' : World} {r : Nat}
/-- A new variable for a packet: no list of buffers, and no bytes, lie there. -/
theorem zip_cell (h : Box V r 25 [.int .i64 0, .int .i64 0, .bool false, .bool false, .int .i64 0, .int .i64 0, .int .i64 0, .int .u32 0, .int .u32 0, .slice none 0 0, .slice none 0 0]) {j : Nat} {v : Value} (hv : V.cell? ⟨r, j, none⟩ = some v) : j < 11 ∧ ([.int .i64 0, .int .i64 0, .bool false, .bool false, .int .i64 0, .int .i64 0, .int .i64 0, .int .u32 0, .int .u32 0, .slice none 0 0, .slice none 0 0] : List Value)[j]? = some v := by
  have h1 := box_cell h hv
  exact ⟨(List.getElem?_eq_some_iff.1 h1).1, h1⟩
theorem zip_noByte (h : Box V r 25 [.int .i64 0, .int .i64 0, .bool false, .bool false, .int .i64 0, .int .i64 0, .int .i64 0, .int .u32 0, .int .u32 0, .slice none 0 0, .slice none 0 0]) : ∀ j v, V.cell? ⟨r, j, none⟩ ≠ some (.int .u8 v) := box_noByte h rfl
theorem zip_bfOff (h : Box V r 25 [.int .i64 0, .int .i64 0, .bool false, .bool false, .int .i64 0, .int .i64 0, .int .i64 0, .int .u32 0, .int .u32 0, .slice none 0 0, .slice none 0 0]) {b : Bf} (hi : BfIn V b) (h0 : 0 < b.F.length) : BfOff r b := by
  refine ⟨bts_off (zip_noByte h) hi.head.opts, bts_off (zip_noByte h) hi.head.body, fun he => ?_, fun f hf => ?_⟩
  · obtain ⟨g, off, hro, hlt, c0, c1, hb3⟩ := hi.runs 0 _ (List.getElem?_eq_getElem h0)
    rw [hro] at he
    have h4 : g = r := Option.some.inj he
    subst h4
    obtain ⟨a1, a2⟩ := zip_cell h c0
    obtain ⟨b1, b2⟩ := zip_cell h c1
    simp only [Nat.zero_mul, Nat.add_zero] at a1 a2 b1 b2
    match off, a1, a2, b2 with
    | 0, _, _, b2 => cases b2
    | 1, _, _, b2 => cases b2
    | 2, _, a2, _ => cases a2
    | 3, _, a2, _ => cases a2
    | 4, _, _, b2 => cases b2
    | 5, _, _, b2 => cases b2
    | 6, _, _, b2 => cases b2
    | 7, _, a2, _ => cases a2
    | 8, _, a2, _ => cases a2
    | 9, _, a2, _ => cases a2
    | 10, _, a2, _ => cases a2
  · obtain ⟨k, hk, rfl⟩ := List.getElem_of_mem hf
    obtain ⟨_, _, _, _, _, _, hb3⟩ := hi.runs k _ (List.getElem?_eq_getElem hk)
    exact bts_off (zip_noByte h) hb3
theorem zip_qs (h : Box V r 25 [.int .i64 0, .int .i64 0, .bool false, .bool false, .int .i64 0, .int .i64 0, .int .i64 0, .int .u32 0, .int .u32 0, .slice none 0 0, .slice none 0 0]) {ol : Option Addr} {l c : Nat} {Q : List Bq} (hP : QsAt V ol l c Q) (h0 : ∀ b ∈ Q, 0 < b.runs.length) (hg : V.grownBy V' (some r)) : QsAt V' ol l c Q := by
  obtain ⟨L, h1, h2⟩ := hP.ex
  refine ⟨⟨L, fun i b hb => ?_, h2⟩, hP.len, hP.cap, hP.nil⟩
  obtain ⟨g, off, he, hlt, hc, hin⟩ := h1 i b hb
  have hm := List.mem_of_getElem? hb
  have hne : g ≠ r := fun e => by
    subst e
    have := (zip_cell h (hc 18 _ rfl)).1
    omega
  have h3 : 0 < b.F.length := by
    have h3 := h0 b.q (by rw [← h2]; exact List.mem_map.2 ⟨b, hm, rfl⟩)
    have h4 : b.q.runs = b.F.map Ot.d := rfl
    rw [h4, List.length_map] at h3
    exact h3
  exact ⟨g, off, he, Nat.lt_of_lt_of_le hlt hg.size, fun j v hv => hg.cell (hc j v hv) (fun e => hne (Option.some.inj e)), hin.grown hg (zip_bfOff h hin h3)⟩
end
theorem then_genX {K : Act → World → Prop} {Q : Exit → Act → World → Prop} {x : Exit} {a : Act} {w : World} (X : World → Prop) (hX : X w) (h : ∀ V, X V → Exit.then K Q x a V) : Exit.then K Q x a w := h w hX
/-- What holds of the pool of a law, whatever came. -/
structure PoK (room life n : Int) (Q : List Bq) : Prop where
  right : rightQ room life n Q = true
  nm : ∀ b ∈ Q, NmB b
  young : ∀ b ∈ Q, oldB n life b = false
theorem PoK.ok {room life n : Int} {Q : List Bq} (h : PoK room life n Q) : QsOk Q := (rightQ_iff.1 h.right).ok h.nm
theorem PoK.len {room life n : Int} {Q : List Bq} (h : PoK room life n Q) : Q.length ≤ 64 := (rightQ_iff.1 h.right).len
theorem PoK.runs {room life n : Int} {Q : List Bq} (h : PoK room life n Q) : ∀ b ∈ Q, 0 < b.runs.length ∧ ∀ f ∈ b.runs, 0 < f.l := (rightQ_iff.1 h.right).runs
theorem PoK.take {room life n : Int} {Q : List Bq} (h : PoK room life n Q) {x : Ip} (hs : 0 ≤ x.src ∧ x.src ≤ 4294967295) (hd : 0 ≤ x.dst ∧ x.dst ≤ 4294967295) : PoK room life n (takeQ room life n Q x).1 :=
  ⟨takeQ_right h.right, takeQ_nm h.nm hs hd, takeQ_young (rightQ_iff.1 h.right).lf.1 h.young⟩
theorem PoK.tick {room life n t : Int} {Q : List Bq} (h : PoK room life n Q) (h1 : n ≤ t) (h2 : t ≤ 1099511627776) : PoK room life t (tickQ life t Q) :=
  ⟨tickQ_right h.right h1 h2, fun b hb => h.nm b ((List.filter_sublist ..).subset hb), tickQ_young⟩
theorem PoK.new {room life : Int} (h : (wiR room 1 1048576 && wiR life 1 1048576) = true) : PoK room life 0 [] := by
  rw [Bool.and_eq_true] at h
  refine ⟨?_, (fun _ h => by cases h), (fun _ h => by cases h)⟩
  unfold rightQ
  have h1 := (wiR_iff.1 h.1).1
  rw [h.1, h.2, show decide ((heldQ [] : Int) ≤ room) = true from decide_eq_true (show ((0 : Nat) : Int) ≤ room by omega)]
  rfl
/-- The pool's variable r9 of the law, behind the entry world W. -/
def StP (W : World) (r9 : Nat) (room life n : Int) (wx : World) : Prop := Junk W wx ∧ W.heap.size ≤ r9 ∧ ∃ (oq : Option Addr) (lq cq : Nat) (Q : List Bq), Box wx r9 31 [.int .i64 room, .int .i64 life, .int .i64 n, .slice oq lq cq] ∧ QsAt wx oq lq cq Q ∧ PoK room life n Q
theorem StP.on {W wx wy : World} {r9 : Nat} {room life n : Int} (h : StP W r9 room life n wx) (hj : Junk wx wy) : StP W r9 room life n wy := by
  obtain ⟨h1, h2, oq, lq, cq, Q, h3, h4, h5⟩ := h
  exact ⟨h1.trans hj, h2, oq, lq, cq, Q, h3.on hj, h4.on hj, h5⟩
/-- The variable is written anew. -/
theorem stP_put {W wx wy : World} {r9 : Nat} {room life n n2 : Int} {oq : Option Addr} {lq cq : Nat} {Q Q2 : List Bq} {ol : Option Addr} {cap l2 : Nat} (h1 : Junk W wx) (h2 : W.heap.size ≤ r9) (h3 : Box wx r9 31 [.int .i64 room, .int .i64 life, .int .i64 n, .slice oq lq cq]) (h4 : QsAt wx oq lq cq Q)
    (h5 : QsAt wx ol l2 cap Q2) (h6 : PoK room life n2 Q2) (hg : wx.grownBy wy (some r9)) (hb : Box wy r9 31 [.int .i64 room, .int .i64 life, .int .i64 n2, .slice ol l2 cap]) : StP W r9 room life n2 wy := by
  obtain ⟨L, h7, h8⟩ := h4.ex
  have hx : PoolBox wx r9 31 room life n oq lq cq L := ⟨h3, h7, by rw [← h4.len, ← h8, List.length_map]⟩
  exact ⟨below_of_grown h1 hg (fun k hk => by cases hk; exact h2), h2, ol, l2, cap, Q2, hb, hx.qs h5 h6.runs hg, h6⟩
theorem qst_held {w : World} {oq : Option Addr} {lq cq : Nat} {Q : List Bq} (hQ : QsAt w oq lq cq Q) (ho : QsOk Q) (hl : lq ≤ 1000000) (room life now : Int) :
    Calls Try.prog 14 #[.agg #[.int .i64 room, .int .i64 life, .int .i64 now, .slice oq lq cq]] w fun e w' => e = .returned (.int .i64 (heldQ Q)) ∧ Junk w w' := by
  obtain ⟨L, h1, h2⟩ := hQ.ex
  obtain ⟨o1, o2, o3⟩ := ho.of h2
  have h3 := held_any room life now oq lq cq L w h1 (by rw [← hQ.len, ← h2, List.length_map]) hl (by omega) (fun b hb => by have := (o2 b hb).1; omega)
  rw [h2] at h3
  exact h3
theorem qst_right {w : World} {oq : Option Addr} {lq cq : Nat} {Q : List Bq} (hQ : QsAt w oq lq cq Q) (ho : QsOk Q) (hl : lq ≤ 1000000) (room life now : Int) :
    Calls Try.prog 13 #[.agg #[.int .i64 room, .int .i64 life, .int .i64 now, .slice oq lq cq]] w fun e w' => e = .returned (.bool (rightQ room life now Q)) ∧ Junk w w' := by
  obtain ⟨L, h1, h2⟩ := hQ.ex
  obtain ⟨o1, o2, o3⟩ := ho.of h2
  have h3 := rright_any room life now oq lq cq L w h1 (by rw [← hQ.len, ← h2, List.length_map]) hl hQ.cap (by omega) (fun b hb => by have := (o2 b hb).1; omega) (fun b hb => (o2 b hb).2.1) o3
  rw [h2] at h3
  exact h3
/-- Take, as the laws use it. -/
theorem take_law (room life n : Int) (oq : Option Addr) (lq cq : Nat) (Q : List Bq) (x : Ipl) (w : World) (hQ : QsAt w oq lq cq Q) (hK : PoK room life n Q) (hX : IpAt w x.p x.oo x.oc x.ob x.bc) (hpo : x.p.ol ≤ 1000) (hpb : x.p.bl ≤ 1000000) :
    Calls Try.prog 10 #[.agg #[.int .i64 room, .int .i64 life, .int .i64 n, .slice oq lq cq], .agg #[.int .i64 x.p.tos, .int .i64 x.p.id, .bool x.p.df, .bool x.p.mf, .int .i64 x.p.off, .int .i64 x.p.ttl, .int .i64 x.p.proto, .int .u32 x.p.src, .int .u32 x.p.dst, .slice x.oo x.p.ol x.oc, .slice x.ob x.p.bl x.bc]] w fun e w' => Junk w w' ∧ ∃ (ol : Option Addr) (cap l2 : Nat) (Q2 : List Bq) (y : Ip) (o1 o2 : Option Addr) (c1 c2 : Nat) (ok : Bool) (er : Int),
      QsAt w' ol l2 cap Q2 ∧ PoK room life n Q2 ∧ (ok = false → y.bl = 0) ∧ (ok = true → er = 0) ∧ e = .returned (.tuple #[.agg #[.int .i64 room, .int .i64 life, .int .i64 n, .slice ol l2 cap], .agg #[.int .i64 y.tos, .int .i64 y.id, .bool y.df, .bool y.mf, .int .i64 y.off, .int .i64 y.ttl, .int .i64 y.proto, .int .u32 y.src, .int .u32 y.dst, .slice o1 y.ol c1, .slice o2 y.bl c2], .bool ok, .int .i64 er]) := by
  have hl := hK.len
  rw [hQ.len] at hl
  have hn := (rightQ_iff.1 hK.right).nw
  refine (take_any room life n oq lq cq Q x.p x.oo x.ob x.oc x.bc w hQ (by omega) hK.ok hX hpo hpb (by omega)).mono ?_
  rintro e w' ⟨hj, ol, cap, o1, o2, c1, c2, h1, h2, rfl⟩
  have ha := takeQ_ans (room := room) (life := life) (now := n) (Q := Q) (x := x.p)
  exact ⟨hj, ol, cap, _, _, _, o1, o2, c1, c2, _, _, h1, hK.take hX.src hX.dst, ha.1, ha.2, rfl⟩
theorem tick_law (room life n t : Int) (oq : Option Addr) (lq cq : Nat) (Q : List Bq) (w : World) (hQ : QsAt w oq lq cq Q) (hK : PoK room life n Q) (h1 : n ≤ t) (h2 : t ≤ 1099511627776) :
    Calls Try.prog 12 #[.agg #[.int .i64 room, .int .i64 life, .int .i64 n, .slice oq lq cq], .int .i64 t] w fun e w' => Junk w w' ∧ ∃ (ol : Option Addr) (cap l2 : Nat) (Q2 : List Bq) (m : Int),
      QsAt w' ol l2 cap Q2 ∧ PoK room life t Q2 ∧ e = .returned (.tuple #[.agg #[.int .i64 room, .int .i64 life, .int .i64 t, .slice ol l2 cap], .int .i64 m, .int .i64 0]) := by
  have hl := hK.len
  rw [hQ.len] at hl
  refine (tick_any room life n t oq lq cq Q w hQ (by omega) hK.ok).mono ?_
  rintro e w' ⟨hj, ob, cap, h3⟩
  rw [hK.right, wiR_iff.2 ⟨h1, h2⟩] at h3
  simp only [Bool.and_self, if_true] at h3
  exact ⟨hj, ob, cap, _, _, _, h3.2, hK.tick h1 h2, h3.1⟩
end Go.Proofs.Ytgjppmkadmfibaa
