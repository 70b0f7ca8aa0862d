/- The contract of cut.Cut. -/
import Derived.Test.YtgjppmkadmfibaaCutA
import Derived.Test.YtgjppmkadmfibaaPk
set_option linter.unusedVariables false
set_option maxRecDepth 100000
set_option linter.unusedSimpArgs false
namespace Go.Proofs.Ytgjppmkadmfibaa
open Go.RowKit
def cutErr (p : Ip) (mtu : Int) : Int :=
  if mayB p = true ∧ 28 ≤ mtu ∧ mtu ≤ 65535 then (if 20 + (p.ol : Int) + p.bl ≤ mtu then 0 else if p.df = true then 7 else if mtu - 20 - p.ol < 8 then 4 else 0) else 1
def cutZ (p : Ip) (mtu : Int) : Nat := ((mtu - 20 - p.ol) / 8 * 8).toNat
def piecesL (p : Ip) (Z n : Nat) : List Ip := (List.range n).map fun i => pieceIp p (i * Z) (min (i * Z + Z) p.bl)
def cutL (p : Ip) (mtu : Int) : List Ip :=
  if cutErr p mtu ≠ 0 then [] else if 20 + (p.ol : Int) + p.bl ≤ mtu then [pieceIp p 0 p.bl] else piecesL p (cutZ p mtu) ((p.bl + cutZ p mtu - 1) / cutZ p mtu)
def CutM (w : World) (p : Ip) (mtu : Int) (e : Ending) (w' : World) : Prop :=
  ∃ (L : List Fr) (oa : Option Addr) (cap : Nat), e = .returned (.tuple #[.slice oa L.length cap, .int .i64 (cutErr p mtu)]) ∧ Junk w w' ∧ L.map Fr.p = cutL p mtu ∧ Own w.heap.size w' 25 11 oa cap L.length (cellsL L) ∧ ∀ f ∈ L, f.At w'
theorem cutM_bad {w w' : World} {p : Ip} {mtu n : Int} (h : cutErr p mtu = n) (hn : n ≠ 0) (hj : Junk w w') : CutM w p mtu (.returned (.tuple #[.slice none 0 0, .int .i64 n])) w' :=
  ⟨[], none, 0, by rw [h]; rfl, hj, by unfold cutL; rw [if_pos (by rw [h]; exact hn)]; rfl, Own.nil _ _ _ _, fun f hf => by cases hf⟩
theorem own_cast3 {B : Nat} {w : World} {e : TypeId} {size : Nat} {oa : Option Addr} {cap n : Nat} {a b : List Value} (h : Own B w e size oa cap n a) (hab : a = b) : Own B w e size oa cap n b := hab ▸ h
theorem cutM_one {w w' : World} {p : Ip} {mtu : Int} {f : Fr} {n : Nat} (hE : cutErr p mtu = 0) (hw : 20 + (p.ol : Int) + p.bl ≤ mtu) (hf : f.p = pieceIp p 0 p.bl) (hj : Junk w w') (ho : Own w.heap.size w' 25 11 (some ⟨n, 0, none⟩) 1 1 (cellsL [f])) (ha : f.At w') :
    CutM w p mtu (.returned (.tuple #[.slice (some ⟨n, 0, none⟩) 1 1, .int .i64 0])) w' :=
  ⟨[f], some ⟨n, 0, none⟩, 1, by rw [hE]; rfl, hj, by unfold cutL; rw [if_neg (by rw [hE]; simp), if_pos hw]; simp [hf], ho, fun g hg => by simp only [List.mem_cons, List.not_mem_nil, or_false] at hg; subst hg; exact ha⟩
set_option maxHeartbeats 1000000 in
theorem cut_frag (tos id : Int) (mf : Bool) (off ttl proto src dst : Int) (ol : Nat) (opts : Nat → Int) (bl : Nat) (body : Nat → Int) (mtu : Int) (oo ob : Option Addr) (oc bc : Nat) (w : World) (h1 : ol ≤ 40) (h2 : bl ≤ 100000) (hP : IpAt w (Ip.mk tos id true mf off ttl proto src dst ol opts bl body) oo oc ob bc)
    (hm : mayB (Ip.mk tos id true mf off ttl proto src dst ol opts bl body) = true) (hu1 : 28 ≤ mtu) (hu2 : mtu ≤ 65535) (hw : ¬ 20 + (ol : Int) + (bl : Int) ≤ mtu) (hq : 0 ≤ mtu - 20 - (ol : Int)) :
    Calls Try.prog 18 #[.agg #[.int .i64 tos, .int .i64 id, .bool true, .bool mf, .int .i64 off, .int .i64 ttl, .int .i64 proto, .int .u32 src, .int .u32 dst, .slice oo ol oc, .slice ob bl bc], .int .i64 mtu] w (CutM w (Ip.mk tos id true mf off ttl proto src dst ol opts bl body) mtu) := by
  have HP := Lib.hid hP
  clear hP
  have hmf : ∀ (fn : Fn) (first cap : Array Value) (w : World), (Instr.makeFunc fn first cap).run Try.prog w = .ok (.func fn first cap) w := fun _ _ _ _ => rfl
  have HE := Lib.hid (show cutErr (Ip.mk tos id true mf off ttl proto src dst ol opts bl body) mtu = 7 by unfold cutErr; rw [if_pos ⟨hm, hu1, hu2⟩, if_neg hw, if_pos rfl])
  have HM := Lib.hid hm
  clear hm
  go_enter Try.func18, Try.ntmps18
  go_wp2_with (first | (go_at_call 25; refine (ipPut_any (Ip.mk tos id true mf off ttl proto src dst ol opts bl body) oo ob oc bc _ (by show ol ≤ _; omega) (by show bl ≤ _; omega) (HP.out.on (by (exact jkc)))).mono ?_; intro e w' hp; obtain ⟨o1, c1, rfl, ⟨osj, dj, rfl⟩, _⟩ := hp.ok HM.out; clear hp))
  go_returns
  exact cutM_bad HE.out (by decide) (by (exact jkc))
set_option maxHeartbeats 1000000 in
theorem cut_frag2 (tos id : Int) (mf : Bool) (off ttl proto src dst : Int) (ol : Nat) (opts : Nat → Int) (bl : Nat) (body : Nat → Int) (mtu : Int) (oo ob : Option Addr) (oc bc : Nat) (w : World) (h1 : ol ≤ 40) (h2 : bl ≤ 100000) (hP : IpAt w (Ip.mk tos id true mf off ttl proto src dst ol opts bl body) oo oc ob bc)
    (hm : mayB (Ip.mk tos id true mf off ttl proto src dst ol opts bl body) = true) (hu1 : 28 ≤ mtu) (hu2 : mtu ≤ 65535) (hw : ¬ 20 + (ol : Int) + (bl : Int) ≤ mtu) (hq : ¬ 0 ≤ mtu - 20 - (ol : Int)) :
    Calls Try.prog 18 #[.agg #[.int .i64 tos, .int .i64 id, .bool true, .bool mf, .int .i64 off, .int .i64 ttl, .int .i64 proto, .int .u32 src, .int .u32 dst, .slice oo ol oc, .slice ob bl bc], .int .i64 mtu] w (CutM w (Ip.mk tos id true mf off ttl proto src dst ol opts bl body) mtu) := by
  have HP := Lib.hid hP
  clear hP
  have hmf : ∀ (fn : Fn) (first cap : Array Value) (w : World), (Instr.makeFunc fn first cap).run Try.prog w = .ok (.func fn first cap) w := fun _ _ _ _ => rfl
  have HE := Lib.hid (show cutErr (Ip.mk tos id true mf off ttl proto src dst ol opts bl body) mtu = 7 by unfold cutErr; rw [if_pos ⟨hm, hu1, hu2⟩, if_neg hw, if_pos rfl])
  have HM := Lib.hid hm
  clear hm
  go_enter Try.func18, Try.ntmps18
  go_wp2_with (first | (go_at_call 25; refine (ipPut_any (Ip.mk tos id true mf off ttl proto src dst ol opts bl body) oo ob oc bc _ (by show ol ≤ _; omega) (by show bl ≤ _; omega) (HP.out.on (by (exact jkc)))).mono ?_; intro e w' hp; obtain ⟨o1, c1, rfl, ⟨osj, dj, rfl⟩, _⟩ := hp.ok HM.out; clear hp))
  go_returns
  exact cutM_bad HE.out (by decide) (by (exact jkc))
theorem junk_nil (w : World) : w = w.junk #[] w.drawn := by simp [World.junk]
theorem keepF {w w' : World} {oa oa' : Option Addr} {L : List Fr} {fn : Fr} (hL : ∀ f ∈ L, f.At w ∧ f.Off (rowOf oa)) (hn : fn.At w) (hno : fn.Off (rowOf oa)) (hg : w.grownBy w' (rowOf oa)) (hrow : rowOf oa' = rowOf oa ∨ rowOf oa' = some w.heap.size) :
    ∀ f ∈ L ++ [fn], f.At w' ∧ f.Off (rowOf oa') := by
  have hall : ∀ f ∈ L ++ [fn], f.At w ∧ f.Off (rowOf oa) := by
    intro f hf
    rcases List.mem_append.1 hf with h | h
    · exact hL f h
    · simp only [List.mem_cons, List.not_mem_nil, or_false] at h; subst h; exact ⟨hn, hno⟩
  intro f hf
  obtain ⟨h1, h2⟩ := hall f hf
  refine ⟨h1.grown hg h2, ?_⟩
  rcases hrow with h | h
  · rw [h]; exact h2
  · rw [h]; exact h1.off (Nat.le_refl _)
theorem own_row {B : Nat} {w : World} {e : TypeId} {size : Nat} {oa : Option Addr} {cap n : Nat} {l : List Value} (h : Own B w e size oa cap n l) : ∀ k, rowOf oa = some k → k < w.heap.size := by
  intro k hk
  rcases h.form with ⟨rfl, _⟩ | ⟨g, cur, rfl, _, hg, _⟩
  · cases hk
  · simp only [rowOf, Option.map_some, Option.some.injEq] at hk
    subst hk
    exact (Array.getElem?_eq_some_iff.1 hg).1
theorem pieces_snoc {p : Ip} {Z k j TO : Nat} {L : List Fr} {oo ob : Option Addr} {oc bc : Nat} (h : L.map Fr.p = piecesL p Z k) (hj : j = k * Z) (hT : TO = min (j + Z) p.bl) : (L ++ [(⟨pieceIp p j TO, oo, oc, ob, bc⟩ : Fr)]).map Fr.p = piecesL p Z (k + 1) := by
  unfold piecesL
  rw [List.range_succ, List.map_append, List.map_append, h, hT, hj]
  rfl
theorem cutM_loop {w w' : World} {p : Ip} {mtu : Int} {L : List Fr} {k j Z : Nat} {oa : Option Addr} {cap : Nat} (hE : cutErr p mtu = 0) (hw : ¬ 20 + (p.ol : Int) + p.bl ≤ mtu) (hZ : Z = cutZ p mtu) (hj : j = k * Z) (hk : L.length = k) (hz : 8 ≤ Z) (hj1 : p.bl ≤ j) (hj2 : j < p.bl + Z)
    (hL : L.map Fr.p = piecesL p Z k) (hJ : Junk w w') (ho : Own w.heap.size w' 25 11 oa cap k (cellsL L)) (ha : ∀ f ∈ L, f.At w') : CutM w p mtu (.returned (.tuple #[.slice oa k cap, .int .i64 0])) w' := by
  subst hk
  refine ⟨L, oa, cap, by rw [hE], hJ, ?_, ho, ha⟩
  unfold cutL
  rw [if_neg (by rw [hE]; simp), if_neg hw, hL, ← hZ]
  congr 1
  rw [Nat.div_eq_of_lt_le (k := L.length)]
  · omega
  · rw [Nat.succ_mul]; omega
set_option maxHeartbeats 1000000 in
theorem cut_small (tos id : Int) (mf : Bool) (off ttl proto src dst : Int) (ol : Nat) (opts : Nat → Int) (bl : Nat) (body : Nat → Int) (mtu : Int) (oo ob : Option Addr) (oc bc : Nat) (w : World) (h1 : ol ≤ 40) (h2 : bl ≤ 100000) (hP : IpAt w (Ip.mk tos id false mf off ttl proto src dst ol opts bl body) oo oc ob bc)
    (hm : mayB (Ip.mk tos id false mf off ttl proto src dst ol opts bl body) = true) (hu1 : 28 ≤ mtu) (hu2 : mtu ≤ 65535) (hw : ¬ 20 + (ol : Int) + (bl : Int) ≤ mtu) (hq : 0 ≤ mtu - 20 - (ol : Int)) (hq8 : mtu - 20 - (ol : Int) < 8) :
    Calls Try.prog 18 #[.agg #[.int .i64 tos, .int .i64 id, .bool false, .bool mf, .int .i64 off, .int .i64 ttl, .int .i64 proto, .int .u32 src, .int .u32 dst, .slice oo ol oc, .slice ob bl bc], .int .i64 mtu] w (CutM w (Ip.mk tos id false mf off ttl proto src dst ol opts bl body) mtu) := by
  have HP := Lib.hid hP
  clear hP
  have hmf : ∀ (fn : Fn) (first cap : Array Value) (w : World), (Instr.makeFunc fn first cap).run Try.prog w = .ok (.func fn first cap) w := fun _ _ _ _ => rfl
  have HE := Lib.hid (show cutErr (Ip.mk tos id false mf off ttl proto src dst ol opts bl body) mtu = 4 by unfold cutErr; rw [if_pos ⟨hm, hu1, hu2⟩, if_neg hw, if_neg (by simp), if_pos (by show mtu - 20 - (ol : Int) < 8; omega)])
  have HM := Lib.hid hm
  clear hm
  have z0 : (mtu - 20 - (ol : Int)) / 8 = 0 := by omega
  go_enter Try.func18, Try.ntmps18
  go_wp2_with (first | (go_at_call 25; refine (ipPut_any (Ip.mk tos id false mf off ttl proto src dst ol opts bl body) oo ob oc bc _ (by show ol ≤ _; omega) (by show bl ≤ _; omega) (HP.out.on (by (exact jkc)))).mono ?_; intro e w' hp; obtain ⟨o1, c1, rfl, ⟨osj, dj, rfl⟩, _⟩ := hp.ok HM.out; clear hp))
  go_returns
  exact cutM_bad HE.out (by decide) (by (exact jkc))
set_option maxHeartbeats 1000000 in
theorem cut_small2 (tos id : Int) (mf : Bool) (off ttl proto src dst : Int) (ol : Nat) (opts : Nat → Int) (bl : Nat) (body : Nat → Int) (mtu : Int) (oo ob : Option Addr) (oc bc : Nat) (w : World) (h1 : ol ≤ 40) (h2 : bl ≤ 100000) (hP : IpAt w (Ip.mk tos id false mf off ttl proto src dst ol opts bl body) oo oc ob bc)
    (hm : mayB (Ip.mk tos id false mf off ttl proto src dst ol opts bl body) = true) (hu1 : 28 ≤ mtu) (hu2 : mtu ≤ 65535) (hw : ¬ 20 + (ol : Int) + (bl : Int) ≤ mtu) (hq : ¬ 0 ≤ mtu - 20 - (ol : Int)) :
    Calls Try.prog 18 #[.agg #[.int .i64 tos, .int .i64 id, .bool false, .bool mf, .int .i64 off, .int .i64 ttl, .int .i64 proto, .int .u32 src, .int .u32 dst, .slice oo ol oc, .slice ob bl bc], .int .i64 mtu] w (CutM w (Ip.mk tos id false mf off ttl proto src dst ol opts bl body) mtu) := by
  have HP := Lib.hid hP
  clear hP
  have hmf : ∀ (fn : Fn) (first cap : Array Value) (w : World), (Instr.makeFunc fn first cap).run Try.prog w = .ok (.func fn first cap) w := fun _ _ _ _ => rfl
  have HE := Lib.hid (show cutErr (Ip.mk tos id false mf off ttl proto src dst ol opts bl body) mtu = 4 by unfold cutErr; rw [if_pos ⟨hm, hu1, hu2⟩, if_neg hw, if_neg (by simp), if_pos (by show mtu - 20 - (ol : Int) < 8; omega)])
  have HM := Lib.hid hm
  clear hm
  obtain ⟨Q, hQ, hQ1, hQ2⟩ : ∃ Q : Int, (mtu - 20 - (ol : Int)).tdiv 8 = Q ∧ Q ≤ 0 ∧ -10 ≤ Q := by
    refine ⟨_, rfl, ?_, ?_⟩
    · rw [show mtu - 20 - (ol : Int) = -(20 + (ol : Int) - mtu) by omega, Int.neg_tdiv, Int.tdiv_eq_ediv_of_nonneg (by omega)]; omega
    · rw [show mtu - 20 - (ol : Int) = -(20 + (ol : Int) - mtu) by omega, Int.neg_tdiv, Int.tdiv_eq_ediv_of_nonneg (by omega)]; omega
  have hW : wrap64 (Q * 8) = Q * 8 := by unfold wrap64; omega
  have hW1 : Q * 8 < 8 := by omega
  go_enter Try.func18, Try.ntmps18
  go_wp2_with (first | (go_at_call 25; refine (ipPut_any (Ip.mk tos id false mf off ttl proto src dst ol opts bl body) oo ob oc bc _ (by show ol ≤ _; omega) (by show bl ≤ _; omega) (HP.out.on (by (exact jkc)))).mono ?_; intro e w' hp; obtain ⟨o1, c1, rfl, ⟨osj, dj, rfl⟩, _⟩ := hp.ok HM.out; clear hp))
  go_returns
  exact cutM_bad HE.out (by decide) (by (exact jkc))
set_option maxHeartbeats 4000000 in
theorem cut_loop (tos id : Int) (mf : Bool) (off ttl proto src dst : Int) (ol : Nat) (opts : Nat → Int) (bl : Nat) (body : Nat → Int) (mtu : Int) (oo ob : Option Addr) (oc bc : Nat) (w : World) (h1 : ol ≤ 40) (h2 : bl ≤ 100000) (hP : IpAt w (Ip.mk tos id false mf off ttl proto src dst ol opts bl body) oo oc ob bc)
    (hm : mayB (Ip.mk tos id false mf off ttl proto src dst ol opts bl body) = true) (hu1 : 28 ≤ mtu) (hu2 : mtu ≤ 65535) (hw : ¬ 20 + (ol : Int) + (bl : Int) ≤ mtu) (hq : 8 ≤ mtu - 20 - (ol : Int)) :
    Calls Try.prog 18 #[.agg #[.int .i64 tos, .int .i64 id, .bool false, .bool mf, .int .i64 off, .int .i64 ttl, .int .i64 proto, .int .u32 src, .int .u32 dst, .slice oo ol oc, .slice ob bl bc], .int .i64 mtu] w (CutM w (Ip.mk tos id false mf off ttl proto src dst ol opts bl body) mtu) := by
  have HP := Lib.hid hP
  clear hP
  have hmf : ∀ (fn : Fn) (first cap : Array Value) (w : World), (Instr.makeFunc fn first cap).run Try.prog w = .ok (.func fn first cap) w := fun _ _ _ _ => rfl
  have HE := Lib.hid (show cutErr (Ip.mk tos id false mf off ttl proto src dst ol opts bl body) mtu = 0 by unfold cutErr; rw [if_pos ⟨hm, hu1, hu2⟩, if_neg hw, if_neg (by simp), if_neg (by show ¬ mtu - 20 - (ol : Int) < 8; omega)])
  have hof := (may_iff.1 hm).off
  have HM := Lib.hid hm
  clear hm
  obtain ⟨Z, hZ⟩ : ∃ Z, Z = cutZ (Ip.mk tos id false mf off ttl proto src dst ol opts bl body) mtu := ⟨_, rfl⟩
  have ez : (mtu - 20 - (ol : Int)) / 8 * 8 = (Z : Int) := by
    have : cutZ (Ip.mk tos id false mf off ttl proto src dst ol opts bl body) mtu = ((mtu - 20 - (ol : Int)) / 8 * 8).toNat := rfl
    rw [hZ, this]
    omega
  have z8 : 8 ≤ Z := by omega
  have z9 : Z ≤ 65535 := by omega
  have HZ := Lib.hid hZ
  clear hZ
  obtain ⟨ho0, ho1⟩ := hof
  go_enter Try.func18, Try.ntmps18
  go_wp2_with (first | (go_at_call 25; refine (ipPut_any (Ip.mk tos id false mf off ttl proto src dst ol opts bl body) oo ob oc bc _ (by show ol ≤ _; omega) (by show bl ≤ _; omega) (HP.out.on (by (exact jkc)))).mono ?_; intro e w' hp; obtain ⟨o1, c1, rfl, ⟨osj, dj, rfl⟩, _⟩ := hp.ok HM.out; clear hp))
  go_loopw [11, 12] (fun v i wr => ∃ (L : List Fr) (k j : Nat) (oa : Option Addr) (cap : Nat) (os : Array Obj) (d : Nat), v = .slice oa k cap ∧ i = .int .i64 (j : Int) ∧ wr = (((w.alloc (.cells #[.int .i64 tos, .int .i64 id, .bool false, .bool mf, .int .i64 off, .int .i64 ttl, .int .i64 proto, .int .u32 src, .int .u32 dst, .slice oo ol oc, .slice ob bl bc] 25)).junk osj dj).alloc (.cells #[.int .i64 tos, .int .i64 id, .bool false, .bool mf, .int .i64 off, .int .i64 ttl, .int .i64 proto, .int .u32 src, .int .u32 dst, .slice oo ol oc, .slice ob bl bc, .int .i64 (Z : Int)] 74)).junk os d ∧ L.length = k ∧ Hid (j = k * Z) ∧ L.map Fr.p = piecesL (Ip.mk tos id false mf off ttl proto src dst ol opts bl body) Z k ∧ Own (((w.alloc (.cells #[.int .i64 tos, .int .i64 id, .bool false, .bool mf, .int .i64 off, .int .i64 ttl, .int .i64 proto, .int .u32 src, .int .u32 dst, .slice oo ol oc, .slice ob bl bc] 25)).junk osj dj).alloc (.cells #[.int .i64 tos, .int .i64 id, .bool false, .bool mf, .int .i64 off, .int .i64 ttl, .int .i64 proto, .int .u32 src, .int .u32 dst, .slice oo ol oc, .slice ob bl bc, .int .i64 (Z : Int)] 74)).heap.size wr 25 11 oa cap k (cellsL L) ∧ (∀ f ∈ L, f.At wr ∧ f.Off (rowOf oa)) ∧ j < bl + Z ∧ k ≤ j) (fun _ i _ => bl + Z - (intOf i).toNat)
  case atStart => exact ⟨[], 0, 0, none, 0, #[], _, rfl, rfl, junk_nil _, rfl, Lib.hid (by simp), rfl, Own.nil _ _ _ _, fun f hf => (by cases hf), by omega, by omega⟩
  case round =>
    obtain ⟨L, k, j, oa, cap, os, d, rfl, rfl, rfl, hk, hj, hL, hown, hAt, hjb, hkb⟩ := hrel
    have Hown := Lib.hid hown
    have HA := Lib.hid hAt
    have HL := Lib.hid hL
    have Hk := Lib.hid hk
    clear hown hAt hL hk
    by_cases hlt : j < bl
    · obtain ⟨TO, hTO⟩ : ∃ TO, TO = min (j + Z) bl := ⟨_, rfl⟩
      have t1 : (TO : Int) = min ((j : Int) + (Z : Int)) (bl : Int) := by omega
      have t2 : j ≤ TO := by omega
      have HT := Lib.hid hTO
      have T1 := Lib.hid t1
      clear hTO t1
      go_wp2_with (first | (go_at_call 40; (try simp only [World.junk_junk, Array.append_assoc]); refine (piece_to (Ip.mk tos id false mf off ttl proto src dst ol opts bl body) (Z : Int) j TO oo ob oc bc _ (HP.out.on (by (exact jkc))) (by show ol ≤ _; omega) (by show bl ≤ _; omega) t2 (by omega) (by omega) T1.out ho0 ho1).mono ?_; rintro e w' ⟨oo2, ob2, oc2, bc2, rfl, ⟨osj2, dj2, rfl⟩, hq2, hf1, hf2⟩; (try simp only [World.junk_junk, Array.append_assoc] at hq2); have HQ := Lib.hid hq2; have HF1 := Lib.hid hf1; have HF2 := Lib.hid hf2; clear hq2 hf1 hf2) | (at_builtin; (refine ap_own2 (W0 := (((w.alloc (.cells #[.int .i64 tos, .int .i64 id, .bool false, .bool mf, .int .i64 off, .int .i64 ttl, .int .i64 proto, .int .u32 src, .int .u32 dst, .slice oo ol oc, .slice ob bl bc] 25)).junk osj dj).alloc (.cells #[.int .i64 tos, .int .i64 id, .bool false, .bool mf, .int .i64 off, .int .i64 ttl, .int .i64 proto, .int .u32 src, .int .u32 dst, .slice oo ol oc, .slice ob bl bc, .int .i64 (Z : Int)] 74))) rfl _ _ 28 rfl 25 (.agg #[.int .i64 0, .int .i64 0, .bool false, .bool false, .int .i64 0, .int .i64 0, .int .i64 0, .int .u32 0, .int .u32 0, .slice none 0 0, .slice none 0 0]) 11 104 (by kernel_rfl) rfl (by decide) Try.underlying28 (by (exact jkc)) oa cap k _ rfl (Hown.out.on (by (exact jkc))) _ 1 1 rfl (Fr.cells ⟨pieceIp (Ip.mk tos id false mf off ttl proto src dst ol opts bl body) j TO, oo2, oc2, ob2, bc2⟩) rfl (built_cells (by simp) _ rfl) (Fr.one _) (by simp only [maxLen]; omega) (by omega) (by decide) ?_; intro oa' cap' os' d' hown' hg hrow; have hkp := keepF (fun f hf => ⟨(HA.out f hf).1.on (by (exact jkc)), (HA.out f hf).2⟩) (fn := ⟨pieceIp (Ip.mk tos id false mf off ttl proto src dst ol opts bl body) j TO, oo2, oc2, ob2, bc2⟩) (HQ.out.on (by (exact jkc))) ⟨Fresh.off HF1.out (own_row Hown.out), Fresh.off HF2.out (own_row Hown.out)⟩ hg hrow; have HK := Lib.hid hkp; have Hown2 := Lib.hid hown'; clear hkp hg hrow hown')))
      exact ⟨⟨L ++ [⟨pieceIp (Ip.mk tos id false mf off ttl proto src dst ol opts bl body) j TO, oo2, oc2, ob2, bc2⟩], k + 1, j + Z, oa', cap', _, _, rfl, by go_num, rfl, by simp [Hk.out], Lib.hid (by rw [hj.out, Nat.succ_mul]), pieces_snoc HL.out hj.out HT.out, own_cast3 Hown2.out (cellsL_one _ _), HK.out, by omega, by omega⟩, by simp [intOf]; omega⟩
    · go_wp2
      go_returns
      exact cutM_loop HE.out (by show ¬ 20 + (ol : Int) + (bl : Int) ≤ mtu; omega) HZ.out hj.out Hk.out z8 (by show bl ≤ j; omega) (by show j < bl + Z; omega) HL.out (by (exact jkc)) (Hown.out.lower (by simp; try omega)) (fun f hf => (HA.out f hf).1)
set_option maxHeartbeats 4000000 in
theorem cut_any (p : Ip) (mtu : Int) (oo ob : Option Addr) (oc bc : Nat) (w : World) (h1 : p.ol ≤ 100000000) (h2 : p.bl ≤ 100000) (hP : IpAt w p oo oc ob bc) :
    Calls Try.prog 18 #[.agg #[.int .i64 p.tos, .int .i64 p.id, .bool p.df, .bool p.mf, .int .i64 p.off, .int .i64 p.ttl, .int .i64 p.proto, .int .u32 p.src, .int .u32 p.dst, .slice oo p.ol oc, .slice ob p.bl bc], .int .i64 mtu] w (CutM w p mtu) := by
  have HP := Lib.hid hP
  clear hP
  have hmf : ∀ (fn : Fn) (first cap : Array Value) (w : World), (Instr.makeFunc fn first cap).run Try.prog w = .ok (.func fn first cap) w := fun _ _ _ _ => rfl
  cases hm : mayB p with
  | false =>
    go_enter Try.func18, Try.ntmps18
    go_wp2_with (first | (go_at_call 25; refine (ipPut_any p oo ob oc bc _ h1 (by omega) (HP.out.on (by (exact jkc)))).mono ?_; intro e w' hp; obtain ⟨rfl, ⟨osj, dj, rfl⟩⟩ := hp.bad hm; clear hp))
    go_returns
    exact cutM_bad (by unfold cutErr; rw [if_neg (by simp [hm])]) (by decide) (by (exact jkc))
  | true =>
  by_cases hu1 : 28 ≤ mtu
  case neg =>
    go_enter Try.func18, Try.ntmps18
    go_wp2_with (first | (go_at_call 25; refine (ipPut_any p oo ob oc bc _ h1 (by omega) (HP.out.on (by (exact jkc)))).mono ?_; intro e w' hp; obtain ⟨o1, c1, rfl, ⟨osj, dj, rfl⟩, _⟩ := hp.ok hm; clear hp))
    go_returns
    exact cutM_bad (by unfold cutErr; rw [if_neg (fun h => by omega)]) (by decide) (by (exact jkc))
  by_cases hu2 : mtu ≤ 65535
  case neg =>
    go_enter Try.func18, Try.ntmps18
    go_wp2_with (first | (go_at_call 25; refine (ipPut_any p oo ob oc bc _ h1 (by omega) (HP.out.on (by (exact jkc)))).mono ?_; intro e w' hp; obtain ⟨o1, c1, rfl, ⟨osj, dj, rfl⟩, _⟩ := hp.ok hm; clear hp))
    go_returns
    exact cutM_bad (by unfold cutErr; rw [if_neg (fun h => by omega)]) (by decide) (by (exact jkc))
  have MP := may_iff.1 hm
  have hol := MP.ol
  obtain ⟨ho0, ho1⟩ := MP.off
  have hHM := Lib.hid hm
  clear MP
  by_cases hw : 20 + (p.ol : Int) + (p.bl : Int) ≤ mtu
  · have HE := Lib.hid (show cutErr p mtu = 0 by unfold cutErr; rw [if_pos ⟨hm, hu1, hu2⟩, if_pos hw])
    go_enter Try.func18, Try.ntmps18
    go_wp2_with (first | (go_at_call 25; refine (ipPut_any p oo ob oc bc _ h1 (by omega) (HP.out.on (by (exact jkc)))).mono ?_; intro e w' hp; obtain ⟨o1, c1, rfl, ⟨osj, dj, rfl⟩, _⟩ := hp.ok hm; clear hp) | (go_at_call 40; (try simp only [World.junk_junk]); refine (piece_to p (p.bl : Int) 0 p.bl oo ob oc bc _ (HP.out.on (by (exact jkc))) h1 (by omega) (by omega) (by omega) (by omega) (by omega) ho0 ho1).mono ?_; rintro e w' ⟨oo2, ob2, oc2, bc2, rfl, ⟨osj2, dj2, rfl⟩, hq, _, _⟩; have HQ := Lib.hid hq; clear hq))
    go_returns
    exact cutM_one (f := ⟨pieceIp p 0 p.bl, oo2, oc2, ob2, bc2⟩) HE.out hw rfl (by (exact jkc)) (own_cast3 (own_litk _ _ 11 _ 1 _ (by simp) (by simp; try omega) rfl (by decide)) rfl) (HQ.out.on (by (exact jkc)))
  have hPP := HP.out
  clear HP hmf hHM
  obtain ⟨tos, id, df, mf, off, ttl, proto, src, dst, ol, opts, bl, body⟩ := p
  have hw2 : ¬ 20 + (ol : Int) + (bl : Int) ≤ mtu := hw
  by_cases hq : 0 ≤ mtu - 20 - (ol : Int)
  · cases df with
    | true => exact cut_frag tos id mf off ttl proto src dst ol opts bl body mtu oo ob oc bc w hol h2 hPP hm hu1 hu2 hw2 hq
    | false =>
      by_cases hq8 : mtu - 20 - (ol : Int) < 8
      · exact cut_small tos id mf off ttl proto src dst ol opts bl body mtu oo ob oc bc w hol h2 hPP hm hu1 hu2 hw2 hq hq8
      · exact cut_loop tos id mf off ttl proto src dst ol opts bl body mtu oo ob oc bc w hol h2 hPP hm hu1 hu2 hw2 (by omega)
  · cases df with
    | true => exact cut_frag2 tos id mf off ttl proto src dst ol opts bl body mtu oo ob oc bc w hol h2 hPP hm hu1 hu2 hw2 hq
    | false => exact cut_small2 tos id mf off ttl proto src dst ol opts bl body mtu oo ob oc bc w hol h2 hPP hm hu1 hu2 hw2 hq
end Go.Proofs.Ytgjppmkadmfibaa
