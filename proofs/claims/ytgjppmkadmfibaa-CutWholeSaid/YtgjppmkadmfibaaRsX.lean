/- reasm.Take: a piece more of a packet that is there. -/
import Derived.Test.YtgjppmkadmfibaaRsV
import Derived.Test.YtgjppmkadmfibaaRsW
set_option linter.unusedVariables false
set_option maxRecDepth 100000
set_option linter.unusedSimpArgs false
namespace Go.Proofs.Ytgjppmkadmfibaa
open Go.RowKit
theorem take_out {w w6 : World} {room life now : Int} {g cap L1 L9 gx : Nat} {R2 : List Bf} {il : List Value} {y : Ip} {o1 o2 : Option Addr} {c1 c2 : Nat}
    (hb : Bx4 w w6 [.int .i64 room, .int .i64 life, .int .i64 now, .slice (some ⟨g, 0, none⟩) L1 cap] il [.int .i64 0, .int .i64 0, .int .i64 0, .slice none 0 0] [.int .i64 0, .int .i64 0, .bool false, .bool false, .int .i64 0, .int .i64 0, .int .i64 0, .int .u32 0, .int .u32 0, .slice none 0 0, .slice none 0 0] 31 25 31 25) (hs : PlS w w6 4 (some ⟨g, 0, none⟩) cap L9 R2) (hx : Box w6 gx 25 [.int .i64 y.tos, .int .i64 y.id, .bool y.df, .bool y.mf, .int .i64 y.off, .int .i64 y.ttl, .int .i64 y.proto, .int .u32 y.src, .int .u32 y.dst, .slice o1 y.ol c1, .slice o2 y.bl c2])
    (hz : Bts w6 o2 y.bl c2 y.body) (ho : Bts w6 o1 y.ol c1 y.opts) (hgx : w.heap.size + 4 ≤ gx) (f1 : ∀ r, w.heap.size ≤ r → r < w.heap.size + 4 → Go.Off (some r) o1 y.ol) (f2 : ∀ r, r < w.heap.size + 4 → Go.Off (some r) o2 y.bl) (hsr : 0 ≤ y.src ∧ y.src ≤ 4294967295) (hds : 0 ≤ y.dst ∧ y.dst ≤ 4294967295) :
    TkG w room life now (some ⟨g, 0, none⟩) cap L9 R2 y o1 o2 c1 c2 gx (w6.setCell ⟨w.heap.size, 3, none⟩ (.slice (some ⟨g, 0, none⟩) L9 cap)) ∧
    Bx4 w (w6.setCell ⟨w.heap.size, 3, none⟩ (.slice (some ⟨g, 0, none⟩) L9 cap)) [.int .i64 room, .int .i64 life, .int .i64 now, .slice (some ⟨g, 0, none⟩) L9 cap] il [.int .i64 0, .int .i64 0, .int .i64 0, .slice none 0 0] [.int .i64 0, .int .i64 0, .bool false, .bool false, .int .i64 0, .int .i64 0, .int .i64 0, .int .u32 0, .int .u32 0, .slice none 0 0, .slice none 0 0] 31 25 31 25 := by
  have hg := grown_set w6 ⟨w.heap.size, 3, none⟩ (.slice (some ⟨g, 0, none⟩) L9 cap)
  have B0 := hb.b0.set 3 (.slice (some ⟨g, 0, none⟩) L9 cap)
  have B1 := hb.b1.far (a := ⟨w.heap.size, 3, none⟩) (by simp) (.slice (some ⟨g, 0, none⟩) L9 cap)
  have B2 := hb.b2.far (a := ⟨w.heap.size, 3, none⟩) (by simp) (.slice (some ⟨g, 0, none⟩) L9 cap)
  have B3 := hb.b3.far (a := ⟨w.heap.size, 3, none⟩) (by simp) (.slice (some ⟨g, 0, none⟩) L9 cap)
  have h0 : ∀ r, r = w.heap.size + 2 ∨ r = w.heap.size + 3 → Go.Off (some r) o1 y.ol ∧ Go.Off (some r) o2 y.bl := fun r hr => ⟨f1 r (by omega) (by omega), f2 r (by omega)⟩
  exact ⟨⟨hs.box hg (Nat.le_refl _) (by simp only; omega), B0, hx.far (by simp only; omega) _, ⟨_, B2, rfl⟩, ⟨_, B3, rfl⟩, by omega, by omega, ⟨ho.grown hg (f1 _ (Nat.le_refl _) (by simp only; omega)), hz.grown hg (f2 _ (by simp only; omega)), hsr, hds⟩, h0⟩, ⟨B0, B1, B2, B3⟩⟩
theorem BfIn.data {w : World} {b : Bf} (h : BfIn w b) : ∀ f ∈ b.F, Bts w f.oa f.l f.c f.xs := fun f hf => by
  obtain ⟨k, hk, rfl⟩ := List.getElem_of_mem hf
  obtain ⟨_, _, _, _, _, _, hb3⟩ := h.runs k _ (List.getElem?_eq_getElem hk)
  exact hb3
set_option maxRecDepth 100000 in
set_option maxHeartbeats 64000000 in
theorem take_some (room life now : Int) (oa : Option Addr) (l c : Nat) (Q : List Bq) (p : Ip) (oo ob : Option Addr) (oc bc : Nat) (w : World) (hP : QsAt w oa l c Q) (hl2 : l ≤ 1000) (hQ : QsOk Q) (hX : IpAt w p oo oc ob bc) (hpo : p.ol ≤ 1000) (hpb : p.bl ≤ 1000000) (hpi : pieceB p = true) (hr : rightQ room life now Q = true) (hm : mayB p = true) (hb0 : 0 < p.bl) (i : Nat) (hi : Q.findIdx? (mineP p) = some i) (bq : Bq) (hbq : Q[i]? = some bq) (hcl : clashB bq p = false) (hroom : ¬ room < (heldQ Q : Int) + p.bl) (ht : takeQ room life now Q p = endQ (Q.set i (addQ bq p)) i (addQ bq p)) : Calls Try.prog 10 #[.agg #[.int .i64 room, .int .i64 life, .int .i64 now, .slice oa l c], .agg #[.int .i64 p.tos, .int .i64 p.id, .bool p.df, .bool p.mf, .int .i64 p.off, .int .i64 p.ttl, .int .i64 p.proto, .int .u32 p.src, .int .u32 p.dst, .slice oo p.ol oc, .slice ob p.bl bc]] w (TakeM w room life now Q p) := by
  have HROOM := Lib.hid (decide_eq_false hroom)
  clear hroom
  have HPI := Lib.hid (fun w1 => show Calls Try.prog 23 #[.agg #[.int .i64 p.tos, .int .i64 p.id, .bool p.df, .bool p.mf, .int .i64 p.off, .int .i64 p.ttl, .int .i64 p.proto, .int .u32 p.src, .int .u32 p.dst, .slice oo p.ol oc, .slice ob p.bl bc]] w1 fun e w' => e = .returned (.bool true) ∧ Junk w1 w' from hpi ▸ piece_any p oo ob oc bc w1)
  have HPU := Lib.hid (fun w1 (hj : Junk w w1) => show Calls Try.prog 25 #[.agg #[.int .i64 p.tos, .int .i64 p.id, .bool p.df, .bool p.mf, .int .i64 p.off, .int .i64 p.ttl, .int .i64 p.proto, .int .u32 p.src, .int .u32 p.dst, .slice oo p.ol oc, .slice ob p.bl bc]] w1 fun e w' => ∃ o1 l1 c1, e = .returned (.tuple #[.slice o1 l1 c1, .int .i64 0]) ∧ Junk w1 w' from (ipPut_any p oo ob oc bc w1 (by omega) (by omega) (hX.on hj)).mono fun e w' h => by
    obtain ⟨o1, l1, c1, h1, h2, _⟩ := h
    exact ⟨o1, l1, c1, by rw [h1, show ipErr p = 0 from if_pos hm], h2⟩)
  have HMP := Lib.hid (may_iff.1 hm)
  have hb1 : ((p.bl : Int) == 0) = false := by simp; omega
  have HR0 := Lib.hid hr
  clear hpi hm hr
  obtain ⟨⟨L, hL1, hLQ⟩, hlen, hlc, hn⟩ := hP
  have hl : L.length = l := by rw [← hlen, ← hLQ, List.length_map]
  obtain ⟨o1, o2, o3⟩ := hQ.of hLQ
  have HCP := Lib.hid (fun w1 (hj : Junk w w1) => copied_any room life now oa l c L w1 (hL1.on hj) hl (by omega) hn (fun b hb => ⟨by have := (o2 b hb).1; omega, by have := (o2 b hb).2.1; omega, fun f hf => by have := (o2 b hb).2.2.2 f hf; omega⟩))
  have HL := Lib.hid hl
  have HP := Lib.hid hL1
  have HQ := Lib.hid hQ
  have HLQ := Lib.hid hLQ
  have HLEN := Lib.hid hlen
  have HX := Lib.hid hX
  have HTQ := Lib.hid ht
  clear hlen hn hl hL1 hQ hLQ o1 o2 o3 hX ht hlc
  go_enter Try.func10, Try.ntmps10
  go_upto_region 2 with (first | (go_at_call 22; (with_reducible refine (HCP.out _ (by (exact jkc))).mono ?_); rintro e w4 ⟨ol, cap, R, M, rfl, hj4, hO4, hD4, hn4⟩; rw [HL.out] at hO4 hD4 hn4; rw [HL.out]; have HB4 := Lib.hid ((box4 w #[.int .i64 room, .int .i64 life, .int .i64 now, .slice oa l c] #[.int .i64 p.tos, .int .i64 p.id, .bool p.df, .bool p.mf, .int .i64 p.off, .int .i64 p.ttl, .int .i64 p.proto, .int .u32 p.src, .int .u32 p.dst, .slice oo p.ol oc, .slice ob p.bl bc] #[.int .i64 0, .int .i64 0, .int .i64 0, .slice none 0 0] #[.int .i64 0, .int .i64 0, .bool false, .bool false, .int .i64 0, .int .i64 0, .int .i64 0, .int .u32 0, .int .u32 0, .slice none 0 0, .slice none 0 0] 31 25 31 25).on hj4); have H4 := Lib.hid (And.intro hj4 (And.intro hO4 (And.intro hD4 hn4))); clear hj4 hO4 hD4 hn4) | ((with_reducible show wpList _ _ _ _ _ _); refine wpList_storeBox rfl 31 _ _ rfl HB4.out.1 0 #[.int .i64 room, .int .i64 life, .int .i64 now, .slice ol l cap] (show (Try.prog.info? 31).map (·.size) = some 4 from by kernel_rfl) rfl rfl (by simp) (by simp [Value.oneCell']) ?_; intro w5 hg5 hb5; have HG5 := Lib.hid hg5; have HB5 := Lib.hid (show Box w5 w.heap.size 31 [.int .i64 room, .int .i64 life, .int .i64 now, .slice ol l cap] from hb5); clear hg5 hb5))
  have HS := Lib.hid (pls_mk (WK := ((((w.alloc (.cells #[.int .i64 room, .int .i64 life, .int .i64 now, .slice oa l c] 31)).alloc (.cells #[.int .i64 p.tos, .int .i64 p.id, .bool p.df, .bool p.mf, .int .i64 p.off, .int .i64 p.ttl, .int .i64 p.proto, .int .u32 p.src, .int .u32 p.dst, .slice oo p.ol oc, .slice ob p.bl bc] 25)).alloc (.cells #[.int .i64 0, .int .i64 0, .int .i64 0, .slice none 0 0] 31)).alloc (.cells #[.int .i64 0, .int .i64 0, .bool false, .bool false, .int .i64 0, .int .i64 0, .int .i64 0, .int .u32 0, .int .u32 0, .slice none 0 0, .slice none 0 0] 25))) (K := 4) HP.out HL.out (by simp) (by (exact jkc)) H4.out.1 H4.out.2.1 H4.out.2.2.1 H4.out.2.2.2 (Nat.le_refl _) (by omega) HG5.out)
  have HP5 := Lib.hid (plx_mk (WK := ((((w.alloc (.cells #[.int .i64 room, .int .i64 life, .int .i64 now, .slice oa l c] 31)).alloc (.cells #[.int .i64 p.tos, .int .i64 p.id, .bool p.df, .bool p.mf, .int .i64 p.off, .int .i64 p.ttl, .int .i64 p.proto, .int .u32 p.src, .int .u32 p.dst, .slice oo p.ol oc, .slice ob p.bl bc] 25)).alloc (.cells #[.int .i64 0, .int .i64 0, .int .i64 0, .slice none 0 0] 31)).alloc (.cells #[.int .i64 0, .int .i64 0, .bool false, .bool false, .int .i64 0, .int .i64 0, .int .i64 0, .int .u32 0, .int .u32 0, .slice none 0 0, .slice none 0 0] 25))) (K := 4) HP.out HL.out (by simp) (by (exact jkc)) H4.out.1 H4.out.2.1 H4.out.2.2.1 (Nat.le_refl _) (by omega) HG5.out)
  have HRQ := Lib.hid (HS.out.2.trans HLQ.out)
  have HT5 := Lib.hid HS.out.1
  have HBX := Lib.hid (show Bx4 w w5 [.int .i64 room, .int .i64 life, .int .i64 now, .slice ol l cap] [.int .i64 p.tos, .int .i64 p.id, .bool p.df, .bool p.mf, .int .i64 p.off, .int .i64 p.ttl, .int .i64 p.proto, .int .u32 p.src, .int .u32 p.dst, .slice oo p.ol oc, .slice ob p.bl bc] [.int .i64 0, .int .i64 0, .int .i64 0, .slice none 0 0] [.int .i64 0, .int .i64 0, .bool false, .bool false, .int .i64 0, .int .i64 0, .int .i64 0, .int .u32 0, .int .u32 0, .slice none 0 0, .slice none 0 0] 31 25 31 25 from ⟨HB5.out, HB4.out.b1.grown HG5.out (by simp), HB4.out.b2.grown HG5.out (by simp), HB4.out.b3.grown HG5.out (by simp)⟩)
  clear HS H4 HB4 HG5 HB5 HCP
  have p0 : w5.cell? ⟨w.heap.size + 1, 10, none⟩ = some (.slice ob p.bl bc) := HBX.out.b1.cell rfl
  have s0 := HBX.out.b0.lt
  have s1 := HBX.out.b1.lt
  have hlc2 := HT5.out.own.capLe
  have HOK := Lib.hid (HQ.out.of HRQ.out)
  have HRI := Lib.hid (fun w1 (hj : Junk w5 w1) => show Calls Try.prog 13 #[.agg #[.int .i64 room, .int .i64 life, .int .i64 now, .slice ol l cap]] w1 fun e w' => e = .returned (.bool true) ∧ Junk w1 w' from by
    rw [← HR0.out, ← HRQ.out]
    exact rright_any room life now ol l cap R w1 (HT5.out.plat.on hj) HT5.out.len (by omega) hlc2.1 (by have := HOK.out.1; omega) (fun b hb => by have := (HOK.out.2.1 b hb).1; omega) (fun b hb => (HOK.out.2.1 b hb).2.1) HOK.out.2.2)
  go_upto_region 8 with (first | ((with_reducible show wpList _ _ _ _ _ _); refine wpList_loadBox rfl 25 _ rfl Try.isAgg25 11 Try.sizeOf25 ((HBX.out.on (show Junk w5 _ by (exact jkc))).b1) 0 rfl [.int .i64 p.tos, .int .i64 p.id, .bool p.df, .bool p.mf, .int .i64 p.off, .int .i64 p.ttl, .int .i64 p.proto, .int .u32 p.src, .int .u32 p.dst, .slice oo p.ol oc, .slice ob p.bl bc] rfl rfl ?_) | ((with_reducible show wpList _ _ _ _ _ _); refine wpList_loadBox rfl 31 _ rfl Try.isAgg31 4 Try.sizeOf31 ((HBX.out.on (show Junk w5 _ by (exact jkc))).b0) 0 rfl [.int .i64 room, .int .i64 life, .int .i64 now, .slice ol l cap] rfl rfl ?_) | (go_at_call 23; (with_reducible refine (HPI.out _).mono ?_); rintro e w' ⟨rfl, ⟨osp, dp, rfl⟩⟩) | (go_at_call 25; (with_reducible refine (HPU.out _ (HT5.out.junk.trans (by (exact jkc)))).mono ?_); rintro e w' ⟨ou, lu, cu, rfl, ⟨osu, du, rfl⟩⟩) | (go_at_call 13; (with_reducible refine (HRI.out _ (by (exact jkc))).mono ?_); rintro e w' ⟨rfl, ⟨osr, dr, rfl⟩⟩))
  refine wp_genX (fun V => Junk w5 V) (by (exact jkc)) ?_
  intro V7 hj7
  have HT7 := Lib.hid (HT5.out.on hj7)
  have HB7 := Lib.hid (HBX.out.on hj7)
  have HP7 := Lib.hid (HP5.out.on hj7)
  clear hj7 p0 s0 s1 HPI HPU HRI HT5 HBX
  have HROW := Lib.hid (show ∀ r, r < w.heap.size + 4 → some r ≠ rowOf ol from fun r hr he => by
    cases hob : ol with
    | none => rw [hob] at he; cases he
    | some a =>
      rw [hob] at he
      have h1 : r = a.block := Option.some.inj he
      have := own_fresh HT7.out.own a hob
      omega)
  have HRL := Lib.hid HT7.out.len
  have x3 : V7.cell? ⟨w.heap.size, 3, none⟩ = some (.slice ol l cap) := HB7.out.b0.cell rfl
  have s0 := HB7.out.b0.lt
  have s1 := HB7.out.b1.lt
  have HIX := Lib.hid (fun w1 (hj : Junk V7 w1) => ridxB_any 27 #[.pointer (some ⟨w.heap.size + 1, 0, none⟩)] _ ol l cap R (mineP p) w1 (by omega) HRL.out (HT7.out.own.on hj) (fun w2 hj2 b hb => by
    have b1 := HB7.out.b1.on (hj.trans hj2)
    exact clo27_any (w.heap.size + 1) p.src p.dst p.id p.proto w2 b1.lt (b1.cell rfl) (b1.cell rfl) (b1.cell rfl) (b1.cell rfl) w2 (Junk.refl _) b _ rfl) (fun _ _ => enter_fn Try.func27 (by kernel_rfl) rfl _ _))
  rw [HRQ.out] at HIX
  have hmf : ∀ (fn : Fn) (first cap : Array Value) (w : World), (Instr.makeFunc fn first cap).run Try.prog w = .ok (.func fn first cap) w := fun _ _ _ _ => rfl
  obtain ⟨hil, -, -⟩ := List.findIdx?_eq_some_iff_getElem.1 hi
  have hil2 : i < l := by rw [← HLEN.out]; exact hil
  obtain ⟨b, hb⟩ : ∃ b, R[i]? = some b := ⟨_, List.getElem?_eq_getElem (by rw [HRL.out]; exact hil2)⟩
  have HBR := Lib.hid hb
  have HBQ := Lib.hid (show Q[i]? = some b.q from by rw [← HRQ.out, List.getElem?_map, hb]; rfl)
  have hbm := List.mem_of_getElem? hb
  have HIN := Lib.hid (HT7.out.ins b hbm)
  obtain ⟨g, rfl⟩ : ∃ g, ol = some ⟨g, 0, none⟩ := by
    rcases HT7.out.own.form with ⟨_, h, _⟩ | ⟨g, cur, h, _⟩
    · omega
    · exact ⟨g, h⟩
  have HC := Lib.hid (own_bf HT7.out.own hb)
  have gs := (own_geR HT7.out.own).2
  obtain ⟨n, hn⟩ : ∃ n, b.F.length = n := ⟨_, rfl⟩
  have hn6 : n ≤ 100000 := by rw [← hn]; exact (HOK.out.2.1 b hbm).1
  have HN := Lib.hid hn
  have HRB := Lib.hid (right_runs HR0.out HBQ.out)
  have hi0 : (0 : Int) ≤ (i : Int) := by omega
  have hi1 : ((i : Int) < 0) = False := by simp
  have hiL : (i : Int) < (l : Int) := by omega
  rw [hi, show idxR (some i) = (i : Int) from rfl] at HIX
  obtain ⟨CQ, hCQ⟩ : ∃ CQ, clashB b.q p = CQ := ⟨_, rfl⟩
  have HCL := Lib.hid (fun w1 (hj : Junk V7 w1) => show Calls Try.prog 29 #[.agg b.cells.toArray, .agg #[.int .i64 p.tos, .int .i64 p.id, .bool p.df, .bool p.mf, .int .i64 p.off, .int .i64 p.ttl, .int .i64 p.proto, .int .u32 p.src, .int .u32 p.dst, .slice oo p.ol oc, .slice ob p.bl bc]] w1 fun e w' => e = .returned (.bool CQ) ∧ Junk w1 w' from by
    rw [← hCQ]
    exact clashes_any b b.F.length p oo ob oc bc w1 (HIN.out.runs.on hj) rfl (by rw [HN.out]; omega) (fun f hf => by
      obtain ⟨(a1 : 0 ≤ f.k), (a2 : f.k ≤ 65535), (a3 : f.l ≤ 65535)⟩ := HRB.out f.d (List.mem_map.2 ⟨f, hf, rfl⟩)
      exact ⟨a1, by omega, by omega⟩) (by have := HMP.out.off; omega) (by omega))
  have HCQ := Lib.hid hCQ
  clear hb hn hbm hCQ hi hil
  obtain rfl : bq = b.q := by have := HBQ.out; rw [hbq] at this; exact Option.some.inj this
  have hc2 : CQ = false := HCQ.out.symm.trans hcl
  clear hbq hcl
  subst hc2
  go_upto_region 9 with (first | (go_at_call 26; (with_reducible refine (HIX.out _ (by (exact jkc))).mono ?_); rintro e w' ⟨rfl, ⟨osx, dx, rfl⟩⟩))
  refine wp_genX (fun V => Junk V7 V) (by (exact jkc)) ?_
  intro V9 hj9
  have HT9 := Lib.hid (HT7.out.on hj9)
  have HB9 := Lib.hid (HB7.out.on hj9)
  have HC9 := Lib.hid (own_bf HT9.out.own HBR.out)
  have HJ9 := Lib.hid hj9
  have HP9 := Lib.hid (HP7.out.on hj9)
  have y3 : V9.cell? ⟨w.heap.size, 3, none⟩ = some (.slice (some ⟨g, 0, none⟩) l cap) := HB9.out.b0.cell rfl
  have z0 := HB9.out.b0.lt
  have z1 := HB9.out.b1.lt
  have zg := (own_geR HT9.out.own).2
  clear hj9 x3 s0 s1 gs HT7 HB7 HC HIX
  refine wp_region_junk (by kernel_rfl) (by kernel_rfl) ?_
  iterate 7 (go_big_quiet_step (fail))
  (refine wpQuiet_loadAgg (by first | rfl | (simp [Region.wanted, yielded]; done)) 45 _ rfl Try.isAgg45 g (i * 19) b.cells Try.sizeOf45 rfl (junk_cells HC9.out) ?_; conv => arg 6; simp only [Act.put, List.setIfInBounds_toArray, List.set_cons_zero, List.set_cons_succ])
  (refine wpQuiet_loadAgg (by first | rfl | (simp [Region.wanted, yielded]; done)) 25 _ rfl Try.isAgg25 (w.heap.size + 1) 0 [.int .i64 p.tos, .int .i64 p.id, .bool p.df, .bool p.mf, .int .i64 p.off, .int .i64 p.ttl, .int .i64 p.proto, .int .u32 p.src, .int .u32 p.dst, .slice oo p.ol oc, .slice ob p.bl bc] Try.sizeOf25 rfl (junk_cells0 HB9.out.b1) ?_; conv => arg 6; simp only [Act.put, List.setIfInBounds_toArray, List.set_cons_zero, List.set_cons_succ])
  repeat (go_big_quiet_step (first | (go_at_call 29; with_reducible exact Calls.jc (HCL.out _ (HJ9.out.trans (by (exact jkc)))))))
  refine wpQuiet_nil ?_; rintro _ ⟨⟨osq9, dq9⟩, rfl⟩
  have HHE := Lib.hid (fun w1 (hj : Junk V9 w1) => held_any room life now (some ⟨g, 0, none⟩) l cap R w1 (HT9.out.plat.on hj) HRL.out (by omega) (by have := HOK.out.1; omega) (fun b hb => by have := (HOK.out.2.1 b hb).1; omega))
  rw [HRQ.out] at HHE
  have hH9 := HQ.out.held
  obtain ⟨H, hH⟩ : ∃ H, heldQ Q = H := ⟨_, rfl⟩
  rw [hH] at HHE hH9
  have HHQ := Lib.hid hH
  clear hH
  have ph := wrapk_i64 ((H : Int) + (p.bl : Int)) (by omega) (by omega)
  have q0 : V9.cell? ⟨w.heap.size, 0, none⟩ = some (.int .i64 room) := HB9.out.b0.cell rfl
  have q1 : V9.cell? ⟨w.heap.size, 1, none⟩ = some (.int .i64 life) := HB9.out.b0.cell rfl
  have q2 : V9.cell? ⟨w.heap.size, 2, none⟩ = some (.int .i64 now) := HB9.out.b0.cell rfl
  have q10 : V9.cell? ⟨w.heap.size + 1, 10, none⟩ = some (.slice ob p.bl bc) := HB9.out.b1.cell rfl
  have hf2 : decide (room < (H : Int) + (p.bl : Int)) = false := by rw [← HHQ.out]; exact HROOM.out
  have HSO := Lib.hid (right_sorted HR0.out HBQ.out)
  have HHB := Lib.hid (show heldO (b.F.map Ot.d) ≤ 1048576 from by have h1 := held_one HBQ.out; have h2 := right_held HR0.out; have h3 : b.q.runs = b.F.map Ot.d := rfl; rw [h3] at h1; omega)
  go_upto_region 13 with (fail)
  refine wp_region_junk (by kernel_rfl) (by kernel_rfl) ?_; (repeat (go_big_quiet_step (first | ((go_at_call 14; with_reducible exact Calls.jc (HHE.out _ (by (exact jkc)))))))); refine wpQuiet_nil ?_; rintro _ ⟨⟨osq13, dq13⟩, rfl⟩
  go_upto_region 18 with (fail)
  refine wp_genX (fun V => Junk V9 V) (by (exact jkc)) ?_
  intro VE hjE
  have HTE := Lib.hid (HT9.out.on hjE)
  have HBE := Lib.hid (HB9.out.on hjE)
  have HPE := Lib.hid (HP9.out.on hjE)
  have HMEM := Lib.hid (List.mem_of_getElem? HBR.out)
  have HB1 := HBR
  have HM1 := HRQ
  have HL1 := HLEN
  have HEQ := HTQ
  have HMR := HMEM
  have HIR := Lib.hid (show i < R.length from (List.getElem?_eq_some_iff.1 HBR.out).1)
  clear hjE y3 z0 z1 zg HT9 HB9 HP9 HJ9 HC9 HCL HHE q0 q1 q2 q10 HTQ
  obtain ⟨R1, hR1⟩ : ∃ R1, R1 = R := ⟨_, rfl⟩
  obtain ⟨Q1, hQ1⟩ : ∃ Q1, Q1 = Q := ⟨_, rfl⟩
  rw [← hR1] at HTE HPE HMEM HB1 HIR HM1
  rw [← hQ1] at HM1 HL1
  rw [show Q.set i (addQ b.q p) = Q1.set i (addQ b.q p) from by rw [hQ1]] at HEQ
  clear hR1 hQ1
  have HADD := Lib.hid (fun w1 (hj : Junk VE w1) => show Calls Try.prog 31 #[.agg b.cells.toArray, .agg #[.int .i64 p.tos, .int .i64 p.id, .bool p.df, .bool p.mf, .int .i64 p.off, .int .i64 p.ttl, .int .i64 p.proto, .int .u32 p.src, .int .u32 p.dst, .slice oo p.ol oc, .slice ob p.bl bc]] w1 (AddM w w1 b p) from add_any b b.F.length p oo ob oc bc w w1 (HTE.out.junk.trans hj) rfl (by rw [HN.out]; omega) ((HPE.out.fr b HMEM.out).own.on hj) (fun f hf => ⟨((HTE.out.ins b HMEM.out).data f hf).on hj, (HPE.out.fr b HMEM.out).o3 f hf⟩) HSO.out HX.out hpb (by have := HMP.out.off; omega) (by omega) ((HTE.out.ins b HMEM.out).on hj).head (HPE.out.fr b HMEM.out).o1 (HPE.out.fr b HMEM.out).o2)
  have HFR := Lib.hid (show TkR w [.int .i64 room, .int .i64 life, .int .i64 now, .slice (some ⟨g, 0, none⟩) l cap] [.int .i64 p.tos, .int .i64 p.id, .bool p.df, .bool p.mf, .int .i64 p.off, .int .i64 p.ttl, .int .i64 p.proto, .int .u32 p.src, .int .u32 p.dst, .slice oo p.ol oc, .slice ob p.bl bc] [.int .i64 0, .int .i64 0, .int .i64 0, .slice none 0 0] [.int .i64 0, .int .i64 0, .bool false, .bool false, .int .i64 0, .int .i64 0, .int .i64 0, .int .u32 0, .int .u32 0, .slice none 0 0, .slice none 0 0] 31 25 31 25 g i b VE from ⟨HBE.out, own_bf HTE.out.own HB1.out⟩)
  haveI hne : Nonempty (PW (TkR w [.int .i64 room, .int .i64 life, .int .i64 now, .slice (some ⟨g, 0, none⟩) l cap] [.int .i64 p.tos, .int .i64 p.id, .bool p.df, .bool p.mf, .int .i64 p.off, .int .i64 p.ttl, .int .i64 p.proto, .int .u32 p.src, .int .u32 p.dst, .slice oo p.ol oc, .slice ob p.bl bc] [.int .i64 0, .int .i64 0, .int .i64 0, .slice none 0 0] [.int .i64 0, .int .i64 0, .bool false, .bool false, .int .i64 0, .int .i64 0, .int .i64 0, .int .u32 0, .int .u32 0, .slice none 0 0, .slice none 0 0] 31 25 31 25 g i b)) := ⟨⟨VE, HFR.out⟩⟩
  have w3 : ∀ x : PW (TkR w [.int .i64 room, .int .i64 life, .int .i64 now, .slice (some ⟨g, 0, none⟩) l cap] [.int .i64 p.tos, .int .i64 p.id, .bool p.df, .bool p.mf, .int .i64 p.off, .int .i64 p.ttl, .int .i64 p.proto, .int .u32 p.src, .int .u32 p.dst, .slice oo p.ol oc, .slice ob p.bl bc] [.int .i64 0, .int .i64 0, .int .i64 0, .slice none 0 0] [.int .i64 0, .int .i64 0, .bool false, .bool false, .int .i64 0, .int .i64 0, .int .i64 0, .int .u32 0, .int .u32 0, .slice none 0 0, .slice none 0 0] 31 25 31 25 g i b), x.V.cell? ⟨w.heap.size, 3, none⟩ = some (.slice (some ⟨g, 0, none⟩) l cap) := fun x => x.h.1.b0.cell rfl
  have z0 : ∀ x : PW (TkR w [.int .i64 room, .int .i64 life, .int .i64 now, .slice (some ⟨g, 0, none⟩) l cap] [.int .i64 p.tos, .int .i64 p.id, .bool p.df, .bool p.mf, .int .i64 p.off, .int .i64 p.ttl, .int .i64 p.proto, .int .u32 p.src, .int .u32 p.dst, .slice oo p.ol oc, .slice ob p.bl bc] [.int .i64 0, .int .i64 0, .int .i64 0, .slice none 0 0] [.int .i64 0, .int .i64 0, .bool false, .bool false, .int .i64 0, .int .i64 0, .int .i64 0, .int .u32 0, .int .u32 0, .slice none 0 0, .slice none 0 0] 31 25 31 25 g i b), w.heap.size < x.V.heap.size := fun x => x.h.1.b0.lt
  have z1 : ∀ x : PW (TkR w [.int .i64 room, .int .i64 life, .int .i64 now, .slice (some ⟨g, 0, none⟩) l cap] [.int .i64 p.tos, .int .i64 p.id, .bool p.df, .bool p.mf, .int .i64 p.off, .int .i64 p.ttl, .int .i64 p.proto, .int .u32 p.src, .int .u32 p.dst, .slice oo p.ol oc, .slice ob p.bl bc] [.int .i64 0, .int .i64 0, .int .i64 0, .slice none 0 0] [.int .i64 0, .int .i64 0, .bool false, .bool false, .int .i64 0, .int .i64 0, .int .i64 0, .int .u32 0, .int .u32 0, .slice none 0 0, .slice none 0 0] 31 25 31 25 g i b), w.heap.size + 1 < x.V.heap.size := fun x => x.h.1.b1.lt
  have zg : ∀ x : PW (TkR w [.int .i64 room, .int .i64 life, .int .i64 now, .slice (some ⟨g, 0, none⟩) l cap] [.int .i64 p.tos, .int .i64 p.id, .bool p.df, .bool p.mf, .int .i64 p.off, .int .i64 p.ttl, .int .i64 p.proto, .int .u32 p.src, .int .u32 p.dst, .slice oo p.ol oc, .slice ob p.bl bc] [.int .i64 0, .int .i64 0, .int .i64 0, .slice none 0 0] [.int .i64 0, .int .i64 0, .bool false, .bool false, .int .i64 0, .int .i64 0, .int .i64 0, .int .u32 0, .int .u32 0, .slice none 0 0, .slice none 0 0] 31 25 31 25 g i b), g < x.V.heap.size := fun x => cell_lt (x.h.2 0 _ rfl)
  have z3 := HBE.out.b3.lt
  have zgE := (own_geR HTE.out.own).2
  refine wp_region_mixq (TkR w [.int .i64 room, .int .i64 life, .int .i64 now, .slice (some ⟨g, 0, none⟩) l cap] [.int .i64 p.tos, .int .i64 p.id, .bool p.df, .bool p.mf, .int .i64 p.off, .int .i64 p.ttl, .int .i64 p.proto, .int .u32 p.src, .int .u32 p.dst, .slice oo p.ol oc, .slice ob p.bl bc] [.int .i64 0, .int .i64 0, .int .i64 0, .slice none 0 0] [.int .i64 0, .int .i64 0, .bool false, .bool false, .int .i64 0, .int .i64 0, .int .i64 0, .int .u32 0, .int .u32 0, .slice none 0 0, .slice none 0 0] 31 25 31 25 g i b) (fun _ _ h hj => h.on hj) 11 [(0, true), (1, true), (2, true), (3, true), (4, true), (5, true), (6, true), (7, true), (8, true), (9, false), (10, true), (11, false)] (by kernel_rfl) (by kernel_rfl) (HFR.out) ?_; (iterate 7 (refine wpMixL_q rfl (fun K hK => ?_); (go_simp; try go_bits); (refine hK _ ?_; clear hK K))); (refine wpMixL_loadAgg rfl (by first | rfl | (simp [Region.wanted, yielded]; done)) 45 _ rfl Try.isAgg45 g (i * 19) b.cells Try.sizeOf45 rfl (fun V h => h.2) ?_; conv => arg 7; simp only [Act.put, List.setIfInBounds_toArray, List.set_cons_zero, List.set_cons_succ]); (refine wpMixL_loadAgg rfl (by first | rfl | (simp [Region.wanted, yielded]; done)) 25 _ rfl Try.isAgg25 (w.heap.size + 1) 0 [.int .i64 p.tos, .int .i64 p.id, .bool p.df, .bool p.mf, .int .i64 p.off, .int .i64 p.ttl, .int .i64 p.proto, .int .u32 p.src, .int .u32 p.dst, .slice oo p.ol oc, .slice ob p.bl bc] Try.sizeOf25 rfl (fun V h j v hv => by rw [Nat.zero_add]; exact h.1.b1.cell hv) ?_; conv => arg 7; simp only [Act.put, List.setIfInBounds_toArray, List.set_cons_zero, List.set_cons_succ]); refine wpMixL_e rfl (fun osm18_0 dm18_0 K hK => ?_); (go_simp; try go_bits); (go_at_call 31; (with_reducible refine (HADD.out _ (by (exact jkc))).mono ?_); rintro e w6 ⟨b2, rfl, hq2, hj6, hg6, hin6, hof6⟩; have H6 := Lib.hid (And.intro (HTE.out.on (show Junk VE (VE.junk osm18_0 dm18_0) from ⟨_, _, rfl⟩)) (And.intro (HPE.out.on (show Junk VE (VE.junk osm18_0 dm18_0) from ⟨_, _, rfl⟩)) (And.intro hg6 (And.intro hj6 (And.intro hin6 (And.intro hof6 (HBE.out.on (show Junk VE (VE.junk osm18_0 dm18_0) from ⟨_, _, rfl⟩)))))))); have HQ2 := Lib.hid hq2; have HO6 := Lib.hid (own_grownR ((HTE.out.on (show Junk VE _ by (exact jkc))).own) hg6 (fun k hk a ha he => by cases ha; exact (HTE.out.offl b HMEM.out _ rfl).row (by rw [hk]; exact congrArg some he))); have HF6 := Lib.hid ((HFR.out.on (show Junk VE _ by (exact jkc))).grown hg6 (fun r r1 r2 he => (HTE.out.offb b HMEM.out r r1 r2).row he.symm) (fun he => (HTE.out.offl b HMEM.out _ rfl).row he.symm)); clear hq2 hj6 hg6 hin6 hof6); refine hK _ _ (⟨⟨_, by exact HF6.out⟩, rfl⟩) ?_; clear hK K; (iterate 1 (refine wpMixL_q rfl (fun K hK => ?_); (go_simp; try go_bits); (refine hK _ ?_; clear hK K))); refine wpMixL_last1 rfl rfl (fun osm18_1 dm18_1 K hK => ?_); (refine storeOwn_wp 45 _ _ rfl (HO6.out.on (show Junk w6 _ by (exact jkc))) (i * 19) b2.cells.toArray (show (Try.prog.info? 45).map (·.size) = some 19 from by kernel_rfl) rfl rfl (by simp [Bf.cells]; omega) (by rw [List.toList_toArray]; exact b2.one) ?_; intro w8 hg8 ho8; have H8 := Lib.hid (And.intro (grown_tr (grown_junk (show Junk w6 _ by (exact jkc)) (some g)) hg8) (by rw [bfs_put b2 HIR.out] at ho8; exact ho8)); clear hg8 ho8); refine hK _ _ ?_; clear hK K; refine wpMixL_nil (fun osm dm => ?_)
  have HTF := Lib.hid ((H6.out.1.put H6.out.2.1 HB1.out H6.out.2.2.1 H6.out.2.2.2.1 H6.out.2.2.2.2.1 H6.out.2.2.2.2.2.1 H8.out.1 (own_raise H8.out.2 (fun a ha => own_fresh HTE.out.own a ha)) (by first | omega | (simp; omega))).on (show Junk w8 (w8.junk osm dm) from ⟨_, _, rfl⟩))
  have HBF := Lib.hid (((H6.out.2.2.2.2.2.2.grown H6.out.2.2.1 (fun r r1 r2 he => (HTE.out.offb b HMEM.out r r1 r2).row he.symm)).grown H8.out.1 (fun r r1 r2 he => by have := own_fresh HTE.out.own _ rfl; have h2 : r = g := Option.some.inj he; simp only at this; omega)).on (show Junk w8 (w8.junk osm dm) from ⟨_, _, rfl⟩))
  have HOFF := Lib.hid (H6.out.2.2.2.2.2.1 g (by simp; omega) (HTE.out.offl b HMEM.out _ rfl))
  clear H6 H8 HO6 HF6 HFR hne zgE HADD HTE HBE HPE w3 z0 z1 z3 zg
  generalize w8.junk osm dm = VF at HTF HBF ⊢
  have HB2 := Lib.hid (show (R1.set i b2)[i]? = some b2 from List.getElem?_set_self HIR.out)
  have HC2 := Lib.hid (own_bf HTF.out.own HB2.out)
  have HM2 := Lib.hid (show (R1.set i b2).map Bf.q = Q1.set i (addQ b.q p) from by rw [List.map_set, HM1.out, HQ2.out])
  have w3 : VF.cell? ⟨w.heap.size, 3, none⟩ = some (.slice (some ⟨g, 0, none⟩) l cap) := HBF.out.b0.cell rfl
  have z0 := HBF.out.b0.lt
  have zg := (own_geR HTF.out.own).2
  have HLR := Lib.hid (show heldO (b2.F.map Ot.d) ≤ 100000000 ∧ b2.F.length ≤ 1000000 from by
    have h1 : b2.F.map Ot.d = insOd (b.F.map Ot.d) ⟨p.off, p.bl, p.body⟩ := congrArg Bq.runs HQ2.out
    have h2 := congrArg List.length h1
    rw [List.length_map, insOd_len, List.length_map, HN.out] at h2
    refine ⟨?_, by omega⟩
    rw [h1, heldO_ins]
    have h3 := HHB.out
    show heldO (b.F.map Ot.d) + p.bl ≤ _
    omega)
  have HWH := Lib.hid (fun w1 (hj : Junk VF w1) => show Calls Try.prog 32 #[.agg b2.cells.toArray] w1 (WholeM w1 (addQ b.q p)) from by
    have := whole_any b2 b2.F.length w1 ((HTF.out.ins b2 (List.mem_of_getElem? HB2.out)).runs.on hj) rfl HLR.out.2 (by have := HLR.out.1; omega)
    rw [HQ2.out] at this
    exact this)
  have HOL2 := Lib.hid (show b2.head.ol ≤ 1000 from by
    have h1 : b2.head = if p.off = 0 then headI p else b.head := congrArg Bq.head HQ2.out
    rw [h1]
    split
    · exact hpo
    · exact (HOK.out.2.1 b HMR.out).2.1)
  obtain ⟨B, hB⟩ : ∃ B, addQ b.q p = B := ⟨_, rfl⟩
  rw [hB] at HWH HM2 HQ2
  have HEQ2 := Lib.hid (show takeQ room life now Q p = endQ (Q1.set i B) i B from by rw [HEQ.out, hB])
  clear hB
  by_cases hG : (gapGo 0 B.runs && ((heldO B.runs : Int) == B.total)) = true
  · have HW1 := Lib.hid (fun w1 (hj : Junk VF w1) => show Calls Try.prog 32 #[.agg b2.cells.toArray] w1 fun e w' => ∃ oz cz, e = .returned (.tuple #[.slice oz (heldO B.runs) cz, .bool true]) ∧ Junk w1 w' ∧ Bts w' oz (heldO B.runs) cz (catF B.runs) ∧ Fresh w1.heap.size oz from (HWH.out w1 hj).mono fun e w' h => by
      simp only [Bool.and_eq_true] at hG
      rcases h with ⟨h1, ⟨h2, _⟩ | ⟨h2, oz, cz, h3, h4, h5⟩⟩
      · rw [h2] at hG; cases hG.1
      · exact ⟨oz, cz, by rw [h3, hG.2], h1, h4, h5⟩)
    have HGP := Lib.hid hG
    clear hG HWH
    go_upto_region 20 with (first | ((with_reducible show wpList _ _ _ _ _ _); refine wpList_loadAgg rfl 45 _ rfl Try.isAgg45 g (i * 19) b2.cells Try.sizeOf45 rfl HC2.out ?_) | (go_at_call 32; (with_reducible refine (HW1.out _ (by (exact jkc))).mono ?_); rintro e w' ⟨oz, cz, rfl, ⟨osw, dw, rfl⟩, hbz, hfz⟩; have HZ := Lib.hid (And.intro hbz hfz); clear hbz hfz))
    obtain rfl : B = b2.q := HQ2.out.symm
    refine wp_genX (fun V => Junk (VF.junk osw dw) V) (by (exact jkc)) ?_
    intro VG hjG
    have HJG := Lib.hid ((show Junk VF (VF.junk osw dw) from ⟨_, _, rfl⟩).trans hjG)
    have HTG := Lib.hid (HTF.out.on HJG.out)
    have HBG := Lib.hid (HBF.out.on HJG.out)
    have HZG := Lib.hid (show Bts VG oz (heldO b2.q.runs) cz (catF b2.q.runs) ∧ Fresh VF.heap.size oz from ⟨HZ.out.1.on hjG, HZ.out.2.lower (by simp)⟩)
    have HCG := Lib.hid (own_bf HTG.out.own HB2.out)
    have HCH := Lib.hid (show ∀ j v, ([.int .i64 b2.head.tos, .int .i64 b2.head.id, .bool b2.head.df, .bool b2.head.mf, .int .i64 b2.head.off, .int .i64 b2.head.ttl, .int .i64 b2.head.proto, .int .u32 b2.head.src, .int .u32 b2.head.dst, .slice b2.ho b2.head.ol b2.hoc, .slice b2.hb b2.head.bl b2.hbc])[j]? = some v → VG.cell? ⟨g, i * 19 + 5 + j, none⟩ = some v from fun j v hv => by
      have hv2 : ((b2.cells.drop 5).take 11)[j]? = some v := hv
      rw [List.getElem?_take] at hv2
      split at hv2
      · rw [List.getElem?_drop] at hv2
        rw [Nat.add_assoc]
        exact HCG.out _ _ hv2
      · cases hv2)
    have w3 : VG.cell? ⟨w.heap.size, 3, none⟩ = some (.slice (some ⟨g, 0, none⟩) l cap) := HBG.out.b0.cell rfl
    have zg2 := (own_geR HTG.out.own).2
    have zz := HBG.out.b0.lt
    have zz3 := HBG.out.b3.lt
    have HGF := Lib.hid (show g < VF.heap.size ∧ w.heap.size + 4 ≤ VF.heap.size from ⟨(own_geR HTF.out.own).2, by have := HBF.out.b3.lt; omega⟩)
    clear HZ hjG HW1 HTF HBF HC2 z0 zg
    go_upto_region 24 with (first | ((with_reducible show wpList _ _ _ _ _ _); refine wpList_loadAgg rfl 25 _ rfl Try.isAgg25 g (i * 19 + 5) [.int .i64 b2.head.tos, .int .i64 b2.head.id, .bool b2.head.df, .bool b2.head.mf, .int .i64 b2.head.off, .int .i64 b2.head.ttl, .int .i64 b2.head.proto, .int .u32 b2.head.src, .int .u32 b2.head.dst, .slice b2.ho b2.head.ol b2.hoc, .slice b2.hb b2.head.bl b2.hbc] Try.sizeOf25 rfl HCH.out ?_) | ((with_reducible show wpList _ _ _ _ _ _); refine wpList_storeNew rfl 25 _ _ rfl #[.int .i64 0, .int .i64 0, .bool false, .bool false, .int .i64 0, .int .i64 0, .int .i64 0, .int .u32 0, .int .u32 0, .slice none 0 0, .slice none 0 0] #[.int .i64 b2.head.tos, .int .i64 b2.head.id, .bool b2.head.df, .bool b2.head.mf, .int .i64 b2.head.off, .int .i64 b2.head.ttl, .int .i64 b2.head.proto, .int .u32 b2.head.src, .int .u32 b2.head.dst, .slice b2.ho b2.head.ol b2.hoc, .slice b2.hb b2.head.bl b2.hbc] (show (Try.prog.info? 25).map (·.size) = some 11 from by kernel_rfl) rfl (by simp [Value.oneCell']) _ (by first | rfl | simp) rfl rfl ?_))
    have HJH := Lib.hid (show Junk VG (VG.alloc (.cells #[.int .i64 b2.head.tos, .int .i64 b2.head.id, .bool b2.head.df, .bool b2.head.mf, .int .i64 b2.head.off, .int .i64 b2.head.ttl, .int .i64 b2.head.proto, .int .u32 b2.head.src, .int .u32 b2.head.dst, .slice b2.ho b2.head.ol b2.hoc, .slice oz (heldO b2.q.runs) cz] 25)) by (exact jkc))
    have HBO := Lib.hid (show Box (VG.alloc (.cells #[.int .i64 b2.head.tos, .int .i64 b2.head.id, .bool b2.head.df, .bool b2.head.mf, .int .i64 b2.head.off, .int .i64 b2.head.ttl, .int .i64 b2.head.proto, .int .u32 b2.head.src, .int .u32 b2.head.dst, .slice b2.ho b2.head.ol b2.hoc, .slice oz (heldO b2.q.runs) cz] 25)) VG.heap.size 25 [.int .i64 b2.head.tos, .int .i64 b2.head.id, .bool b2.head.df, .bool b2.head.mf, .int .i64 b2.head.off, .int .i64 b2.head.ttl, .int .i64 b2.head.proto, .int .u32 b2.head.src, .int .u32 b2.head.dst, .slice b2.ho b2.head.ol b2.hoc, .slice oz (heldO b2.q.runs) cz] from box_new VG _ _)
    have HTH := Lib.hid (HTG.out.on HJH.out)
    have HBH := Lib.hid (HBG.out.on HJH.out)
    have HGX := Lib.hid (show w.heap.size + 4 ≤ VG.heap.size ∧ g ≠ VG.heap.size from ⟨by omega, by omega⟩)
    have HZH := Lib.hid (And.intro (HZG.out.1.on HJH.out) HZG.out.2)
    have HOH := Lib.hid (show Bts (VG.alloc (.cells #[.int .i64 b2.head.tos, .int .i64 b2.head.id, .bool b2.head.df, .bool b2.head.mf, .int .i64 b2.head.off, .int .i64 b2.head.ttl, .int .i64 b2.head.proto, .int .u32 b2.head.src, .int .u32 b2.head.dst, .slice b2.ho b2.head.ol b2.hoc, .slice oz (heldO b2.q.runs) cz] 25)) b2.ho b2.head.ol b2.hoc b2.head.opts from ((HTH.out.ins b2 (List.mem_of_getElem? HB2.out)).head.opts))
    have HSX := Lib.hid (show VF.heap.size ≤ VG.heap.size from HJG.out.size)
    generalize VG.heap.size = gx at HBO HGX HSX ⊢
    generalize VG.alloc (.cells #[.int .i64 b2.head.tos, .int .i64 b2.head.id, .bool b2.head.df, .bool b2.head.mf, .int .i64 b2.head.off, .int .i64 b2.head.ttl, .int .i64 b2.head.proto, .int .u32 b2.head.src, .int .u32 b2.head.dst, .slice b2.ho b2.head.ol b2.hoc, .slice oz (heldO b2.q.runs) cz] 25) = VH at HTH HBH HBO HZH HOH HJH ⊢
    have w3 : VH.cell? ⟨w.heap.size, 3, none⟩ = some (.slice (some ⟨g, 0, none⟩) l cap) := HBH.out.b0.cell rfl
    have zz := HBH.out.b0.lt
    have HRL2 := Lib.hid (show (R1.set i b2).length = l from HTH.out.len)
    have hil3 : i < l := by have := HIR.out; have := HRL2.out; rw [List.length_set] at this; omega
    obtain ⟨L9, hL9⟩ : ∃ L9, i + (l - (i + 1)) = L9 := ⟨_, rfl⟩
    have HDL := Lib.hid (fun w1 (hj : Junk VH w1) => delB_any g l cap i (l - (i + 1)) (R1.set i b2) w w1 (by omega) HRL2.out (by omega) (HTH.out.junk.trans hj) ((HTH.out.own.on hj).lower (by omega)))
    rw [hL9] at HDL
    have HL9 := Lib.hid (show L9 = l - 1 ∧ L9 ≤ l from by omega)
    clear hL9
    have HSUB := Lib.hid (show ∀ x ∈ (R1.set i b2).eraseIdx i, x ∈ R1.set i b2 from fun x hx => List.mem_of_mem_eraseIdx hx)
    have HRW4 := Lib.hid (show ∀ r, w.heap.size ≤ r → r < w.heap.size + 4 → some r ≠ some g from fun r _ h2 he => by have := own_fresh HTH.out.own _ rfl; have h3 : r = g := Option.some.inj he; simp only at this; omega)
    go_upto_region 25 with (first | (go_at_call 30; (with_reducible refine (HDL.out _ (by (exact jkc))).mono ?_); rintro e w6 ⟨rfl, hj6, hg6, ho6⟩; have hb0 := (HBH.out.on (show Junk VH _ by (exact jkc))).grown hg6 HRW4.out; have u3 := hb0.b0.cell (j := 3) rfl; have uf := hb0.b0.frozen 3; have us := hb0.b0.lt; have H6 := Lib.hid (And.intro hb0 (And.intro ((HTH.out.on (show Junk VH _ by (exact jkc))).list hg6 hj6 (own_raise ho6 (fun a ha => own_fresh HTH.out.own a ha)) HSUB.out HL9.out.2) (And.intro ((HBO.out.on (show Junk VH _ by (exact jkc))).grown hg6 (fun e => HGX.out.2 (Option.some.inj e).symm)) (And.intro ((HZH.out.1.on (show Junk VH _ by (exact jkc))).grown hg6 (fun _ a ha he => by have := HZH.out.2 a ha; have h3 : a.block = g := Option.some.inj he; have := HGF.out; omega)) ((HOH.out.on (show Junk VH _ by (exact jkc))).grown hg6 HOFF.out.opts))))); clear hb0 hj6 hg6 ho6))
    have HI := Lib.hid (take_out (y := outI b2.q) (o1 := b2.ho) (c1 := b2.hoc) (o2 := oz) (c2 := cz) H6.out.1 H6.out.2.1 H6.out.2.2.1 H6.out.2.2.2.1 H6.out.2.2.2.2 HGX.out.1 (fun r h1 h2 => (HTH.out.offb b2 (List.mem_of_getElem? HB2.out) r h1 h2).opts) (fun r h2 _ a ha he => by have := HZH.out.2 a ha; have h3 : a.block = r := Option.some.inj he; have := HGF.out; omega) (HTH.out.ins b2 (List.mem_of_getElem? HB2.out)).head.src (HTH.out.ins b2 (List.mem_of_getElem? HB2.out)).head.dst)
    generalize w6.setCell ⟨w.heap.size, 3, none⟩ (.slice (some ⟨g, 0, none⟩) L9 cap) = VI at HI ⊢
    have HMQ := Lib.hid (show ((R1.set i b2).eraseIdx i).map Bf.q = (Q1.set i b2.q).eraseIdx i from by rw [map_erase, HM2.out])
    have HLQ9 := Lib.hid (show ((Q1.set i b2.q).eraseIdx i).length = L9 from by have h1 := HI.out.1.s.len; rw [← HMQ.out, List.length_map]; exact h1)
    clear H6 u3 uf us HDL HTH HBH HBO HZH HOH HJH w3 zz
    have hzi := HI.out.1.bx.lt
    have hz0 := HI.out.1.b0.lt
    by_cases hmo : mayB (outI b2.q) = true
    · have HPT := Lib.hid (fun w1 (hj : Junk VI w1) => show Calls Try.prog 25 #[.agg #[.int .i64 b2.head.tos, .int .i64 b2.head.id, .bool b2.head.df, .bool b2.head.mf, .int .i64 b2.head.off, .int .i64 b2.head.ttl, .int .i64 b2.head.proto, .int .u32 b2.head.src, .int .u32 b2.head.dst, .slice b2.ho b2.head.ol b2.hoc, .slice oz (heldO b2.q.runs) cz]] w1 fun e w' => ∃ o1 l1 c1, e = .returned (.tuple #[.slice o1 l1 c1, .int .i64 0]) ∧ Junk w1 w' from (ipPut_any (outI b2.q) b2.ho oz b2.hoc cz w1 (by show b2.head.ol ≤ _; have := HOL2.out; omega) (by show heldO (b2.F.map Ot.d) ≤ _; exact HLR.out.1) (HI.out.1.i.on hj)).mono fun e w' h => by
        obtain ⟨o1, l1, c1, h1, h2, _⟩ := h
        exact ⟨o1, l1, c1, by rw [h1, show ipErr (outI b2.q) = 0 from if_pos hmo], h2⟩)
      have HTQ3 := Lib.hid (show takeQ room life now Q p = ((Q1.set i b2.q).eraseIdx i, outI b2.q, true, 0) from by rw [HEQ2.out]; unfold endQ; rw [if_pos HGP.out, if_pos hmo])
      clear hmo
      go_upto_region 28 with (first | ((with_reducible show wpList _ _ _ _ _ _); refine wpList_loadBox rfl 25 _ rfl Try.isAgg25 11 Try.sizeOf25 ((HI.out.1.on (show Junk VI _ by (exact jkc))).bx) 0 rfl [.int .i64 b2.head.tos, .int .i64 b2.head.id, .bool b2.head.df, .bool b2.head.mf, .int .i64 b2.head.off, .int .i64 b2.head.ttl, .int .i64 b2.head.proto, .int .u32 b2.head.src, .int .u32 b2.head.dst, .slice b2.ho b2.head.ol b2.hoc, .slice oz (heldO b2.q.runs) cz] rfl rfl ?_) | (go_at_call 25; (with_reducible refine (HPT.out _ (by (exact jkc))).mono ?_); rintro e w' ⟨ov, lv, cv, rfl, ⟨osv, dv, rfl⟩⟩))
      refine wp_genX (fun V => Junk VI V) (by (exact jkc)) ?_
      intro V8 hj8
      have HG := Lib.hid (HI.out.1.on hj8)
      clear hj8 HI HPT hzi hz0
      haveI hne : Nonempty (PW (TkG w room life now (some ⟨g, 0, none⟩) cap L9 ((R1.set i b2).eraseIdx i) (outI b2.q) b2.ho oz b2.hoc cz gx)) := ⟨⟨V8, HG.out⟩⟩
      have hp0 : ∀ x : PW (TkG w room life now (some ⟨g, 0, none⟩) cap L9 ((R1.set i b2).eraseIdx i) (outI b2.q) b2.ho oz b2.hoc cz gx), x.V.cell? ⟨w.heap.size, 0, none⟩ = some (.int .i64 room) := fun x => x.h.b0.cell rfl
      have hp1 : ∀ x : PW (TkG w room life now (some ⟨g, 0, none⟩) cap L9 ((R1.set i b2).eraseIdx i) (outI b2.q) b2.ho oz b2.hoc cz gx), x.V.cell? ⟨w.heap.size, 1, none⟩ = some (.int .i64 life) := fun x => x.h.b0.cell rfl
      have hp2 : ∀ x : PW (TkG w room life now (some ⟨g, 0, none⟩) cap L9 ((R1.set i b2).eraseIdx i) (outI b2.q) b2.ho oz b2.hoc cz gx), x.V.cell? ⟨w.heap.size, 2, none⟩ = some (.int .i64 now) := fun x => x.h.b0.cell rfl
      have hp3 : ∀ x : PW (TkG w room life now (some ⟨g, 0, none⟩) cap L9 ((R1.set i b2).eraseIdx i) (outI b2.q) b2.ho oz b2.hoc cz gx), x.V.cell? ⟨w.heap.size, 3, none⟩ = some (.slice (some ⟨g, 0, none⟩) L9 cap) := fun x => x.h.b0.cell rfl
      have hi0 : ∀ x : PW (TkG w room life now (some ⟨g, 0, none⟩) cap L9 ((R1.set i b2).eraseIdx i) (outI b2.q) b2.ho oz b2.hoc cz gx), x.V.cell? ⟨gx, 0, none⟩ = some (.int .i64 b2.head.tos) := fun x => x.h.bx.cell rfl
      have hi1 : ∀ x : PW (TkG w room life now (some ⟨g, 0, none⟩) cap L9 ((R1.set i b2).eraseIdx i) (outI b2.q) b2.ho oz b2.hoc cz gx), x.V.cell? ⟨gx, 1, none⟩ = some (.int .i64 b2.head.id) := fun x => x.h.bx.cell rfl
      have hi2 : ∀ x : PW (TkG w room life now (some ⟨g, 0, none⟩) cap L9 ((R1.set i b2).eraseIdx i) (outI b2.q) b2.ho oz b2.hoc cz gx), x.V.cell? ⟨gx, 2, none⟩ = some (.bool b2.head.df) := fun x => x.h.bx.cell rfl
      have hi3 : ∀ x : PW (TkG w room life now (some ⟨g, 0, none⟩) cap L9 ((R1.set i b2).eraseIdx i) (outI b2.q) b2.ho oz b2.hoc cz gx), x.V.cell? ⟨gx, 3, none⟩ = some (.bool b2.head.mf) := fun x => x.h.bx.cell rfl
      have hi4 : ∀ x : PW (TkG w room life now (some ⟨g, 0, none⟩) cap L9 ((R1.set i b2).eraseIdx i) (outI b2.q) b2.ho oz b2.hoc cz gx), x.V.cell? ⟨gx, 4, none⟩ = some (.int .i64 b2.head.off) := fun x => x.h.bx.cell rfl
      have hi5 : ∀ x : PW (TkG w room life now (some ⟨g, 0, none⟩) cap L9 ((R1.set i b2).eraseIdx i) (outI b2.q) b2.ho oz b2.hoc cz gx), x.V.cell? ⟨gx, 5, none⟩ = some (.int .i64 b2.head.ttl) := fun x => x.h.bx.cell rfl
      have hi6 : ∀ x : PW (TkG w room life now (some ⟨g, 0, none⟩) cap L9 ((R1.set i b2).eraseIdx i) (outI b2.q) b2.ho oz b2.hoc cz gx), x.V.cell? ⟨gx, 6, none⟩ = some (.int .i64 b2.head.proto) := fun x => x.h.bx.cell rfl
      have hi7 : ∀ x : PW (TkG w room life now (some ⟨g, 0, none⟩) cap L9 ((R1.set i b2).eraseIdx i) (outI b2.q) b2.ho oz b2.hoc cz gx), x.V.cell? ⟨gx, 7, none⟩ = some (.int .u32 b2.head.src) := fun x => x.h.bx.cell rfl
      have hi8 : ∀ x : PW (TkG w room life now (some ⟨g, 0, none⟩) cap L9 ((R1.set i b2).eraseIdx i) (outI b2.q) b2.ho oz b2.hoc cz gx), x.V.cell? ⟨gx, 8, none⟩ = some (.int .u32 b2.head.dst) := fun x => x.h.bx.cell rfl
      have hi9 : ∀ x : PW (TkG w room life now (some ⟨g, 0, none⟩) cap L9 ((R1.set i b2).eraseIdx i) (outI b2.q) b2.ho oz b2.hoc cz gx), x.V.cell? ⟨gx, 9, none⟩ = some (.slice b2.ho b2.head.ol b2.hoc) := fun x => x.h.bx.cell rfl
      have hi10 : ∀ x : PW (TkG w room life now (some ⟨g, 0, none⟩) cap L9 ((R1.set i b2).eraseIdx i) (outI b2.q) b2.ho oz b2.hoc cz gx), x.V.cell? ⟨gx, 10, none⟩ = some (.slice oz (heldO b2.q.runs) cz) := fun x => x.h.bx.cell rfl
      have hs0 : ∀ x : PW (TkG w room life now (some ⟨g, 0, none⟩) cap L9 ((R1.set i b2).eraseIdx i) (outI b2.q) b2.ho oz b2.hoc cz gx), w.heap.size < x.V.heap.size := fun x => x.h.b0.lt
      have hs1 : ∀ x : PW (TkG w room life now (some ⟨g, 0, none⟩) cap L9 ((R1.set i b2).eraseIdx i) (outI b2.q) b2.ho oz b2.hoc cz gx), gx < x.V.heap.size := fun x => x.h.bx.lt
      refine wp_region_mixp (TkG w room life now (some ⟨g, 0, none⟩) cap L9 ((R1.set i b2).eraseIdx i) (outI b2.q) b2.ho oz b2.hoc cz gx) (fun _ _ h hj => h.on hj) [(0, true), (1, true), (2, false), (3, false), (4, true), (5, true)] (by kernel_rfl) (by kernel_rfl) (HG.out) ?_; (iterate 2 (refine wpMix_q rfl (fun K hK => ?_); (go_simp; try go_bits); (refine hK _ ?_; clear hK K))); refine wpMix_e1 rfl rfl (fun osm28_0 dm28_0 K hK => ?_); (obtain ⟨cz9, hz1, hz2⟩ := (HG.out.on (show Junk V8 ((V8.drew).junk osm28_0 dm28_0) by (exact jkc))).z2; refine storeBox_wp 31 _ _ rfl hz1 0 #[.int .i64 room, .int .i64 life, .int .i64 now, .slice (some ⟨g, 0, none⟩) L9 cap] (show (Try.prog.info? 31).map (·.size) = some 4 from by kernel_rfl) rfl rfl (by rw [hz2]; exact Nat.le_refl 4) (by simp [Value.oneCell']) ?_; intro w9 hg9 hb9; have hb99 := all_box hz2 rfl hb9; have HG9 := Lib.hid ((HG.out.on (show Junk V8 ((V8.drew).junk osm28_0 dm28_0) by (exact jkc))).set2 hg9 hb99 rfl); have HB9 := Lib.hid hb99; clear hz1 hz2 hg9 hb9 hb99); refine hK _ _ (⟨⟨_, by first | exact HG9.out | exact HG10.out⟩, rfl⟩) ?_; clear hK K; refine wpMix_e1 rfl rfl (fun osm28_1 dm28_1 K hK => ?_); (obtain ⟨cz9, hz1, hz2⟩ := (HG9.out.on (show Junk w9 (w9.junk osm28_1 dm28_1) by (exact jkc))).z3; refine storeBox_wp 25 _ _ rfl hz1 0 #[.int .i64 b2.head.tos, .int .i64 b2.head.id, .bool b2.head.df, .bool b2.head.mf, .int .i64 b2.head.off, .int .i64 b2.head.ttl, .int .i64 b2.head.proto, .int .u32 b2.head.src, .int .u32 b2.head.dst, .slice b2.ho b2.head.ol b2.hoc, .slice oz (heldO b2.q.runs) cz] (show (Try.prog.info? 25).map (·.size) = some 11 from by kernel_rfl) rfl rfl (by rw [hz2]; exact Nat.le_refl 11) (by simp [Value.oneCell']) ?_; intro w10 hg10 hb10; have hb99 := all_box hz2 rfl hb10; have HG10 := Lib.hid ((HG9.out.on (show Junk w9 (w9.junk osm28_1 dm28_1) by (exact jkc))).set3 hg10 hb99 rfl); have HB10 := Lib.hid (And.intro ((HB9.out.on (show Junk w9 (w9.junk osm28_1 dm28_1) by (exact jkc))).grown hg10 (by simp)) hb99); clear hz1 hz2 hg10 hb10 hb99); refine hK _ _ (⟨⟨_, by first | exact HG9.out | exact HG10.out⟩, rfl⟩) ?_; clear hK K; (iterate 2 (refine wpMix_q rfl (fun K hK => ?_); (go_simp; try go_bits); (refine hK _ ?_; clear hK K))); refine wpMix_nil (fun osm dm => ?_)
      go_wp2
      refine bodyPost_ret (results_cell2tt Try.results10 rfl rfl ((HB10.out.1.on (show Junk w10 _ by (exact jkc))).loadVar 31 Try.isAgg31 Try.sizeOf31) ((HB10.out.2.on (show Junk w10 _ by (exact jkc))).loadVar 25 Try.isAgg25 Try.sizeOf25)) rfl ?_
      have K10 := HG10.out.on (show Junk w10 (w10.junk osm dm) from ⟨_, _, rfl⟩)
      exact takeM_mk HTQ3.out HLQ9.out K10.s.junk (K10.s.qsat HMQ.out) K10.i
    · have HPT := Lib.hid (fun w1 (hj : Junk VI w1) => show Calls Try.prog 25 #[.agg #[.int .i64 b2.head.tos, .int .i64 b2.head.id, .bool b2.head.df, .bool b2.head.mf, .int .i64 b2.head.off, .int .i64 b2.head.ttl, .int .i64 b2.head.proto, .int .u32 b2.head.src, .int .u32 b2.head.dst, .slice b2.ho b2.head.ol b2.hoc, .slice oz (heldO b2.q.runs) cz]] w1 fun e w' => ∃ o1 l1 c1, e = .returned (.tuple #[.slice o1 l1 c1, .int .i64 1]) ∧ Junk w1 w' from (ipPut_any (outI b2.q) b2.ho oz b2.hoc cz w1 (by show b2.head.ol ≤ _; have := HOL2.out; omega) (by show heldO (b2.F.map Ot.d) ≤ _; exact HLR.out.1) (HI.out.1.i.on hj)).mono fun e w' h => by
        obtain ⟨o1, l1, c1, h1, h2, _⟩ := h
        exact ⟨o1, l1, c1, by rw [h1, show ipErr (outI b2.q) = 1 from if_neg hmo], h2⟩)
      have HTQ := Lib.hid (show takeQ room life now Q p = ((Q1.set i b2.q).eraseIdx i, zeroIp, false, 7) from by rw [HEQ2.out]; unfold endQ; rw [if_pos HGP.out, if_neg hmo])
      have HTE := Lib.hid HI.out.1.s
      have HBE := Lib.hid HI.out.2
      have HRE := HMQ
      have HQL := HLQ9
      clear hmo
      go_wp2_with (first | ((with_reducible show wpList _ _ _ _ _ _); refine wpList_loadBox rfl 25 _ rfl Try.isAgg25 11 Try.sizeOf25 ((HI.out.1.on (show Junk VI _ by (exact jkc))).bx) 0 rfl [.int .i64 b2.head.tos, .int .i64 b2.head.id, .bool b2.head.df, .bool b2.head.mf, .int .i64 b2.head.off, .int .i64 b2.head.ttl, .int .i64 b2.head.proto, .int .u32 b2.head.src, .int .u32 b2.head.dst, .slice b2.ho b2.head.ol b2.hoc, .slice oz (heldO b2.q.runs) cz] rfl rfl ?_) | (go_at_call 25; (with_reducible refine (HPT.out _ (by (exact jkc))).mono ?_); rintro e w' ⟨ov, lv, cv, rfl, ⟨osv, dv, rfl⟩⟩) | ((with_reducible show wpList _ _ _ _ _ _); refine wpList_loadBox rfl 31 _ rfl Try.isAgg31 4 Try.sizeOf31 ((HBE.out.on (show Junk VI _ by (exact jkc))).b0) 0 rfl [.int .i64 room, .int .i64 life, .int .i64 now, .slice (some ⟨g, 0, none⟩) L9 cap] rfl rfl ?_) | ((with_reducible show wpList _ _ _ _ _ _); refine wpList_storeBox rfl 31 _ _ rfl ((HBE.out.on (show Junk VI _ by (exact jkc))).b2) 0 #[.int .i64 room, .int .i64 life, .int .i64 now, .slice (some ⟨g, 0, none⟩) L9 cap] (show (Try.prog.info? 31).map (·.size) = some 4 from by kernel_rfl) rfl rfl (by simp) (by simp [Value.oneCell']) ?_; intro w6 hg6 hb6; have H6 := Lib.hid (And.intro (grown_tr (grown_junk (show Junk VI _ by (exact jkc)) (some (w.heap.size + 2))) hg6) (And.intro (show Box w6 (w.heap.size + 2) 31 [.int .i64 room, .int .i64 life, .int .i64 now, .slice (some ⟨g, 0, none⟩) L9 cap] from hb6) (((HBE.out.on (show Junk VI _ by (exact jkc))).b3).grown hg6 (by simp)))); clear hg6 hb6) | ((with_reducible show wpList _ _ _ _ _ _); refine wpList_storeBox rfl 25 _ _ rfl H6.out.2.2 0 #[.int .i64 0, .int .i64 0, .bool false, .bool false, .int .i64 0, .int .i64 0, .int .i64 0, .int .u32 0, .int .u32 0, .slice none 0 0, .slice none 0 0] (show (Try.prog.info? 25).map (·.size) = some 11 from by kernel_rfl) rfl rfl (by simp) (by simp [Value.oneCell']) ?_; intro w7 hg7 hb7; have H7 := Lib.hid (And.intro hg7 (show Box w7 (w.heap.size + 3) 25 [.int .i64 0, .int .i64 0, .bool false, .bool false, .int .i64 0, .int .i64 0, .int .i64 0, .int .u32 0, .int .u32 0, .slice none 0 0, .slice none 0 0] from hb7)); clear hg7 hb7))
      refine bodyPost_ret (results_cell2tt Try.results10 rfl rfl ((H6.out.2.1.grown H7.out.1 (by simp)).loadVar 31 Try.isAgg31 Try.sizeOf31) (H7.out.2.loadVar 25 Try.isAgg25 Try.sizeOf25)) rfl ?_
      have K7 := (HTE.out.box H6.out.1 (by omega) (by omega)).box H7.out.1 (by omega) (by omega)
      exact takeM_mk HTQ.out HQL.out K7.junk (K7.qsat HRE.out) (ip_zero _)
  · have HW0 := Lib.hid (fun w1 (hj : Junk VF w1) => show Calls Try.prog 32 #[.agg b2.cells.toArray] w1 fun e w' => ∃ oz lz cz, e = .returned (.tuple #[.slice oz lz cz, .bool false]) ∧ Junk w1 w' from (HWH.out w1 hj).mono fun e w' h => by
      rcases h with ⟨h1, ⟨h2, h3⟩ | ⟨h2, oz, cz, h3, h4, h5⟩⟩
      · exact ⟨none, 0, 0, h3, h1⟩
      · exact ⟨oz, _, cz, by rw [h3, show ((heldO B.runs : Int) == B.total) = false from by rw [h2] at hG; simpa using hG], h1⟩)
    have HTQ2 := Lib.hid (show takeQ room life now Q p = (Q1.set i B, zeroIp, false, 0) from by rw [HEQ2.out]; unfold endQ; rw [if_neg hG])
    clear hG HWH
    have HTE := HTF
    have HBE := HBF
    have HRE := HM2
    have HQL := Lib.hid (show (Q1.set i B).length = l from by rw [List.length_set, HL1.out])
    have HTQ := HTQ2
    go_upto_region 20 with (first | ((with_reducible show wpList _ _ _ _ _ _); refine wpList_loadAgg rfl 45 _ rfl Try.isAgg45 g (i * 19) b2.cells Try.sizeOf45 rfl HC2.out ?_) | (go_at_call 32; (with_reducible refine (HW0.out _ (by (exact jkc))).mono ?_); rintro e w' ⟨oz, lz, cz, rfl, ⟨osw, dw, rfl⟩⟩))
    go_wp2_with (first | ((with_reducible show wpList _ _ _ _ _ _); refine wpList_loadBox rfl 31 _ rfl Try.isAgg31 4 Try.sizeOf31 ((HBE.out.on (show Junk VF _ by (exact jkc))).b0) 0 rfl [.int .i64 room, .int .i64 life, .int .i64 now, .slice (some ⟨g, 0, none⟩) l cap] rfl rfl ?_) | ((with_reducible show wpList _ _ _ _ _ _); refine wpList_storeBox rfl 31 _ _ rfl ((HBE.out.on (show Junk VF _ by (exact jkc))).b2) 0 #[.int .i64 room, .int .i64 life, .int .i64 now, .slice (some ⟨g, 0, none⟩) l cap] (show (Try.prog.info? 31).map (·.size) = some 4 from by kernel_rfl) rfl rfl (by simp) (by simp [Value.oneCell']) ?_; intro w6 hg6 hb6; have H6 := Lib.hid (And.intro (grown_tr (grown_junk (show Junk VF _ by (exact jkc)) (some (w.heap.size + 2))) hg6) (And.intro (show Box w6 (w.heap.size + 2) 31 [.int .i64 room, .int .i64 life, .int .i64 now, .slice (some ⟨g, 0, none⟩) l cap] from hb6) (((HBE.out.on (show Junk VF _ by (exact jkc))).b3).grown hg6 (by simp)))); clear hg6 hb6) | ((with_reducible show wpList _ _ _ _ _ _); refine wpList_storeBox rfl 25 _ _ rfl H6.out.2.2 0 #[.int .i64 0, .int .i64 0, .bool false, .bool false, .int .i64 0, .int .i64 0, .int .i64 0, .int .u32 0, .int .u32 0, .slice none 0 0, .slice none 0 0] (show (Try.prog.info? 25).map (·.size) = some 11 from by kernel_rfl) rfl rfl (by simp) (by simp [Value.oneCell']) ?_; intro w7 hg7 hb7; have H7 := Lib.hid (And.intro hg7 (show Box w7 (w.heap.size + 3) 25 [.int .i64 0, .int .i64 0, .bool false, .bool false, .int .i64 0, .int .i64 0, .int .i64 0, .int .u32 0, .int .u32 0, .slice none 0 0, .slice none 0 0] from hb7)); clear hg7 hb7))
    refine bodyPost_ret (results_cell2tt Try.results10 rfl rfl ((H6.out.2.1.grown H7.out.1 (by simp)).loadVar 31 Try.isAgg31 Try.sizeOf31) (H7.out.2.loadVar 25 Try.isAgg25 Try.sizeOf25)) rfl ?_
    have K7 := (HTE.out.box H6.out.1 (by omega) (by omega)).box H7.out.1 (by omega) (by omega)
    exact takeM_mk HTQ.out HQL.out K7.junk (K7.qsat HRE.out) (ip_zero _)
end Go.Proofs.Ytgjppmkadmfibaa
