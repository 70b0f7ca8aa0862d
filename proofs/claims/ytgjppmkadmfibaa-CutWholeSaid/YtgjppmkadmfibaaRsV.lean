/- reasm.Take: no room. -/
import Derived.Test.YtgjppmkadmfibaaRsU
set_option linter.unusedVariables false
set_option maxRecDepth 100000
set_option linter.unusedSimpArgs false
namespace Go.Proofs.Ytgjppmkadmfibaa
open Go.RowKit
set_option maxRecDepth 100000 in
set_option maxHeartbeats 32000000 in
theorem take_full_some (room life now : Int) (oa : Option Addr) (l c : Nat) (Q : List Bq) (p : Ip) (oo ob : Option Addr) (oc bc : Nat) (w : World) (hP : QsAt w oa l c Q) (hl2 : l ≤ 1000) (hQ : QsOk Q) (hX : IpAt w p oo oc ob bc) (hpo : p.ol ≤ 1000) (hpb : p.bl ≤ 1000000) (hpi : pieceB p = true) (hr : rightQ room life now Q = true) (hm : mayB p = true) (hb0 : 0 < p.bl) (i : Nat) (hi : Q.findIdx? (mineP p) = some i) (bq : Bq) (hbq : Q[i]? = some bq) (hcl : clashB bq p = false) (hfull : room < (heldQ Q : Int) + p.bl) (ht : takeQ room life now Q p = (Q, zeroIp, false, 8)) : Calls Try.prog 10 #[.agg #[.int .i64 room, .int .i64 life, .int .i64 now, .slice oa l c], .agg #[.int .i64 p.tos, .int .i64 p.id, .bool p.df, .bool p.mf, .int .i64 p.off, .int .i64 p.ttl, .int .i64 p.proto, .int .u32 p.src, .int .u32 p.dst, .slice oo p.ol oc, .slice ob p.bl bc]] w (TakeM w room life now Q p) := by
  have HPI := Lib.hid (fun w1 => show Calls Try.prog 23 #[.agg #[.int .i64 p.tos, .int .i64 p.id, .bool p.df, .bool p.mf, .int .i64 p.off, .int .i64 p.ttl, .int .i64 p.proto, .int .u32 p.src, .int .u32 p.dst, .slice oo p.ol oc, .slice ob p.bl bc]] w1 fun e w' => e = .returned (.bool true) ∧ Junk w1 w' from hpi ▸ piece_any p oo ob oc bc w1)
  have HPU := Lib.hid (fun w1 (hj : Junk w w1) => show Calls Try.prog 25 #[.agg #[.int .i64 p.tos, .int .i64 p.id, .bool p.df, .bool p.mf, .int .i64 p.off, .int .i64 p.ttl, .int .i64 p.proto, .int .u32 p.src, .int .u32 p.dst, .slice oo p.ol oc, .slice ob p.bl bc]] w1 fun e w' => ∃ o1 l1 c1, e = .returned (.tuple #[.slice o1 l1 c1, .int .i64 0]) ∧ Junk w1 w' from (ipPut_any p oo ob oc bc w1 (by omega) (by omega) (hX.on hj)).mono fun e w' h => by
    obtain ⟨o1, l1, c1, h1, h2, _⟩ := h
    exact ⟨o1, l1, c1, by rw [h1, show ipErr p = 0 from if_pos hm], h2⟩)
  have HMP := Lib.hid (may_iff.1 hm)
  have hb1 : ((p.bl : Int) == 0) = false := by simp; omega
  have HR0 := Lib.hid hr
  clear hpi hm hr
  obtain ⟨⟨L, hL1, hLQ⟩, hlen, hlc, hn⟩ := hP
  have hl : L.length = l := by rw [← hlen, ← hLQ, List.length_map]
  obtain ⟨o1, o2, o3⟩ := hQ.of hLQ
  have HCP := Lib.hid (fun w1 (hj : Junk w w1) => copied_any room life now oa l c L w1 (hL1.on hj) hl (by omega) hn (fun b hb => ⟨by have := (o2 b hb).1; omega, by have := (o2 b hb).2.1; omega, fun f hf => by have := (o2 b hb).2.2.2 f hf; omega⟩))
  have HL := Lib.hid hl
  have HP := Lib.hid hL1
  have HQ := Lib.hid hQ
  have HLQ := Lib.hid hLQ
  have HLEN := Lib.hid hlen
  have HX := Lib.hid hX
  have HTQ := Lib.hid ht
  clear hlen hn hl hL1 hQ hLQ o1 o2 o3 hX ht hlc
  go_enter Try.func10, Try.ntmps10
  go_upto_region 2 with (first | (go_at_call 22; (with_reducible refine (HCP.out _ (by (exact jkc))).mono ?_); rintro e w4 ⟨ol, cap, R, M, rfl, hj4, hO4, hD4, hn4⟩; rw [HL.out] at hO4 hD4 hn4; rw [HL.out]; have HB4 := Lib.hid ((box4 w #[.int .i64 room, .int .i64 life, .int .i64 now, .slice oa l c] #[.int .i64 p.tos, .int .i64 p.id, .bool p.df, .bool p.mf, .int .i64 p.off, .int .i64 p.ttl, .int .i64 p.proto, .int .u32 p.src, .int .u32 p.dst, .slice oo p.ol oc, .slice ob p.bl bc] #[.int .i64 0, .int .i64 0, .int .i64 0, .slice none 0 0] #[.int .i64 0, .int .i64 0, .bool false, .bool false, .int .i64 0, .int .i64 0, .int .i64 0, .int .u32 0, .int .u32 0, .slice none 0 0, .slice none 0 0] 31 25 31 25).on hj4); have H4 := Lib.hid (And.intro hj4 (And.intro hO4 (And.intro hD4 hn4))); clear hj4 hO4 hD4 hn4) | ((with_reducible show wpList _ _ _ _ _ _); refine wpList_storeBox rfl 31 _ _ rfl HB4.out.1 0 #[.int .i64 room, .int .i64 life, .int .i64 now, .slice ol l cap] (show (Try.prog.info? 31).map (·.size) = some 4 from by kernel_rfl) rfl rfl (by simp) (by simp [Value.oneCell']) ?_; intro w5 hg5 hb5; have HG5 := Lib.hid hg5; have HB5 := Lib.hid (show Box w5 w.heap.size 31 [.int .i64 room, .int .i64 life, .int .i64 now, .slice ol l cap] from hb5); clear hg5 hb5))
  have HS := Lib.hid (pls_mk (WK := ((((w.alloc (.cells #[.int .i64 room, .int .i64 life, .int .i64 now, .slice oa l c] 31)).alloc (.cells #[.int .i64 p.tos, .int .i64 p.id, .bool p.df, .bool p.mf, .int .i64 p.off, .int .i64 p.ttl, .int .i64 p.proto, .int .u32 p.src, .int .u32 p.dst, .slice oo p.ol oc, .slice ob p.bl bc] 25)).alloc (.cells #[.int .i64 0, .int .i64 0, .int .i64 0, .slice none 0 0] 31)).alloc (.cells #[.int .i64 0, .int .i64 0, .bool false, .bool false, .int .i64 0, .int .i64 0, .int .i64 0, .int .u32 0, .int .u32 0, .slice none 0 0, .slice none 0 0] 25))) (K := 4) HP.out HL.out (by simp) (by (exact jkc)) H4.out.1 H4.out.2.1 H4.out.2.2.1 H4.out.2.2.2 (Nat.le_refl _) (by omega) HG5.out)
  have HRQ := Lib.hid (HS.out.2.trans HLQ.out)
  have HT5 := Lib.hid HS.out.1
  have HBX := Lib.hid (show Bx4 w w5 [.int .i64 room, .int .i64 life, .int .i64 now, .slice ol l cap] [.int .i64 p.tos, .int .i64 p.id, .bool p.df, .bool p.mf, .int .i64 p.off, .int .i64 p.ttl, .int .i64 p.proto, .int .u32 p.src, .int .u32 p.dst, .slice oo p.ol oc, .slice ob p.bl bc] [.int .i64 0, .int .i64 0, .int .i64 0, .slice none 0 0] [.int .i64 0, .int .i64 0, .bool false, .bool false, .int .i64 0, .int .i64 0, .int .i64 0, .int .u32 0, .int .u32 0, .slice none 0 0, .slice none 0 0] 31 25 31 25 from ⟨HB5.out, HB4.out.b1.grown HG5.out (by simp), HB4.out.b2.grown HG5.out (by simp), HB4.out.b3.grown HG5.out (by simp)⟩)
  clear HS H4 HB4 HG5 HB5 HCP
  have p0 : w5.cell? ⟨w.heap.size + 1, 10, none⟩ = some (.slice ob p.bl bc) := HBX.out.b1.cell rfl
  have s0 := HBX.out.b0.lt
  have s1 := HBX.out.b1.lt
  have hlc2 := HT5.out.own.capLe
  have HOK := Lib.hid (HQ.out.of HRQ.out)
  have HRI := Lib.hid (fun w1 (hj : Junk w5 w1) => show Calls Try.prog 13 #[.agg #[.int .i64 room, .int .i64 life, .int .i64 now, .slice ol l cap]] w1 fun e w' => e = .returned (.bool true) ∧ Junk w1 w' from by
    rw [← HR0.out, ← HRQ.out]
    exact rright_any room life now ol l cap R w1 (HT5.out.plat.on hj) HT5.out.len (by omega) hlc2.1 (by have := HOK.out.1; omega) (fun b hb => by have := (HOK.out.2.1 b hb).1; omega) (fun b hb => (HOK.out.2.1 b hb).2.1) HOK.out.2.2)
  go_upto_region 8 with (first | ((with_reducible show wpList _ _ _ _ _ _); refine wpList_loadBox rfl 25 _ rfl Try.isAgg25 11 Try.sizeOf25 ((HBX.out.on (show Junk w5 _ by (exact jkc))).b1) 0 rfl [.int .i64 p.tos, .int .i64 p.id, .bool p.df, .bool p.mf, .int .i64 p.off, .int .i64 p.ttl, .int .i64 p.proto, .int .u32 p.src, .int .u32 p.dst, .slice oo p.ol oc, .slice ob p.bl bc] rfl rfl ?_) | ((with_reducible show wpList _ _ _ _ _ _); refine wpList_loadBox rfl 31 _ rfl Try.isAgg31 4 Try.sizeOf31 ((HBX.out.on (show Junk w5 _ by (exact jkc))).b0) 0 rfl [.int .i64 room, .int .i64 life, .int .i64 now, .slice ol l cap] rfl rfl ?_) | (go_at_call 23; (with_reducible refine (HPI.out _).mono ?_); rintro e w' ⟨rfl, ⟨osp, dp, rfl⟩⟩) | (go_at_call 25; (with_reducible refine (HPU.out _ (HT5.out.junk.trans (by (exact jkc)))).mono ?_); rintro e w' ⟨ou, lu, cu, rfl, ⟨osu, du, rfl⟩⟩) | (go_at_call 13; (with_reducible refine (HRI.out _ (by (exact jkc))).mono ?_); rintro e w' ⟨rfl, ⟨osr, dr, rfl⟩⟩))
  refine wp_genX (fun V => Junk w5 V) (by (exact jkc)) ?_
  intro V7 hj7
  have HT7 := Lib.hid (HT5.out.on hj7)
  have HB7 := Lib.hid (HBX.out.on hj7)
  clear hj7 p0 s0 s1 HPI HPU HRI HT5 HBX
  have HROW := Lib.hid (show ∀ r, r < w.heap.size + 4 → some r ≠ rowOf ol from fun r hr he => by
    cases hob : ol with
    | none => rw [hob] at he; cases he
    | some a =>
      rw [hob] at he
      have h1 : r = a.block := Option.some.inj he
      have := own_fresh HT7.out.own a hob
      omega)
  have HRL := Lib.hid HT7.out.len
  have x3 : V7.cell? ⟨w.heap.size, 3, none⟩ = some (.slice ol l cap) := HB7.out.b0.cell rfl
  have s0 := HB7.out.b0.lt
  have s1 := HB7.out.b1.lt
  have HIX := Lib.hid (fun w1 (hj : Junk V7 w1) => ridxB_any 27 #[.pointer (some ⟨w.heap.size + 1, 0, none⟩)] _ ol l cap R (mineP p) w1 (by omega) HRL.out (HT7.out.own.on hj) (fun w2 hj2 b hb => by
    have b1 := HB7.out.b1.on (hj.trans hj2)
    exact clo27_any (w.heap.size + 1) p.src p.dst p.id p.proto w2 b1.lt (b1.cell rfl) (b1.cell rfl) (b1.cell rfl) (b1.cell rfl) w2 (Junk.refl _) b _ rfl) (fun _ _ => enter_fn Try.func27 (by kernel_rfl) rfl _ _))
  rw [HRQ.out] at HIX
  have hmf : ∀ (fn : Fn) (first cap : Array Value) (w : World), (Instr.makeFunc fn first cap).run Try.prog w = .ok (.func fn first cap) w := fun _ _ _ _ => rfl
  obtain ⟨hil, -, -⟩ := List.findIdx?_eq_some_iff_getElem.1 hi
  have hil2 : i < l := by rw [← HLEN.out]; exact hil
  obtain ⟨b, hb⟩ : ∃ b, R[i]? = some b := ⟨_, List.getElem?_eq_getElem (by rw [HRL.out]; exact hil2)⟩
  have HBR := Lib.hid hb
  have HBQ := Lib.hid (show Q[i]? = some b.q from by rw [← HRQ.out, List.getElem?_map, hb]; rfl)
  have hbm := List.mem_of_getElem? hb
  have HIN := Lib.hid (HT7.out.ins b hbm)
  obtain ⟨g, rfl⟩ : ∃ g, ol = some ⟨g, 0, none⟩ := by
    rcases HT7.out.own.form with ⟨_, h, _⟩ | ⟨g, cur, h, _⟩
    · omega
    · exact ⟨g, h⟩
  have HC := Lib.hid (own_bf HT7.out.own hb)
  have gs := (own_geR HT7.out.own).2
  obtain ⟨n, hn⟩ : ∃ n, b.F.length = n := ⟨_, rfl⟩
  have hn6 : n ≤ 100000 := by rw [← hn]; exact (HOK.out.2.1 b hbm).1
  have HN := Lib.hid hn
  have HRB := Lib.hid (right_runs HR0.out HBQ.out)
  have hi0 : (0 : Int) ≤ (i : Int) := by omega
  have hi1 : ((i : Int) < 0) = False := by simp
  have hiL : (i : Int) < (l : Int) := by omega
  rw [hi, show idxR (some i) = (i : Int) from rfl] at HIX
  obtain ⟨CQ, hCQ⟩ : ∃ CQ, clashB b.q p = CQ := ⟨_, rfl⟩
  have HCL := Lib.hid (fun w1 (hj : Junk V7 w1) => show Calls Try.prog 29 #[.agg b.cells.toArray, .agg #[.int .i64 p.tos, .int .i64 p.id, .bool p.df, .bool p.mf, .int .i64 p.off, .int .i64 p.ttl, .int .i64 p.proto, .int .u32 p.src, .int .u32 p.dst, .slice oo p.ol oc, .slice ob p.bl bc]] w1 fun e w' => e = .returned (.bool CQ) ∧ Junk w1 w' from by
    rw [← hCQ]
    exact clashes_any b b.F.length p oo ob oc bc w1 (HIN.out.runs.on hj) rfl (by rw [HN.out]; omega) (fun f hf => by
      obtain ⟨(a1 : 0 ≤ f.k), (a2 : f.k ≤ 65535), (a3 : f.l ≤ 65535)⟩ := HRB.out f.d (List.mem_map.2 ⟨f, hf, rfl⟩)
      exact ⟨a1, by omega, by omega⟩) (by have := HMP.out.off; omega) (by omega))
  have HCQ := Lib.hid hCQ
  clear hb hn hbm hCQ hi hil
  obtain rfl : bq = b.q := by have := HBQ.out; rw [hbq] at this; exact Option.some.inj this
  have hc2 : CQ = false := HCQ.out.symm.trans hcl
  clear hbq hcl
  subst hc2
  go_upto_region 9 with (first | (go_at_call 26; (with_reducible refine (HIX.out _ (by (exact jkc))).mono ?_); rintro e w' ⟨rfl, ⟨osx, dx, rfl⟩⟩))
  refine wp_genX (fun V => Junk V7 V) (by (exact jkc)) ?_
  intro V9 hj9
  have HT9 := Lib.hid (HT7.out.on hj9)
  have HB9 := Lib.hid (HB7.out.on hj9)
  have HC9 := Lib.hid (own_bf HT9.out.own HBR.out)
  have HJ9 := Lib.hid hj9
  have y3 : V9.cell? ⟨w.heap.size, 3, none⟩ = some (.slice (some ⟨g, 0, none⟩) l cap) := HB9.out.b0.cell rfl
  have z0 := HB9.out.b0.lt
  have z1 := HB9.out.b1.lt
  have zg := (own_geR HT9.out.own).2
  clear hj9 x3 s0 s1 gs HT7 HB7 HC HIX
  refine wp_region_junk (by kernel_rfl) (by kernel_rfl) ?_
  iterate 7 (go_big_quiet_step (fail))
  (refine wpQuiet_loadAgg (by first | rfl | (simp [Region.wanted, yielded]; done)) 45 _ rfl Try.isAgg45 g (i * 19) b.cells Try.sizeOf45 rfl (junk_cells HC9.out) ?_; conv => arg 6; simp only [Act.put, List.setIfInBounds_toArray, List.set_cons_zero, List.set_cons_succ])
  (refine wpQuiet_loadAgg (by first | rfl | (simp [Region.wanted, yielded]; done)) 25 _ rfl Try.isAgg25 (w.heap.size + 1) 0 [.int .i64 p.tos, .int .i64 p.id, .bool p.df, .bool p.mf, .int .i64 p.off, .int .i64 p.ttl, .int .i64 p.proto, .int .u32 p.src, .int .u32 p.dst, .slice oo p.ol oc, .slice ob p.bl bc] Try.sizeOf25 rfl (junk_cells0 HB9.out.b1) ?_; conv => arg 6; simp only [Act.put, List.setIfInBounds_toArray, List.set_cons_zero, List.set_cons_succ])
  repeat (go_big_quiet_step (first | (go_at_call 29; with_reducible exact Calls.jc (HCL.out _ (HJ9.out.trans (by (exact jkc)))))))
  refine wpQuiet_nil ?_; rintro _ ⟨⟨osq9, dq9⟩, rfl⟩
  have HHE := Lib.hid (fun w1 (hj : Junk V9 w1) => held_any room life now (some ⟨g, 0, none⟩) l cap R w1 (HT9.out.plat.on hj) HRL.out (by omega) (by have := HOK.out.1; omega) (fun b hb => by have := (HOK.out.2.1 b hb).1; omega))
  rw [HRQ.out] at HHE
  have hH9 := HQ.out.held
  obtain ⟨H, hH⟩ : ∃ H, heldQ Q = H := ⟨_, rfl⟩
  rw [hH] at HHE hH9
  have HHQ := Lib.hid hH
  clear hH
  have ph := wrapk_i64 ((H : Int) + (p.bl : Int)) (by omega) (by omega)
  have q0 : V9.cell? ⟨w.heap.size, 0, none⟩ = some (.int .i64 room) := HB9.out.b0.cell rfl
  have q1 : V9.cell? ⟨w.heap.size, 1, none⟩ = some (.int .i64 life) := HB9.out.b0.cell rfl
  have q2 : V9.cell? ⟨w.heap.size, 2, none⟩ = some (.int .i64 now) := HB9.out.b0.cell rfl
  have q10 : V9.cell? ⟨w.heap.size + 1, 10, none⟩ = some (.slice ob p.bl bc) := HB9.out.b1.cell rfl
  have hf2 : room < (H : Int) + (p.bl : Int) := by rw [← HHQ.out]; exact hfull
  clear hfull
  go_upto_region 13 with (fail)
  refine wp_region_junk (by kernel_rfl) (by kernel_rfl) ?_; (repeat (go_big_quiet_step (first | ((go_at_call 14; with_reducible exact Calls.jc (HHE.out _ (by (exact jkc)))))))); refine wpQuiet_nil ?_; rintro _ ⟨⟨osq13, dq13⟩, rfl⟩
  have HTE := HT9
  have HBE := HB9
  have HRE := HRQ
  have HQL := HLEN
  go_wp2_with (first | ((with_reducible show wpList _ _ _ _ _ _); refine wpList_loadBox rfl 31 _ rfl Try.isAgg31 4 Try.sizeOf31 ((HBE.out.on (show Junk V9 _ by (exact jkc))).b0) 0 rfl [.int .i64 room, .int .i64 life, .int .i64 now, .slice (some ⟨g, 0, none⟩) l cap] rfl rfl ?_) | ((with_reducible show wpList _ _ _ _ _ _); refine wpList_storeBox rfl 31 _ _ rfl ((HBE.out.on (show Junk V9 _ by (exact jkc))).b2) 0 #[.int .i64 room, .int .i64 life, .int .i64 now, .slice (some ⟨g, 0, none⟩) l cap] (show (Try.prog.info? 31).map (·.size) = some 4 from by kernel_rfl) rfl rfl (by simp) (by simp [Value.oneCell']) ?_; intro w6 hg6 hb6; have H6 := Lib.hid (And.intro (grown_tr (grown_junk (show Junk V9 _ by (exact jkc)) (some (w.heap.size + 2))) hg6) (And.intro (show Box w6 (w.heap.size + 2) 31 [.int .i64 room, .int .i64 life, .int .i64 now, .slice (some ⟨g, 0, none⟩) l cap] from hb6) (((HBE.out.on (show Junk V9 _ by (exact jkc))).b3).grown hg6 (by simp)))); clear hg6 hb6) | ((with_reducible show wpList _ _ _ _ _ _); refine wpList_storeBox rfl 25 _ _ rfl H6.out.2.2 0 #[.int .i64 0, .int .i64 0, .bool false, .bool false, .int .i64 0, .int .i64 0, .int .i64 0, .int .u32 0, .int .u32 0, .slice none 0 0, .slice none 0 0] (show (Try.prog.info? 25).map (·.size) = some 11 from by kernel_rfl) rfl rfl (by simp) (by simp [Value.oneCell']) ?_; intro w7 hg7 hb7; have H7 := Lib.hid (And.intro hg7 (show Box w7 (w.heap.size + 3) 25 [.int .i64 0, .int .i64 0, .bool false, .bool false, .int .i64 0, .int .i64 0, .int .i64 0, .int .u32 0, .int .u32 0, .slice none 0 0, .slice none 0 0] from hb7)); clear hg7 hb7))
  refine bodyPost_ret (results_cell2tt Try.results10 rfl rfl ((H6.out.2.1.grown H7.out.1 (by simp)).loadVar 31 Try.isAgg31 Try.sizeOf31) (H7.out.2.loadVar 25 Try.isAgg25 Try.sizeOf25)) rfl ?_
  have K7 := (HTE.out.box H6.out.1 (by omega) (by omega)).box H7.out.1 (by omega) (by omega)
  exact takeM_mk HTQ.out HQL.out K7.junk (K7.qsat HRE.out) (ip_zero _)
set_option maxRecDepth 100000 in
set_option maxHeartbeats 32000000 in
theorem take_full_none (room life now : Int) (oa : Option Addr) (l c : Nat) (Q : List Bq) (p : Ip) (oo ob : Option Addr) (oc bc : Nat) (w : World) (hP : QsAt w oa l c Q) (hl2 : l ≤ 1000) (hQ : QsOk Q) (hX : IpAt w p oo oc ob bc) (hpo : p.ol ≤ 1000) (hpb : p.bl ≤ 1000000) (hpi : pieceB p = true) (hr : rightQ room life now Q = true) (hm : mayB p = true) (hb0 : 0 < p.bl) (hi : Q.findIdx? (mineP p) = none) (hfull : Q.length = 64 ∨ room < (heldQ Q : Int) + p.bl) (ht : takeQ room life now Q p = (Q, zeroIp, false, 8)) : Calls Try.prog 10 #[.agg #[.int .i64 room, .int .i64 life, .int .i64 now, .slice oa l c], .agg #[.int .i64 p.tos, .int .i64 p.id, .bool p.df, .bool p.mf, .int .i64 p.off, .int .i64 p.ttl, .int .i64 p.proto, .int .u32 p.src, .int .u32 p.dst, .slice oo p.ol oc, .slice ob p.bl bc]] w (TakeM w room life now Q p) := by
  have HPI := Lib.hid (fun w1 => show Calls Try.prog 23 #[.agg #[.int .i64 p.tos, .int .i64 p.id, .bool p.df, .bool p.mf, .int .i64 p.off, .int .i64 p.ttl, .int .i64 p.proto, .int .u32 p.src, .int .u32 p.dst, .slice oo p.ol oc, .slice ob p.bl bc]] w1 fun e w' => e = .returned (.bool true) ∧ Junk w1 w' from hpi ▸ piece_any p oo ob oc bc w1)
  have HPU := Lib.hid (fun w1 (hj : Junk w w1) => show Calls Try.prog 25 #[.agg #[.int .i64 p.tos, .int .i64 p.id, .bool p.df, .bool p.mf, .int .i64 p.off, .int .i64 p.ttl, .int .i64 p.proto, .int .u32 p.src, .int .u32 p.dst, .slice oo p.ol oc, .slice ob p.bl bc]] w1 fun e w' => ∃ o1 l1 c1, e = .returned (.tuple #[.slice o1 l1 c1, .int .i64 0]) ∧ Junk w1 w' from (ipPut_any p oo ob oc bc w1 (by omega) (by omega) (hX.on hj)).mono fun e w' h => by
    obtain ⟨o1, l1, c1, h1, h2, _⟩ := h
    exact ⟨o1, l1, c1, by rw [h1, show ipErr p = 0 from if_pos hm], h2⟩)
  have HMP := Lib.hid (may_iff.1 hm)
  have hb1 : ((p.bl : Int) == 0) = false := by simp; omega
  have HR0 := Lib.hid hr
  clear hpi hm hr
  obtain ⟨⟨L, hL1, hLQ⟩, hlen, hlc, hn⟩ := hP
  have hl : L.length = l := by rw [← hlen, ← hLQ, List.length_map]
  obtain ⟨o1, o2, o3⟩ := hQ.of hLQ
  have HCP := Lib.hid (fun w1 (hj : Junk w w1) => copied_any room life now oa l c L w1 (hL1.on hj) hl (by omega) hn (fun b hb => ⟨by have := (o2 b hb).1; omega, by have := (o2 b hb).2.1; omega, fun f hf => by have := (o2 b hb).2.2.2 f hf; omega⟩))
  have HL := Lib.hid hl
  have HP := Lib.hid hL1
  have HQ := Lib.hid hQ
  have HLQ := Lib.hid hLQ
  have HLEN := Lib.hid hlen
  have HX := Lib.hid hX
  have HTQ := Lib.hid ht
  clear hlen hn hl hL1 hQ hLQ o1 o2 o3 hX ht hlc
  go_enter Try.func10, Try.ntmps10
  go_upto_region 2 with (first | (go_at_call 22; (with_reducible refine (HCP.out _ (by (exact jkc))).mono ?_); rintro e w4 ⟨ol, cap, R, M, rfl, hj4, hO4, hD4, hn4⟩; rw [HL.out] at hO4 hD4 hn4; rw [HL.out]; have HB4 := Lib.hid ((box4 w #[.int .i64 room, .int .i64 life, .int .i64 now, .slice oa l c] #[.int .i64 p.tos, .int .i64 p.id, .bool p.df, .bool p.mf, .int .i64 p.off, .int .i64 p.ttl, .int .i64 p.proto, .int .u32 p.src, .int .u32 p.dst, .slice oo p.ol oc, .slice ob p.bl bc] #[.int .i64 0, .int .i64 0, .int .i64 0, .slice none 0 0] #[.int .i64 0, .int .i64 0, .bool false, .bool false, .int .i64 0, .int .i64 0, .int .i64 0, .int .u32 0, .int .u32 0, .slice none 0 0, .slice none 0 0] 31 25 31 25).on hj4); have H4 := Lib.hid (And.intro hj4 (And.intro hO4 (And.intro hD4 hn4))); clear hj4 hO4 hD4 hn4) | ((with_reducible show wpList _ _ _ _ _ _); refine wpList_storeBox rfl 31 _ _ rfl HB4.out.1 0 #[.int .i64 room, .int .i64 life, .int .i64 now, .slice ol l cap] (show (Try.prog.info? 31).map (·.size) = some 4 from by kernel_rfl) rfl rfl (by simp) (by simp [Value.oneCell']) ?_; intro w5 hg5 hb5; have HG5 := Lib.hid hg5; have HB5 := Lib.hid (show Box w5 w.heap.size 31 [.int .i64 room, .int .i64 life, .int .i64 now, .slice ol l cap] from hb5); clear hg5 hb5))
  have HS := Lib.hid (pls_mk (WK := ((((w.alloc (.cells #[.int .i64 room, .int .i64 life, .int .i64 now, .slice oa l c] 31)).alloc (.cells #[.int .i64 p.tos, .int .i64 p.id, .bool p.df, .bool p.mf, .int .i64 p.off, .int .i64 p.ttl, .int .i64 p.proto, .int .u32 p.src, .int .u32 p.dst, .slice oo p.ol oc, .slice ob p.bl bc] 25)).alloc (.cells #[.int .i64 0, .int .i64 0, .int .i64 0, .slice none 0 0] 31)).alloc (.cells #[.int .i64 0, .int .i64 0, .bool false, .bool false, .int .i64 0, .int .i64 0, .int .i64 0, .int .u32 0, .int .u32 0, .slice none 0 0, .slice none 0 0] 25))) (K := 4) HP.out HL.out (by simp) (by (exact jkc)) H4.out.1 H4.out.2.1 H4.out.2.2.1 H4.out.2.2.2 (Nat.le_refl _) (by omega) HG5.out)
  have HRQ := Lib.hid (HS.out.2.trans HLQ.out)
  have HT5 := Lib.hid HS.out.1
  have HBX := Lib.hid (show Bx4 w w5 [.int .i64 room, .int .i64 life, .int .i64 now, .slice ol l cap] [.int .i64 p.tos, .int .i64 p.id, .bool p.df, .bool p.mf, .int .i64 p.off, .int .i64 p.ttl, .int .i64 p.proto, .int .u32 p.src, .int .u32 p.dst, .slice oo p.ol oc, .slice ob p.bl bc] [.int .i64 0, .int .i64 0, .int .i64 0, .slice none 0 0] [.int .i64 0, .int .i64 0, .bool false, .bool false, .int .i64 0, .int .i64 0, .int .i64 0, .int .u32 0, .int .u32 0, .slice none 0 0, .slice none 0 0] 31 25 31 25 from ⟨HB5.out, HB4.out.b1.grown HG5.out (by simp), HB4.out.b2.grown HG5.out (by simp), HB4.out.b3.grown HG5.out (by simp)⟩)
  clear HS H4 HB4 HG5 HB5 HCP
  have p0 : w5.cell? ⟨w.heap.size + 1, 10, none⟩ = some (.slice ob p.bl bc) := HBX.out.b1.cell rfl
  have s0 := HBX.out.b0.lt
  have s1 := HBX.out.b1.lt
  have hlc2 := HT5.out.own.capLe
  have HOK := Lib.hid (HQ.out.of HRQ.out)
  have HRI := Lib.hid (fun w1 (hj : Junk w5 w1) => show Calls Try.prog 13 #[.agg #[.int .i64 room, .int .i64 life, .int .i64 now, .slice ol l cap]] w1 fun e w' => e = .returned (.bool true) ∧ Junk w1 w' from by
    rw [← HR0.out, ← HRQ.out]
    exact rright_any room life now ol l cap R w1 (HT5.out.plat.on hj) HT5.out.len (by omega) hlc2.1 (by have := HOK.out.1; omega) (fun b hb => by have := (HOK.out.2.1 b hb).1; omega) (fun b hb => (HOK.out.2.1 b hb).2.1) HOK.out.2.2)
  go_upto_region 8 with (first | ((with_reducible show wpList _ _ _ _ _ _); refine wpList_loadBox rfl 25 _ rfl Try.isAgg25 11 Try.sizeOf25 ((HBX.out.on (show Junk w5 _ by (exact jkc))).b1) 0 rfl [.int .i64 p.tos, .int .i64 p.id, .bool p.df, .bool p.mf, .int .i64 p.off, .int .i64 p.ttl, .int .i64 p.proto, .int .u32 p.src, .int .u32 p.dst, .slice oo p.ol oc, .slice ob p.bl bc] rfl rfl ?_) | ((with_reducible show wpList _ _ _ _ _ _); refine wpList_loadBox rfl 31 _ rfl Try.isAgg31 4 Try.sizeOf31 ((HBX.out.on (show Junk w5 _ by (exact jkc))).b0) 0 rfl [.int .i64 room, .int .i64 life, .int .i64 now, .slice ol l cap] rfl rfl ?_) | (go_at_call 23; (with_reducible refine (HPI.out _).mono ?_); rintro e w' ⟨rfl, ⟨osp, dp, rfl⟩⟩) | (go_at_call 25; (with_reducible refine (HPU.out _ (HT5.out.junk.trans (by (exact jkc)))).mono ?_); rintro e w' ⟨ou, lu, cu, rfl, ⟨osu, du, rfl⟩⟩) | (go_at_call 13; (with_reducible refine (HRI.out _ (by (exact jkc))).mono ?_); rintro e w' ⟨rfl, ⟨osr, dr, rfl⟩⟩))
  refine wp_genX (fun V => Junk w5 V) (by (exact jkc)) ?_
  intro V7 hj7
  have HT7 := Lib.hid (HT5.out.on hj7)
  have HB7 := Lib.hid (HBX.out.on hj7)
  clear hj7 p0 s0 s1 HPI HPU HRI HT5 HBX
  have HROW := Lib.hid (show ∀ r, r < w.heap.size + 4 → some r ≠ rowOf ol from fun r hr he => by
    cases hob : ol with
    | none => rw [hob] at he; cases he
    | some a =>
      rw [hob] at he
      have h1 : r = a.block := Option.some.inj he
      have := own_fresh HT7.out.own a hob
      omega)
  have HRL := Lib.hid HT7.out.len
  have x3 : V7.cell? ⟨w.heap.size, 3, none⟩ = some (.slice ol l cap) := HB7.out.b0.cell rfl
  have s0 := HB7.out.b0.lt
  have s1 := HB7.out.b1.lt
  have HIX := Lib.hid (fun w1 (hj : Junk V7 w1) => ridxB_any 27 #[.pointer (some ⟨w.heap.size + 1, 0, none⟩)] _ ol l cap R (mineP p) w1 (by omega) HRL.out (HT7.out.own.on hj) (fun w2 hj2 b hb => by
    have b1 := HB7.out.b1.on (hj.trans hj2)
    exact clo27_any (w.heap.size + 1) p.src p.dst p.id p.proto w2 b1.lt (b1.cell rfl) (b1.cell rfl) (b1.cell rfl) (b1.cell rfl) w2 (Junk.refl _) b _ rfl) (fun _ _ => enter_fn Try.func27 (by kernel_rfl) rfl _ _))
  rw [HRQ.out] at HIX
  have hmf : ∀ (fn : Fn) (first cap : Array Value) (w : World), (Instr.makeFunc fn first cap).run Try.prog w = .ok (.func fn first cap) w := fun _ _ _ _ => rfl
  rw [hi, show idxR none = -1 from rfl] at HIX
  have HNI := Lib.hid hi
  clear hi
  go_upto_region 9 with (first | (go_at_call 26; (with_reducible refine (HIX.out _ (by (exact jkc))).mono ?_); rintro e w' ⟨rfl, ⟨osx, dx, rfl⟩⟩))
  refine wp_genX (fun V => Junk V7 V) (by (exact jkc)) ?_
  intro V9 hj9
  have HT9 := Lib.hid (HT7.out.on hj9)
  have HB9 := Lib.hid (HB7.out.on hj9)
  have HJ9 := Lib.hid hj9
  have y3 : V9.cell? ⟨w.heap.size, 3, none⟩ = some (.slice ol l cap) := HB9.out.b0.cell rfl
  have z0 := HB9.out.b0.lt
  have z1 := HB9.out.b1.lt
  clear hj9 x3 s0 s1 HT7 HB7 HIX
  refine wp_region_junk (by kernel_rfl) (by kernel_rfl) ?_; (repeat (go_big_quiet_step (first | fail))); refine wpQuiet_nil ?_; rintro _ ⟨⟨osq9, dq9⟩, rfl⟩
  have HHE := Lib.hid (fun w1 (hj : Junk V9 w1) => held_any room life now ol l cap R w1 (HT9.out.plat.on hj) HRL.out (by omega) (by have := HOK.out.1; omega) (fun b hb => by have := (HOK.out.2.1 b hb).1; omega))
  rw [HRQ.out] at HHE
  have hH9 := HQ.out.held
  obtain ⟨H, hH⟩ : ∃ H, heldQ Q = H := ⟨_, rfl⟩
  rw [hH] at HHE hH9
  have HHQ := Lib.hid hH
  clear hH
  have ph := wrapk_i64 ((H : Int) + (p.bl : Int)) (by omega) (by omega)
  have q0 : V9.cell? ⟨w.heap.size, 0, none⟩ = some (.int .i64 room) := HB9.out.b0.cell rfl
  have q1 : V9.cell? ⟨w.heap.size, 1, none⟩ = some (.int .i64 life) := HB9.out.b0.cell rfl
  have q2 : V9.cell? ⟨w.heap.size, 2, none⟩ = some (.int .i64 now) := HB9.out.b0.cell rfl
  have q10 : V9.cell? ⟨w.heap.size + 1, 10, none⟩ = some (.slice ob p.bl bc) := HB9.out.b1.cell rfl
  rw [HLEN.out, HHQ.out] at hfull
  by_cases h64 : l = 64
  · have h64i : ((l : Int) == 64) = true := by simp [h64]
    clear hfull
    have H64 := Lib.hid h64
    clear h64
    have HTE := HT9
    have HBE := HB9
    have HRE := HRQ
    have HQL := HLEN
    go_wp2_with (first | ((with_reducible show wpList _ _ _ _ _ _); refine wpList_loadBox rfl 31 _ rfl Try.isAgg31 4 Try.sizeOf31 ((HBE.out.on (show Junk V9 _ by (exact jkc))).b0) 0 rfl [.int .i64 room, .int .i64 life, .int .i64 now, .slice ol l cap] rfl rfl ?_) | ((with_reducible show wpList _ _ _ _ _ _); refine wpList_storeBox rfl 31 _ _ rfl ((HBE.out.on (show Junk V9 _ by (exact jkc))).b2) 0 #[.int .i64 room, .int .i64 life, .int .i64 now, .slice ol l cap] (show (Try.prog.info? 31).map (·.size) = some 4 from by kernel_rfl) rfl rfl (by simp) (by simp [Value.oneCell']) ?_; intro w6 hg6 hb6; have H6 := Lib.hid (And.intro (grown_tr (grown_junk (show Junk V9 _ by (exact jkc)) (some (w.heap.size + 2))) hg6) (And.intro (show Box w6 (w.heap.size + 2) 31 [.int .i64 room, .int .i64 life, .int .i64 now, .slice ol l cap] from hb6) (((HBE.out.on (show Junk V9 _ by (exact jkc))).b3).grown hg6 (by simp)))); clear hg6 hb6) | ((with_reducible show wpList _ _ _ _ _ _); refine wpList_storeBox rfl 25 _ _ rfl H6.out.2.2 0 #[.int .i64 0, .int .i64 0, .bool false, .bool false, .int .i64 0, .int .i64 0, .int .i64 0, .int .u32 0, .int .u32 0, .slice none 0 0, .slice none 0 0] (show (Try.prog.info? 25).map (·.size) = some 11 from by kernel_rfl) rfl rfl (by simp) (by simp [Value.oneCell']) ?_; intro w7 hg7 hb7; have H7 := Lib.hid (And.intro hg7 (show Box w7 (w.heap.size + 3) 25 [.int .i64 0, .int .i64 0, .bool false, .bool false, .int .i64 0, .int .i64 0, .int .i64 0, .int .u32 0, .int .u32 0, .slice none 0 0, .slice none 0 0] from hb7)); clear hg7 hb7))
    refine bodyPost_ret (results_cell2tt Try.results10 rfl rfl ((H6.out.2.1.grown H7.out.1 (by simp)).loadVar 31 Try.isAgg31 Try.sizeOf31) (H7.out.2.loadVar 25 Try.isAgg25 Try.sizeOf25)) rfl ?_
    have K7 := (HTE.out.box H6.out.1 (by omega) (by omega)).box H7.out.1 (by omega) (by omega)
    exact takeM_mk HTQ.out HQL.out K7.junk (K7.qsat HRE.out) (ip_zero _)
  · have h64i : ((l : Int) == 64) = false := by simp; omega
    have hf2 : room < (H : Int) + (p.bl : Int) := by rcases hfull with h | h; exact absurd h h64; exact h
    clear hfull h64
    go_upto_region 13 with (fail)
    refine wp_region_junk (by kernel_rfl) (by kernel_rfl) ?_; (repeat (go_big_quiet_step (first | ((go_at_call 14; with_reducible exact Calls.jc (HHE.out _ (by (exact jkc)))))))); refine wpQuiet_nil ?_; rintro _ ⟨⟨osq13, dq13⟩, rfl⟩
    have HTE := HT9
    have HBE := HB9
    have HRE := HRQ
    have HQL := HLEN
    go_wp2_with (first | ((with_reducible show wpList _ _ _ _ _ _); refine wpList_loadBox rfl 31 _ rfl Try.isAgg31 4 Try.sizeOf31 ((HBE.out.on (show Junk V9 _ by (exact jkc))).b0) 0 rfl [.int .i64 room, .int .i64 life, .int .i64 now, .slice ol l cap] rfl rfl ?_) | ((with_reducible show wpList _ _ _ _ _ _); refine wpList_storeBox rfl 31 _ _ rfl ((HBE.out.on (show Junk V9 _ by (exact jkc))).b2) 0 #[.int .i64 room, .int .i64 life, .int .i64 now, .slice ol l cap] (show (Try.prog.info? 31).map (·.size) = some 4 from by kernel_rfl) rfl rfl (by simp) (by simp [Value.oneCell']) ?_; intro w6 hg6 hb6; have H6 := Lib.hid (And.intro (grown_tr (grown_junk (show Junk V9 _ by (exact jkc)) (some (w.heap.size + 2))) hg6) (And.intro (show Box w6 (w.heap.size + 2) 31 [.int .i64 room, .int .i64 life, .int .i64 now, .slice ol l cap] from hb6) (((HBE.out.on (show Junk V9 _ by (exact jkc))).b3).grown hg6 (by simp)))); clear hg6 hb6) | ((with_reducible show wpList _ _ _ _ _ _); refine wpList_storeBox rfl 25 _ _ rfl H6.out.2.2 0 #[.int .i64 0, .int .i64 0, .bool false, .bool false, .int .i64 0, .int .i64 0, .int .i64 0, .int .u32 0, .int .u32 0, .slice none 0 0, .slice none 0 0] (show (Try.prog.info? 25).map (·.size) = some 11 from by kernel_rfl) rfl rfl (by simp) (by simp [Value.oneCell']) ?_; intro w7 hg7 hb7; have H7 := Lib.hid (And.intro hg7 (show Box w7 (w.heap.size + 3) 25 [.int .i64 0, .int .i64 0, .bool false, .bool false, .int .i64 0, .int .i64 0, .int .i64 0, .int .u32 0, .int .u32 0, .slice none 0 0, .slice none 0 0] from hb7)); clear hg7 hb7))
    refine bodyPost_ret (results_cell2tt Try.results10 rfl rfl ((H6.out.2.1.grown H7.out.1 (by simp)).loadVar 31 Try.isAgg31 Try.sizeOf31) (H7.out.2.loadVar 25 Try.isAgg25 Try.sizeOf25)) rfl ?_
    have K7 := (HTE.out.box H6.out.1 (by omega) (by omega)).box H7.out.1 (by omega) (by omega)
    exact takeM_mk HTQ.out HQL.out K7.junk (K7.qsat HRE.out) (ip_zero _)
end Go.Proofs.Ytgjppmkadmfibaa
