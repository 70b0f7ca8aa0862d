/- The law CutFits: each piece fits, may be put, and is as the packet was but for its place. -/
import Derived.Test.YtbijbcpalmepiaaCutQ
import Derived.Test.YtbijbcpalmepiaaLift2
import Derived.Deep.DeepCutAuto
set_option linter.unusedVariables false
set_option maxRecDepth 100000
set_option linter.unusedSimpArgs false
namespace Go.Proofs.Ytbijbcpalmepiaa
open Go.RowKit
theorem own_row_ge {B : Nat} {w : World} {e : TypeId} {size : Nat} {oa : Option Addr} {cap n : Nat} {l : List Value} (h : Own B w e size oa cap n l) : ∀ k, rowOf oa = some k → B ≤ k := by
  intro k hk
  rcases h.form with ⟨rfl, _⟩ | ⟨g, cur, rfl, hb, hg, _⟩
  · cases hk
  · simp only [rowOf, Option.map_some, Option.some.injEq] at hk
    subst hk
    exact hb
theorem row_ne {a b : Option Nat} {k s : Nat} (h : a = b ∨ a = some (k + 1)) (hb : ∀ x, b = some x → x < k) (hs : s = k) : a ≠ some s := by
  rintro rfl
  rcases h with h | h
  · have := hb _ h.symm; omega
  · cases h; omega
set_option maxHeartbeats 2000000 in
theorem fitsT (tos id : Int) (df : Bool) (off ttl proto src dst : Int) (ol : Nat) (opts : Nat → Int) (bl : Nat) (body : Nat → Int) (mtu : Int) (oo ob : Option Addr) (oc bc : Nat) (w : World) (hP : IpAt w (Ip.mk tos id df true off ttl proto src dst ol opts bl body) oo oc ob bc) (s1 : ol ≤ 100) (s2 : bl ≤ 3000) (hE : cutErr (Ip.mk tos id df true off ttl proto src dst ol opts bl body) mtu = 0) :
    Calls Try.prog 5 #[.agg #[.int .i64 tos, .int .i64 id, .bool df, .bool true, .int .i64 off, .int .i64 ttl, .int .i64 proto, .int .u32 src, .int .u32 dst, .slice oo ol oc, .slice ob bl bc], .int .i64 mtu] w fun e w' => e = .returned (.bool true) ∧ Junk w w' := by
  have HP := Lib.hid hP
  clear hP
  have hs : shortB (Ip.mk tos id df true off ttl proto src dst ol opts bl body) = true := by simp [shortB, s1, s2]
  have MP := Lib.hid (cutErr_zero hE).may
  obtain ⟨ho0, ho1⟩ : 0 ≤ off ∧ off ≤ 65528 := MP.out.off
  obtain ⟨n, hn⟩ : ∃ n, n = (cutL (Ip.mk tos id df true off ttl proto src dst ol opts bl body) mtu).length := ⟨_, rfl⟩
  have hfew := cutL_few (p := (Ip.mk tos id df true off ttl proto src dst ol opts bl body)) (mtu := mtu)
  have hpos := cutL_pos hE
  rw [← hn] at hfew hpos
  have hfew' : n ≤ bl / 8 + 1 := hfew
  have HN := Lib.hid hn
  have he : (cutErr (Ip.mk tos id df true off ttl proto src dst ol opts bl body) mtu != 0) = false := by simp [hE]
  have HE := Lib.hid hE
  clear hE hn hfew
  go_enter Try.func5, Try.ntmps5
  go_wp2_with (first | (go_at_call 13; refine (awake08_any _).mono ?_; rintro e w' ⟨rfl, ⟨osj, dj, rfl⟩⟩) | (go_at_call 14; refine (short_any (Ip.mk tos id df true off ttl proto src dst ol opts bl body) oo ob oc bc _).mono ?_; rintro e w' ⟨rfl, ⟨osj, dj, rfl⟩⟩) | (go_at_call 15; (try simp only [World.junk_junk]); refine calls_gen (fun osA dA => ?_); refine (cut_any (Ip.mk tos id df true off ttl proto src dst ol opts bl body) mtu oo ob oc bc _ (by show ol ≤ _; omega) (by show bl ≤ _; omega) (HP.out.on (by ((try simp only [World.junk_junk, Array.append_assoc]); (repeat (first | with_reducible exact Junk.refl _ | with_reducible exact Junk.app _ _ _ _ _ | with_reducible exact Junk.app2 _ _ _ _ _ _ | with_reducible exact Junk.app3 _ _ _ _ _ _ _ | with_reducible exact Junk.app4 _ _ _ _ _ _ _ _ | with_reducible exact Junk.app5 _ _ _ _ _ _ _ _ _ | with_reducible apply Junk.alloc | with_reducible apply Junk.junk | with_reducible apply Junk.drew | with_reducible apply Junk.drewN)))))).mono ?_; intro e w' hp; obtain ⟨L1, oa1, cap1, rfl, ⟨osj2, dj2, rfl⟩, hL1, hn1, hown1, hat1⟩ := hp.len HN.out; clear hp; have HL1 := Lib.hid hL1; have HO1 := Lib.hid hown1; have HA1 := Lib.hid hat1; have hn9 := hown1.capLe; clear hL1 hn1 hown1 hat1))
  go_loopw [7, 8] (fun v i wr => ∃ (j c : Nat) (ob2 : Option Addr) (cap : Nat), v = .slice ob2 c cap ∧ i = .int .i64 (j : Int) ∧ Junk (((w.alloc (.cells #[.int .i64 tos, .int .i64 id, .bool df, .bool true, .int .i64 off, .int .i64 ttl, .int .i64 proto, .int .u32 src, .int .u32 dst, .slice oo ol oc, .slice ob bl bc] 25)).junk (osA ++ osj2) dj2)) wr ∧ Own (((w.alloc (.cells #[.int .i64 tos, .int .i64 id, .bool df, .bool true, .int .i64 off, .int .i64 ttl, .int .i64 proto, .int .u32 src, .int .u32 dst, .slice oo ol oc, .slice ob bl bc] 25)).junk (osA ++ osj2) dj2)).heap.size wr 5 1 ob2 cap c (bytesL c body) ∧ j ≤ n ∧ Hid (c = cutAt (Ip.mk tos id df true off ttl proto src dst ol opts bl body) mtu j) ∧ c ≤ bl ∧ (j < n → c = 0 → ob2 = none ∧ cap = 0)) (fun _ i _ => n + 1 - (intOf i).toNat)
  case atStart => exact ⟨0, 0, none, 0, rfl, rfl, by ((try simp only [World.junk_junk, Array.append_assoc]); (repeat (first | with_reducible exact Junk.refl _ | with_reducible exact Junk.app _ _ _ _ _ | with_reducible exact Junk.app2 _ _ _ _ _ _ | with_reducible exact Junk.app3 _ _ _ _ _ _ _ | with_reducible exact Junk.app4 _ _ _ _ _ _ _ _ | with_reducible exact Junk.app5 _ _ _ _ _ _ _ _ _ | with_reducible apply Junk.alloc | with_reducible apply Junk.junk | with_reducible apply Junk.drew | with_reducible apply Junk.drewN))), Own.nil _ _ _ _, by omega, Lib.hid (cutAt_zero _ _).symm, by omega, fun _ _ => ⟨rfl, rfl⟩⟩
  case round =>
    obtain ⟨j, c, ob2, cap, rfl, rfl, ⟨os, d, rfl⟩, hown, hj, hc, hcl, hnil⟩ := hrel
    have hm9 : maxLen = 9223372036854775807 := rfl
    have Hown := Lib.hid hown
    clear hown
    by_cases hlt : j < n
    · have hlt' : j < (cutL (Ip.mk tos id df true off ttl proto src dst ol opts bl body) mtu).length := by rw [← HN.out]; exact hlt
      have hq : (cutL (Ip.mk tos id df true off ttl proto src dst ol opts bl body) mtu)[j]? = some (cutL (Ip.mk tos id df true off ttl proto src dst ol opts bl body) mtu)[j] := List.getElem?_eq_getElem hlt'
      have hpc := piece_at HE.out hq
      generalize (cutL (Ip.mk tos id df true off ttl proto src dst ol opts bl body) mtu)[j] = q at hq hpc
      obtain ⟨TO, hTO⟩ : ∃ TO, TO = cutAt (Ip.mk tos id df true off ttl proto src dst ol opts bl body) mtu (j + 1) := ⟨_, rfl⟩
      rw [← hc.out, ← hTO] at hpc
      have hend : j + 1 = n → TO = bl := fun h => by rw [hTO, h, HN.out]; exact cutAt_end HE.out
      have hlast : TO = bl → j + 1 = n := fun h => by rw [HN.out]; exact hpc.last h
      have hmay := may_iff.2 (hpc.may MP.out)
      obtain ⟨⟨q1, oo1, oc1, ob1, bc1⟩, hf1, hp1⟩ := frame_at HL1.out j hq
      simp only at hp1
      subst hp1
      have A1 := Lib.hid (show IpAt _ q1 oo1 oc1 ob1 bc1 from HA1.out _ (List.mem_of_getElem? hf1))
      have hq1 : q1 = pieceIp (Ip.mk tos id df true off ttl proto src dst ol opts bl body) c TO := hpc.eq
      have hf := hpc.fits
      have hle := hpc.le
      have htl : TO ≤ bl := hpc.tl
      have hps : 0 < bl → c < TO := hpc.pos
      have HT := Lib.hid hTO
      have HQ := Lib.hid hq1
      have v0 : q1.bl = TO - c := by rw [hq1]; rfl
      have v1 : q1.ol = ol := by rw [hq1]; rfl
      have hoff : q1.off = off + (c : Int) := by rw [hq1]; rfl
      have hmf : q1.mf = (true || decide (TO < bl)) := by rw [hq1]; rfl
      have hbody : ∀ i, q1.body i = body (c + i) := by rw [hq1]; exact fun i => rfl
      have HV0 := Lib.hid v0
      have HOFF := Lib.hid hoff
      have HMF := Lib.hid hmf
      have HBD := Lib.hid hbody
      have v2 : q1.ol ≤ 100000000 := by omega
      have v3 : q1.bl ≤ 100000000 := by omega
      have HF := Lib.hid (show 20 + (q1.ol : Int) + (q1.bl : Int) ≤ mtu by rw [v0, v1]; exact hf)
      have HMAY := Lib.hid hmay
      have HPS := Lib.hid hps
      have HEND := Lib.hid hend
      have HLAST := Lib.hid hlast
      have v9 : c + q1.bl = TO := by omega
      have V9 := Lib.hid v9
      obtain ⟨g1, rfl, _, hg1, _⟩ := own_some HO1.out (by omega)
      have ld0 := cells_at (HO1.out.on (show Junk _ ((w.alloc (.cells #[.int .i64 tos, .int .i64 id, .bool df, .bool true, .int .i64 off, .int .i64 ttl, .int .i64 proto, .int .u32 src, .int .u32 dst, .slice oo ol oc, .slice ob bl bc] 25)).junk (osA ++ (osj2 ++ os)) d) from by ((try simp only [World.junk_junk, Array.append_assoc]); (repeat (first | with_reducible exact Junk.refl _ | with_reducible exact Junk.app _ _ _ _ _ | with_reducible exact Junk.app2 _ _ _ _ _ _ | with_reducible exact Junk.app3 _ _ _ _ _ _ _ | with_reducible exact Junk.app4 _ _ _ _ _ _ _ _ | with_reducible exact Junk.app5 _ _ _ _ _ _ _ _ _ | with_reducible apply Junk.alloc | with_reducible apply Junk.junk | with_reducible apply Junk.drew | with_reducible apply Junk.drewN))))) j _ hf1
      have ld1 := fun os' d' => cells_at (HO1.out.on (show Junk _ ((w.alloc (.cells #[.int .i64 tos, .int .i64 id, .bool df, .bool true, .int .i64 off, .int .i64 ttl, .int .i64 proto, .int .u32 src, .int .u32 dst, .slice oo ol oc, .slice ob bl bc] 25)).junk (osA ++ (osj2 ++ (os ++ os'))) d') from by ((try simp only [World.junk_junk, Array.append_assoc]); (repeat (first | with_reducible exact Junk.refl _ | with_reducible exact Junk.app _ _ _ _ _ | with_reducible exact Junk.app2 _ _ _ _ _ _ | with_reducible exact Junk.app3 _ _ _ _ _ _ _ | with_reducible exact Junk.app4 _ _ _ _ _ _ _ _ | with_reducible exact Junk.app5 _ _ _ _ _ _ _ _ _ | with_reducible apply Junk.alloc | with_reducible apply Junk.junk | with_reducible apply Junk.drew | with_reducible apply Junk.drewN))))) j _ hf1
      simp only at ld0 ld1
      have j1 : (j : Int) < (n : Int) := by omega
      clear hf1 hq hpc hmay hTO hq1 hf hps hend hlast hoff hmf hbody v0 v1 v9
      go_upto_region 14 with (first | (go_at_call 19; (try simp only [World.junk_junk, Array.append_assoc]); refine (ipPut_any q1 oo1 ob1 oc1 bc1 _ v2 v3 (A1.out.on (by ((try simp only [World.junk_junk, Array.append_assoc]); (repeat (first | with_reducible exact Junk.refl _ | with_reducible exact Junk.app _ _ _ _ _ | with_reducible exact Junk.app2 _ _ _ _ _ _ | with_reducible exact Junk.app3 _ _ _ _ _ _ _ | with_reducible exact Junk.app4 _ _ _ _ _ _ _ _ | with_reducible exact Junk.app5 _ _ _ _ _ _ _ _ _ | with_reducible apply Junk.alloc | with_reducible apply Junk.junk | with_reducible apply Junk.drew | with_reducible apply Junk.drewN)))))).mono ?_; intro e w' hp; obtain ⟨o2, c2, rfl, ⟨osj3, dj3, rfl⟩, _⟩ := hp.ok HMAY.out; clear hp))
      clear ld0 ld1
      have t1 : (q1.off != off + (c : Int)) = false := by rw [HOFF.out]; simp
      have t2 := HF.out
      have HSM : Hid (sameIp (Ip.mk q1.tos q1.id q1.df true off q1.ttl q1.proto q1.src q1.dst q1.ol q1.opts bl body) (Ip.mk tos id df true off ttl proto src dst ol opts bl body) = true) := Lib.hid (by rw [HQ.out]; exact sameIp_refl (Ip.mk tos id df true off ttl proto src dst ol opts bl body))
      have hbi := HBD.out
      have hm1 : q1.mf = true := by rw [HMF.out]; rfl
      by_cases hbl0 : 0 < bl
      · have hqp : 0 < q1.bl := by have := HPS.out hbl0; have := HV0.out; omega
        obtain ⟨b1, boff1, rfl, _, _⟩ := A1.out.body.at_ 0 hqp
        clear hnil hbl0
        go_wp2_with (first | (at_builtin; (refine ap_own2 (W0 := ((w.alloc (.cells #[.int .i64 tos, .int .i64 id, .bool df, .bool true, .int .i64 off, .int .i64 ttl, .int .i64 proto, .int .u32 src, .int .u32 dst, .slice oo ol oc, .slice ob bl bc] 25)).junk (osA ++ osj2) dj2)) rfl _ _ 23 rfl 5 (.int .u8 0) 1 1 (by kernel_rfl) rfl (by decide) Try.underlying23 (by ((try simp only [World.junk_junk, Array.append_assoc]); (repeat (first | with_reducible exact Junk.refl _ | with_reducible exact Junk.app _ _ _ _ _ | with_reducible exact Junk.app2 _ _ _ _ _ _ | with_reducible exact Junk.app3 _ _ _ _ _ _ _ | with_reducible exact Junk.app4 _ _ _ _ _ _ _ _ | with_reducible exact Junk.app5 _ _ _ _ _ _ _ _ _ | with_reducible apply Junk.alloc | with_reducible apply Junk.junk | with_reducible apply Junk.drew | with_reducible apply Junk.drewN)))) ob2 cap c _ rfl (Hown.out.on (by ((try simp only [World.junk_junk, Array.append_assoc]); (repeat (first | with_reducible exact Junk.refl _ | with_reducible exact Junk.app _ _ _ _ _ | with_reducible exact Junk.app2 _ _ _ _ _ _ | with_reducible exact Junk.app3 _ _ _ _ _ _ _ | with_reducible exact Junk.app4 _ _ _ _ _ _ _ _ | with_reducible exact Junk.app5 _ _ _ _ _ _ _ _ _ | with_reducible apply Junk.alloc | with_reducible apply Junk.junk | with_reducible apply Junk.drew | with_reducible apply Junk.drewN))))) ⟨b1, boff1, none⟩ q1.bl bc1 rfl ((List.range q1.bl).map fun i => .int .u8 (q1.body i)) (by simp) ((A1.out.body.on (by ((try simp only [World.junk_junk, Array.append_assoc]); (repeat (first | with_reducible exact Junk.refl _ | with_reducible exact Junk.app _ _ _ _ _ | with_reducible exact Junk.app2 _ _ _ _ _ _ | with_reducible exact Junk.app3 _ _ _ _ _ _ _ | with_reducible exact Junk.app4 _ _ _ _ _ _ _ _ | with_reducible exact Junk.app5 _ _ _ _ _ _ _ _ _ | with_reducible apply Junk.alloc | with_reducible apply Junk.junk | with_reducible apply Junk.drew | with_reducible apply Junk.drewN))))).at_.src _ rfl) (by simp [Value.oneCell']) (by simp only [maxLen]; omega) (by omega) hqp ?_; intro ob3 cap3 os3 d3 hown3 hg3 hrow3; obtain ⟨osL, osR, rfl, hsz⟩ := after_append (by ((try simp only [World.junk_junk, Array.append_assoc]); (repeat (first | with_reducible exact Junk.refl _ | with_reducible exact Junk.app _ _ _ _ _ | with_reducible exact Junk.app2 _ _ _ _ _ _ | with_reducible exact Junk.app3 _ _ _ _ _ _ _ | with_reducible exact Junk.app4 _ _ _ _ _ _ _ _ | with_reducible exact Junk.app5 _ _ _ _ _ _ _ _ _ | with_reducible apply Junk.alloc | with_reducible apply Junk.junk | with_reducible apply Junk.drew | with_reducible apply Junk.drewN)))) hg3 (own_row (Hown.out.on (by ((try simp only [World.junk_junk, Array.append_assoc]); (repeat (first | with_reducible exact Junk.refl _ | with_reducible exact Junk.app _ _ _ _ _ | with_reducible exact Junk.app2 _ _ _ _ _ _ | with_reducible exact Junk.app3 _ _ _ _ _ _ _ | with_reducible exact Junk.app4 _ _ _ _ _ _ _ _ | with_reducible exact Junk.app5 _ _ _ _ _ _ _ _ _ | with_reducible apply Junk.alloc | with_reducible apply Junk.junk | with_reducible apply Junk.drew | with_reducible apply Junk.drewN)))))); rw [junk_split] at hown3 ⊢; simp only [World.junk_junk, Array.append_assoc] at hown3 ⊢; have hsz3 : os.size + osj3.size = osL.size := by { simp at hsz; omega }; simp only [World.size_alloc] at hrow3; have hne := row_ne hrow3 (own_row (Hown.out.on (by ((try simp only [World.junk_junk, Array.append_assoc]); (repeat (first | with_reducible exact Junk.refl _ | with_reducible exact Junk.app _ _ _ _ _ | with_reducible exact Junk.app2 _ _ _ _ _ _ | with_reducible exact Junk.app3 _ _ _ _ _ _ _ | with_reducible exact Junk.app4 _ _ _ _ _ _ _ _ | with_reducible exact Junk.app5 _ _ _ _ _ _ _ _ _ | with_reducible apply Junk.alloc | with_reducible apply Junk.junk | with_reducible apply Junk.drew | with_reducible apply Junk.drewN)))))) (show ((w.alloc (.cells #[.int .i64 tos, .int .i64 id, .bool df, .bool true, .int .i64 off, .int .i64 ttl, .int .i64 proto, .int .u32 src, .int .u32 dst, .slice oo ol oc, .slice ob bl bc] 25)).junk (osA ++ (osj2 ++ osL)) d3).heap.size = _ by { simp; omega }); have Hown3 := Lib.hid hown3; have HNE := Lib.hid hne; clear hown3 hg3 hrow3 hsz hne; (try simp only [hsz3]))))
        refine wp_region_mixj ((w.alloc (.cells #[.int .i64 tos, .int .i64 id, .bool df, .bool true, .int .i64 off, .int .i64 ttl, .int .i64 proto, .int .u32 src, .int .u32 dst, .slice oo ol oc, .slice ob bl bc] 25)).junk (osA ++ (osj2 ++ osL)) d3) [(0, true), (1, true), (2, true), (3, true), (4, true), (5, true), (6, true), (7, false), (8, true), (9, false), (10, true), (11, false)] (by kernel_rfl) (by kernel_rfl) (by (repeat (first | with_reducible exact Junk.refl _ | with_reducible exact Junk.app _ _ _ _ _ | with_reducible exact Junk.app2 _ _ _ _ _ _ | with_reducible exact Junk.app3 _ _ _ _ _ _ _ | with_reducible exact Junk.app4 _ _ _ _ _ _ _ _ | with_reducible apply Junk.alloc | with_reducible apply Junk.junk | with_reducible apply Junk.drew | with_reducible apply Junk.drewN))) ?_; (iterate 7 (refine wpMix_q rfl (fun K hK => ?_); (go_simp; try go_bits); (refine hK _ ?_; clear hK K))); refine wpMix_e rfl (fun osm17_0 dm17_0 K hK => ?_); (go_simp; try go_bits); refine hK _ _ (Junk.pair (by (repeat (first | with_reducible exact Junk.refl _ | with_reducible exact Junk.app _ _ _ _ _ | with_reducible exact Junk.app2 _ _ _ _ _ _ | with_reducible exact Junk.app3 _ _ _ _ _ _ _ | with_reducible exact Junk.app4 _ _ _ _ _ _ _ _ | with_reducible apply Junk.alloc | with_reducible apply Junk.junk | with_reducible apply Junk.drew | with_reducible apply Junk.drewN | (with_reducible refine Junk.setCell ?_ (by simp) _))))) ?_; clear hK K; (iterate 1 (refine wpMix_q rfl (fun K hK => ?_); (go_simp; try go_bits); (refine hK _ ?_; clear hK K))); refine wpMix_e rfl (fun osm17_1 dm17_1 K hK => ?_); (go_simp; try go_bits); refine hK _ _ (Junk.pair (by (repeat (first | with_reducible exact Junk.refl _ | with_reducible exact Junk.app _ _ _ _ _ | with_reducible exact Junk.app2 _ _ _ _ _ _ | with_reducible exact Junk.app3 _ _ _ _ _ _ _ | with_reducible exact Junk.app4 _ _ _ _ _ _ _ _ | with_reducible apply Junk.alloc | with_reducible apply Junk.junk | with_reducible apply Junk.drew | with_reducible apply Junk.drewN | (with_reducible refine Junk.setCell ?_ (by simp) _))))) ?_; clear hK K; (iterate 1 (refine wpMix_q rfl (fun K hK => ?_); (go_simp; try go_bits); (refine hK _ ?_; clear hK K))); refine wpMix_e rfl (fun osm17_2 dm17_2 K hK => ?_); (go_simp; try go_bits); refine hK _ _ (Junk.pair (by (repeat (first | with_reducible exact Junk.refl _ | with_reducible exact Junk.app _ _ _ _ _ | with_reducible exact Junk.app2 _ _ _ _ _ _ | with_reducible exact Junk.app3 _ _ _ _ _ _ _ | with_reducible exact Junk.app4 _ _ _ _ _ _ _ _ | with_reducible apply Junk.alloc | with_reducible apply Junk.junk | with_reducible apply Junk.drew | with_reducible apply Junk.drewN | (with_reducible refine Junk.setCell ?_ (by simp) _))))) ?_; clear hK K; refine wpMix_nil (fun osm dm => ?_)
        go_wp2_with (first | (go_at_call 20; refine (ipSame_any (Ip.mk q1.tos q1.id q1.df true off q1.ttl q1.proto q1.src q1.dst q1.ol q1.opts bl body) (Ip.mk tos id df true off ttl proto src dst ol opts bl body) oo1 ob oo ob oc1 bc oc bc _ ⟨A1.out.opts.on (by ((try simp only [World.junk_junk, Array.append_assoc]); (repeat (first | with_reducible exact Junk.refl _ | with_reducible exact Junk.app _ _ _ _ _ | with_reducible exact Junk.app2 _ _ _ _ _ _ | with_reducible exact Junk.app3 _ _ _ _ _ _ _ | with_reducible exact Junk.app4 _ _ _ _ _ _ _ _ | with_reducible exact Junk.app5 _ _ _ _ _ _ _ _ _ | with_reducible apply Junk.alloc | with_reducible apply Junk.junk | with_reducible apply Junk.drew | with_reducible apply Junk.drewN)))), HP.out.body.on (by ((try simp only [World.junk_junk, Array.append_assoc]); (repeat (first | with_reducible exact Junk.refl _ | with_reducible exact Junk.app _ _ _ _ _ | with_reducible exact Junk.app2 _ _ _ _ _ _ | with_reducible exact Junk.app3 _ _ _ _ _ _ _ | with_reducible exact Junk.app4 _ _ _ _ _ _ _ _ | with_reducible exact Junk.app5 _ _ _ _ _ _ _ _ _ | with_reducible apply Junk.alloc | with_reducible apply Junk.junk | with_reducible apply Junk.drew | with_reducible apply Junk.drewN)))), A1.out.src, A1.out.dst⟩ (HP.out.on (by ((try simp only [World.junk_junk, Array.append_assoc]); (repeat (first | with_reducible exact Junk.refl _ | with_reducible exact Junk.app _ _ _ _ _ | with_reducible exact Junk.app2 _ _ _ _ _ _ | with_reducible exact Junk.app3 _ _ _ _ _ _ _ | with_reducible exact Junk.app4 _ _ _ _ _ _ _ _ | with_reducible exact Junk.app5 _ _ _ _ _ _ _ _ _ | with_reducible apply Junk.alloc | with_reducible apply Junk.junk | with_reducible apply Junk.drew | with_reducible apply Junk.drewN)))))).mono ?_; rintro e w' ⟨rfl, ⟨osj9, dj9, rfl⟩⟩; rw [HSM.out]))
        exact ⟨⟨j + 1, c + q1.bl, ob3, cap3, rfl, by go_num, by ((try simp only [World.junk_junk, Array.append_assoc]); (repeat (first | with_reducible exact Junk.refl _ | with_reducible exact Junk.app _ _ _ _ _ | with_reducible exact Junk.app2 _ _ _ _ _ _ | with_reducible exact Junk.app3 _ _ _ _ _ _ _ | with_reducible exact Junk.app4 _ _ _ _ _ _ _ _ | with_reducible exact Junk.app5 _ _ _ _ _ _ _ _ _ | with_reducible apply Junk.alloc | with_reducible apply Junk.junk | with_reducible apply Junk.drew | with_reducible apply Junk.drewN))), own_cast3 (own_past Hown3.out HNE.out) (bytes_snoc _ _ _ _ (fun i _ => HBD.out i)), by omega, Lib.hid (by rw [V9.out, HT.out]), by have := V9.out; omega, fun _ h => by omega⟩, by simp [intOf]; omega⟩
      · have hb0 : bl = 0 := by omega
        have hc0 : c = 0 := by omega
        obtain ⟨rfl, rfl⟩ := hnil hlt hc0
        have hq0 : q1.bl = 0 := by have := V9.out; omega
        have hj1 : j + 1 = n := by have := HLAST.out (by omega); exact this
        clear hnil
        subst hc0
        have t1b : (q1.off != off) = false := by simpa using t1
        have HB0 := Lib.hid hb0
        have HQ0 := Lib.hid hq0
        clear hb0 hq0 hbl0
        go_wp2_with (first | (at_builtin; (refine ap_own rfl _ _ 23 rfl 5 (.int .u8 0) 1 1 (by kernel_rfl) rfl (by decide) Try.underlying23 (Junk.refl _) none 0 0 [] rfl (Own.nil _ _ _ _) ob1 q1.bl bc1 rfl [] (by simp [HQ0.out]) (fun ad had j u hu => by simp at hu) (fun h => A1.out.body.nil h) (by simp) (by rw [HQ0.out]; decide) (by rw [HQ0.out]; decide) ?_; intro ob3 cap3 os3 d3 hown3 _; rw [Nat.zero_add] at hown3 ⊢; have Hown3 := Lib.hid (own_cast3 hown3 (show ([] : List Value) ++ [] = bytesL q1.bl body by rw [HQ0.out]; rfl)); clear hown3)))
        refine wp_region_mixj ((w.alloc (.cells #[.int .i64 tos, .int .i64 id, .bool df, .bool true, .int .i64 off, .int .i64 ttl, .int .i64 proto, .int .u32 src, .int .u32 dst, .slice oo ol oc, .slice ob bl bc] 25)).junk (osA ++ (osj2 ++ (os ++ osj3))) dj3) [(0, true), (1, true), (2, true), (3, true), (4, true), (5, true), (6, true), (7, false), (8, true), (9, false), (10, true), (11, false)] (by kernel_rfl) (by kernel_rfl) (by (repeat (first | with_reducible exact Junk.refl _ | with_reducible exact Junk.app _ _ _ _ _ | with_reducible exact Junk.app2 _ _ _ _ _ _ | with_reducible exact Junk.app3 _ _ _ _ _ _ _ | with_reducible exact Junk.app4 _ _ _ _ _ _ _ _ | with_reducible apply Junk.alloc | with_reducible apply Junk.junk | with_reducible apply Junk.drew | with_reducible apply Junk.drewN))) ?_; (iterate 7 (refine wpMix_q rfl (fun K hK => ?_); (go_simp; try go_bits); (refine hK _ ?_; clear hK K))); refine wpMix_e rfl (fun osm17_0 dm17_0 K hK => ?_); (go_simp; try go_bits); refine hK _ _ (Junk.pair (by (repeat (first | with_reducible exact Junk.refl _ | with_reducible exact Junk.app _ _ _ _ _ | with_reducible exact Junk.app2 _ _ _ _ _ _ | with_reducible exact Junk.app3 _ _ _ _ _ _ _ | with_reducible exact Junk.app4 _ _ _ _ _ _ _ _ | with_reducible apply Junk.alloc | with_reducible apply Junk.junk | with_reducible apply Junk.drew | with_reducible apply Junk.drewN | (with_reducible refine Junk.setCell ?_ (by simp) _))))) ?_; clear hK K; (iterate 1 (refine wpMix_q rfl (fun K hK => ?_); (go_simp; try go_bits); (refine hK _ ?_; clear hK K))); refine wpMix_e rfl (fun osm17_1 dm17_1 K hK => ?_); (go_simp; try go_bits); refine hK _ _ (Junk.pair (by (repeat (first | with_reducible exact Junk.refl _ | with_reducible exact Junk.app _ _ _ _ _ | with_reducible exact Junk.app2 _ _ _ _ _ _ | with_reducible exact Junk.app3 _ _ _ _ _ _ _ | with_reducible exact Junk.app4 _ _ _ _ _ _ _ _ | with_reducible apply Junk.alloc | with_reducible apply Junk.junk | with_reducible apply Junk.drew | with_reducible apply Junk.drewN | (with_reducible refine Junk.setCell ?_ (by simp) _))))) ?_; clear hK K; (iterate 1 (refine wpMix_q rfl (fun K hK => ?_); (go_simp; try go_bits); (refine hK _ ?_; clear hK K))); refine wpMix_e rfl (fun osm17_2 dm17_2 K hK => ?_); (go_simp; try go_bits); refine hK _ _ (Junk.pair (by (repeat (first | with_reducible exact Junk.refl _ | with_reducible exact Junk.app _ _ _ _ _ | with_reducible exact Junk.app2 _ _ _ _ _ _ | with_reducible exact Junk.app3 _ _ _ _ _ _ _ | with_reducible exact Junk.app4 _ _ _ _ _ _ _ _ | with_reducible apply Junk.alloc | with_reducible apply Junk.junk | with_reducible apply Junk.drew | with_reducible apply Junk.drewN | (with_reducible refine Junk.setCell ?_ (by simp) _))))) ?_; clear hK K; refine wpMix_nil (fun osm dm => ?_)
        go_wp2_with (first | (go_at_call 20; refine (ipSame_any (Ip.mk q1.tos q1.id q1.df true off q1.ttl q1.proto q1.src q1.dst q1.ol q1.opts bl body) (Ip.mk tos id df true off ttl proto src dst ol opts bl body) oo1 ob oo ob oc1 bc oc bc _ ⟨A1.out.opts.on (by ((try simp only [World.junk_junk, Array.append_assoc]); (repeat (first | with_reducible exact Junk.refl _ | with_reducible exact Junk.app _ _ _ _ _ | with_reducible exact Junk.app2 _ _ _ _ _ _ | with_reducible exact Junk.app3 _ _ _ _ _ _ _ | with_reducible exact Junk.app4 _ _ _ _ _ _ _ _ | with_reducible exact Junk.app5 _ _ _ _ _ _ _ _ _ | with_reducible apply Junk.alloc | with_reducible apply Junk.junk | with_reducible apply Junk.drew | with_reducible apply Junk.drewN)))), HP.out.body.on (by ((try simp only [World.junk_junk, Array.append_assoc]); (repeat (first | with_reducible exact Junk.refl _ | with_reducible exact Junk.app _ _ _ _ _ | with_reducible exact Junk.app2 _ _ _ _ _ _ | with_reducible exact Junk.app3 _ _ _ _ _ _ _ | with_reducible exact Junk.app4 _ _ _ _ _ _ _ _ | with_reducible exact Junk.app5 _ _ _ _ _ _ _ _ _ | with_reducible apply Junk.alloc | with_reducible apply Junk.junk | with_reducible apply Junk.drew | with_reducible apply Junk.drewN)))), A1.out.src, A1.out.dst⟩ (HP.out.on (by ((try simp only [World.junk_junk, Array.append_assoc]); (repeat (first | with_reducible exact Junk.refl _ | with_reducible exact Junk.app _ _ _ _ _ | with_reducible exact Junk.app2 _ _ _ _ _ _ | with_reducible exact Junk.app3 _ _ _ _ _ _ _ | with_reducible exact Junk.app4 _ _ _ _ _ _ _ _ | with_reducible exact Junk.app5 _ _ _ _ _ _ _ _ _ | with_reducible apply Junk.alloc | with_reducible apply Junk.junk | with_reducible apply Junk.drew | with_reducible apply Junk.drewN)))))).mono ?_; rintro e w' ⟨rfl, ⟨osj9, dj9, rfl⟩⟩; rw [HSM.out]))
        exact ⟨⟨j + 1, q1.bl, ob3, cap3, rfl, by go_num, by ((try simp only [World.junk_junk, Array.append_assoc]); (repeat (first | with_reducible exact Junk.refl _ | with_reducible exact Junk.app _ _ _ _ _ | with_reducible exact Junk.app2 _ _ _ _ _ _ | with_reducible exact Junk.app3 _ _ _ _ _ _ _ | with_reducible exact Junk.app4 _ _ _ _ _ _ _ _ | with_reducible exact Junk.app5 _ _ _ _ _ _ _ _ _ | with_reducible apply Junk.alloc | with_reducible apply Junk.junk | with_reducible apply Junk.drew | with_reducible apply Junk.drewN))), own_past (Hown3.out.lower (by simp; try omega)) (fun h => by have h2 := own_row_ge Hown3.out _ h; simp at h2; omega), by omega, Lib.hid (by have := V9.out; rw [← HT.out]; omega), by have := HQ0.out; omega, fun h => by omega⟩, by simp [intOf]; omega⟩
    · have j1 : ¬ (j : Int) < (n : Int) := by omega
      have hjn : j = n := by omega
      have hcb : c = bl := by rw [hc.out, hjn, HN.out]; exact cutAt_end HE.out
      subst hcb
      have hsm : sameN body body c c = true := by simp [sameN]
      have hfi : (n : Int) ≤ (c : Int) / 8 + 1 := by omega
      have hb := own_bts Hown.out HP.out.body.byte
      have HB := Lib.hid hb
      clear hb hjn
      go_wp2_with (first | (go_at_call 21; refine (rsame_any _ _ _ _ _ _ body body _ (by omega) (by show c ≤ _; omega) ((HB.out.on (by ((try simp only [World.junk_junk, Array.append_assoc]); (repeat (first | with_reducible exact Junk.refl _ | with_reducible exact Junk.app _ _ _ _ _ | with_reducible exact Junk.app2 _ _ _ _ _ _ | with_reducible exact Junk.app3 _ _ _ _ _ _ _ | with_reducible exact Junk.app4 _ _ _ _ _ _ _ _ | with_reducible exact Junk.app5 _ _ _ _ _ _ _ _ _ | with_reducible apply Junk.alloc | with_reducible apply Junk.junk | with_reducible apply Junk.drew | with_reducible apply Junk.drewN))))).at_) ((HP.out.body.on (by ((try simp only [World.junk_junk, Array.append_assoc]); (repeat (first | with_reducible exact Junk.refl _ | with_reducible exact Junk.app _ _ _ _ _ | with_reducible exact Junk.app2 _ _ _ _ _ _ | with_reducible exact Junk.app3 _ _ _ _ _ _ _ | with_reducible exact Junk.app4 _ _ _ _ _ _ _ _ | with_reducible exact Junk.app5 _ _ _ _ _ _ _ _ _ | with_reducible apply Junk.alloc | with_reducible apply Junk.junk | with_reducible apply Junk.drew | with_reducible apply Junk.drewN))))).at_)).mono ?_; rintro e w' ⟨rfl, ⟨osj, dj, rfl⟩⟩))
      go_ret
      exact ⟨ret_bool rfl, by ((try simp only [World.junk_junk, Array.append_assoc]); (repeat (first | with_reducible exact Junk.refl _ | with_reducible exact Junk.app _ _ _ _ _ | with_reducible exact Junk.app2 _ _ _ _ _ _ | with_reducible exact Junk.app3 _ _ _ _ _ _ _ | with_reducible exact Junk.app4 _ _ _ _ _ _ _ _ | with_reducible exact Junk.app5 _ _ _ _ _ _ _ _ _ | with_reducible apply Junk.alloc | with_reducible apply Junk.junk | with_reducible apply Junk.drew | with_reducible apply Junk.drewN)))⟩
set_option maxHeartbeats 4000000 in
theorem fitsF (tos id : Int) (df : Bool) (off ttl proto src dst : Int) (ol : Nat) (opts : Nat → Int) (bl : Nat) (body : Nat → Int) (mtu : Int) (oo ob : Option Addr) (oc bc : Nat) (w : World) (hP : IpAt w (Ip.mk tos id df false off ttl proto src dst ol opts bl body) oo oc ob bc) (s1 : ol ≤ 100) (s2 : bl ≤ 3000) (hE : cutErr (Ip.mk tos id df false off ttl proto src dst ol opts bl body) mtu = 0) :
    Calls Try.prog 5 #[.agg #[.int .i64 tos, .int .i64 id, .bool df, .bool false, .int .i64 off, .int .i64 ttl, .int .i64 proto, .int .u32 src, .int .u32 dst, .slice oo ol oc, .slice ob bl bc], .int .i64 mtu] w fun e w' => e = .returned (.bool true) ∧ Junk w w' := by
  have HP := Lib.hid hP
  clear hP
  have hs : shortB (Ip.mk tos id df false off ttl proto src dst ol opts bl body) = true := by simp [shortB, s1, s2]
  have MP := Lib.hid (cutErr_zero hE).may
  obtain ⟨ho0, ho1⟩ : 0 ≤ off ∧ off ≤ 65528 := MP.out.off
  obtain ⟨n, hn⟩ : ∃ n, n = (cutL (Ip.mk tos id df false off ttl proto src dst ol opts bl body) mtu).length := ⟨_, rfl⟩
  have hfew := cutL_few (p := (Ip.mk tos id df false off ttl proto src dst ol opts bl body)) (mtu := mtu)
  have hpos := cutL_pos hE
  rw [← hn] at hfew hpos
  have hfew' : n ≤ bl / 8 + 1 := hfew
  have HN := Lib.hid hn
  have he : (cutErr (Ip.mk tos id df false off ttl proto src dst ol opts bl body) mtu != 0) = false := by simp [hE]
  have HE := Lib.hid hE
  clear hE hn hfew
  go_enter Try.func5, Try.ntmps5
  go_wp2_with (first | (go_at_call 13; refine (awake08_any _).mono ?_; rintro e w' ⟨rfl, ⟨osj, dj, rfl⟩⟩) | (go_at_call 14; refine (short_any (Ip.mk tos id df false off ttl proto src dst ol opts bl body) oo ob oc bc _).mono ?_; rintro e w' ⟨rfl, ⟨osj, dj, rfl⟩⟩) | (go_at_call 15; (try simp only [World.junk_junk]); refine calls_gen (fun osA dA => ?_); refine (cut_any (Ip.mk tos id df false off ttl proto src dst ol opts bl body) mtu oo ob oc bc _ (by show ol ≤ _; omega) (by show bl ≤ _; omega) (HP.out.on (by ((try simp only [World.junk_junk, Array.append_assoc]); (repeat (first | with_reducible exact Junk.refl _ | with_reducible exact Junk.app _ _ _ _ _ | with_reducible exact Junk.app2 _ _ _ _ _ _ | with_reducible exact Junk.app3 _ _ _ _ _ _ _ | with_reducible exact Junk.app4 _ _ _ _ _ _ _ _ | with_reducible exact Junk.app5 _ _ _ _ _ _ _ _ _ | with_reducible apply Junk.alloc | with_reducible apply Junk.junk | with_reducible apply Junk.drew | with_reducible apply Junk.drewN)))))).mono ?_; intro e w' hp; obtain ⟨L1, oa1, cap1, rfl, ⟨osj2, dj2, rfl⟩, hL1, hn1, hown1, hat1⟩ := hp.len HN.out; clear hp; have HL1 := Lib.hid hL1; have HO1 := Lib.hid hown1; have HA1 := Lib.hid hat1; have hn9 := hown1.capLe; clear hL1 hn1 hown1 hat1))
  go_loopw [7, 8] (fun v i wr => ∃ (j c : Nat) (ob2 : Option Addr) (cap : Nat), v = .slice ob2 c cap ∧ i = .int .i64 (j : Int) ∧ Junk (((w.alloc (.cells #[.int .i64 tos, .int .i64 id, .bool df, .bool false, .int .i64 off, .int .i64 ttl, .int .i64 proto, .int .u32 src, .int .u32 dst, .slice oo ol oc, .slice ob bl bc] 25)).junk (osA ++ osj2) dj2)) wr ∧ Own (((w.alloc (.cells #[.int .i64 tos, .int .i64 id, .bool df, .bool false, .int .i64 off, .int .i64 ttl, .int .i64 proto, .int .u32 src, .int .u32 dst, .slice oo ol oc, .slice ob bl bc] 25)).junk (osA ++ osj2) dj2)).heap.size wr 5 1 ob2 cap c (bytesL c body) ∧ j ≤ n ∧ Hid (c = cutAt (Ip.mk tos id df false off ttl proto src dst ol opts bl body) mtu j) ∧ c ≤ bl ∧ (j < n → c = 0 → ob2 = none ∧ cap = 0)) (fun _ i _ => n + 1 - (intOf i).toNat)
  case atStart => exact ⟨0, 0, none, 0, rfl, rfl, by ((try simp only [World.junk_junk, Array.append_assoc]); (repeat (first | with_reducible exact Junk.refl _ | with_reducible exact Junk.app _ _ _ _ _ | with_reducible exact Junk.app2 _ _ _ _ _ _ | with_reducible exact Junk.app3 _ _ _ _ _ _ _ | with_reducible exact Junk.app4 _ _ _ _ _ _ _ _ | with_reducible exact Junk.app5 _ _ _ _ _ _ _ _ _ | with_reducible apply Junk.alloc | with_reducible apply Junk.junk | with_reducible apply Junk.drew | with_reducible apply Junk.drewN))), Own.nil _ _ _ _, by omega, Lib.hid (cutAt_zero _ _).symm, by omega, fun _ _ => ⟨rfl, rfl⟩⟩
  case round =>
    obtain ⟨j, c, ob2, cap, rfl, rfl, ⟨os, d, rfl⟩, hown, hj, hc, hcl, hnil⟩ := hrel
    have hm9 : maxLen = 9223372036854775807 := rfl
    have Hown := Lib.hid hown
    clear hown
    by_cases hlt : j < n
    · have hlt' : j < (cutL (Ip.mk tos id df false off ttl proto src dst ol opts bl body) mtu).length := by rw [← HN.out]; exact hlt
      have hq : (cutL (Ip.mk tos id df false off ttl proto src dst ol opts bl body) mtu)[j]? = some (cutL (Ip.mk tos id df false off ttl proto src dst ol opts bl body) mtu)[j] := List.getElem?_eq_getElem hlt'
      have hpc := piece_at HE.out hq
      generalize (cutL (Ip.mk tos id df false off ttl proto src dst ol opts bl body) mtu)[j] = q at hq hpc
      obtain ⟨TO, hTO⟩ : ∃ TO, TO = cutAt (Ip.mk tos id df false off ttl proto src dst ol opts bl body) mtu (j + 1) := ⟨_, rfl⟩
      rw [← hc.out, ← hTO] at hpc
      have hend : j + 1 = n → TO = bl := fun h => by rw [hTO, h, HN.out]; exact cutAt_end HE.out
      have hlast : TO = bl → j + 1 = n := fun h => by rw [HN.out]; exact hpc.last h
      have hmay := may_iff.2 (hpc.may MP.out)
      obtain ⟨⟨q1, oo1, oc1, ob1, bc1⟩, hf1, hp1⟩ := frame_at HL1.out j hq
      simp only at hp1
      subst hp1
      have A1 := Lib.hid (show IpAt _ q1 oo1 oc1 ob1 bc1 from HA1.out _ (List.mem_of_getElem? hf1))
      have hq1 : q1 = pieceIp (Ip.mk tos id df false off ttl proto src dst ol opts bl body) c TO := hpc.eq
      have hf := hpc.fits
      have hle := hpc.le
      have htl : TO ≤ bl := hpc.tl
      have hps : 0 < bl → c < TO := hpc.pos
      have HT := Lib.hid hTO
      have HQ := Lib.hid hq1
      have v0 : q1.bl = TO - c := by rw [hq1]; rfl
      have v1 : q1.ol = ol := by rw [hq1]; rfl
      have hoff : q1.off = off + (c : Int) := by rw [hq1]; rfl
      have hmf : q1.mf = (false || decide (TO < bl)) := by rw [hq1]; rfl
      have hbody : ∀ i, q1.body i = body (c + i) := by rw [hq1]; exact fun i => rfl
      have HV0 := Lib.hid v0
      have HOFF := Lib.hid hoff
      have HMF := Lib.hid hmf
      have HBD := Lib.hid hbody
      have v2 : q1.ol ≤ 100000000 := by omega
      have v3 : q1.bl ≤ 100000000 := by omega
      have HF := Lib.hid (show 20 + (q1.ol : Int) + (q1.bl : Int) ≤ mtu by rw [v0, v1]; exact hf)
      have HMAY := Lib.hid hmay
      have HPS := Lib.hid hps
      have HEND := Lib.hid hend
      have HLAST := Lib.hid hlast
      have v9 : c + q1.bl = TO := by omega
      have V9 := Lib.hid v9
      obtain ⟨g1, rfl, _, hg1, _⟩ := own_some HO1.out (by omega)
      have ld0 := cells_at (HO1.out.on (show Junk _ ((w.alloc (.cells #[.int .i64 tos, .int .i64 id, .bool df, .bool false, .int .i64 off, .int .i64 ttl, .int .i64 proto, .int .u32 src, .int .u32 dst, .slice oo ol oc, .slice ob bl bc] 25)).junk (osA ++ (osj2 ++ os)) d) from by ((try simp only [World.junk_junk, Array.append_assoc]); (repeat (first | with_reducible exact Junk.refl _ | with_reducible exact Junk.app _ _ _ _ _ | with_reducible exact Junk.app2 _ _ _ _ _ _ | with_reducible exact Junk.app3 _ _ _ _ _ _ _ | with_reducible exact Junk.app4 _ _ _ _ _ _ _ _ | with_reducible exact Junk.app5 _ _ _ _ _ _ _ _ _ | with_reducible apply Junk.alloc | with_reducible apply Junk.junk | with_reducible apply Junk.drew | with_reducible apply Junk.drewN))))) j _ hf1
      have ld1 := fun os' d' => cells_at (HO1.out.on (show Junk _ ((w.alloc (.cells #[.int .i64 tos, .int .i64 id, .bool df, .bool false, .int .i64 off, .int .i64 ttl, .int .i64 proto, .int .u32 src, .int .u32 dst, .slice oo ol oc, .slice ob bl bc] 25)).junk (osA ++ (osj2 ++ (os ++ os'))) d') from by ((try simp only [World.junk_junk, Array.append_assoc]); (repeat (first | with_reducible exact Junk.refl _ | with_reducible exact Junk.app _ _ _ _ _ | with_reducible exact Junk.app2 _ _ _ _ _ _ | with_reducible exact Junk.app3 _ _ _ _ _ _ _ | with_reducible exact Junk.app4 _ _ _ _ _ _ _ _ | with_reducible exact Junk.app5 _ _ _ _ _ _ _ _ _ | with_reducible apply Junk.alloc | with_reducible apply Junk.junk | with_reducible apply Junk.drew | with_reducible apply Junk.drewN))))) j _ hf1
      simp only at ld0 ld1
      have j1 : (j : Int) < (n : Int) := by omega
      clear hf1 hq hpc hmay hTO hq1 hf hps hend hlast hoff hmf hbody v0 v1 v9
      go_upto_region 14 with (first | (go_at_call 19; (try simp only [World.junk_junk, Array.append_assoc]); refine (ipPut_any q1 oo1 ob1 oc1 bc1 _ v2 v3 (A1.out.on (by ((try simp only [World.junk_junk, Array.append_assoc]); (repeat (first | with_reducible exact Junk.refl _ | with_reducible exact Junk.app _ _ _ _ _ | with_reducible exact Junk.app2 _ _ _ _ _ _ | with_reducible exact Junk.app3 _ _ _ _ _ _ _ | with_reducible exact Junk.app4 _ _ _ _ _ _ _ _ | with_reducible exact Junk.app5 _ _ _ _ _ _ _ _ _ | with_reducible apply Junk.alloc | with_reducible apply Junk.junk | with_reducible apply Junk.drew | with_reducible apply Junk.drewN)))))).mono ?_; intro e w' hp; obtain ⟨o2, c2, rfl, ⟨osj3, dj3, rfl⟩, _⟩ := hp.ok HMAY.out; clear hp))
      clear ld0 ld1
      have t1 : (q1.off != off + (c : Int)) = false := by rw [HOFF.out]; simp
      have t2 := HF.out
      have HSM : Hid (sameIp (Ip.mk q1.tos q1.id q1.df false off q1.ttl q1.proto q1.src q1.dst q1.ol q1.opts bl body) (Ip.mk tos id df false off ttl proto src dst ol opts bl body) = true) := Lib.hid (by rw [HQ.out]; exact sameIp_refl (Ip.mk tos id df false off ttl proto src dst ol opts bl body))
      have hbi := HBD.out
      have hcase : (q1.mf = true ∧ (j : Int) < (n : Int) - 1) ∨ (q1.mf = false ∧ ¬ (j : Int) < (n : Int) - 1) := by
        by_cases h : j + 1 = n
        · exact .inr ⟨by rw [HMF.out, HEND.out h]; simp, by omega⟩
        · have h2 : TO ≠ bl := fun e => h (HLAST.out e)
          exact .inl ⟨by rw [HMF.out]; simp; omega, by omega⟩
      rcases hcase with ⟨hm1, hj9⟩ | ⟨hm1, hj9⟩
      all_goals
        by_cases hbl0 : 0 < bl
        · have hqp : 0 < q1.bl := by have := HPS.out hbl0; have := HV0.out; omega
          obtain ⟨b1, boff1, rfl, _, _⟩ := A1.out.body.at_ 0 hqp
          clear hnil hbl0
          go_wp2_with (first | (at_builtin; (refine ap_own2 (W0 := ((w.alloc (.cells #[.int .i64 tos, .int .i64 id, .bool df, .bool false, .int .i64 off, .int .i64 ttl, .int .i64 proto, .int .u32 src, .int .u32 dst, .slice oo ol oc, .slice ob bl bc] 25)).junk (osA ++ osj2) dj2)) rfl _ _ 23 rfl 5 (.int .u8 0) 1 1 (by kernel_rfl) rfl (by decide) Try.underlying23 (by ((try simp only [World.junk_junk, Array.append_assoc]); (repeat (first | with_reducible exact Junk.refl _ | with_reducible exact Junk.app _ _ _ _ _ | with_reducible exact Junk.app2 _ _ _ _ _ _ | with_reducible exact Junk.app3 _ _ _ _ _ _ _ | with_reducible exact Junk.app4 _ _ _ _ _ _ _ _ | with_reducible exact Junk.app5 _ _ _ _ _ _ _ _ _ | with_reducible apply Junk.alloc | with_reducible apply Junk.junk | with_reducible apply Junk.drew | with_reducible apply Junk.drewN)))) ob2 cap c _ rfl (Hown.out.on (by ((try simp only [World.junk_junk, Array.append_assoc]); (repeat (first | with_reducible exact Junk.refl _ | with_reducible exact Junk.app _ _ _ _ _ | with_reducible exact Junk.app2 _ _ _ _ _ _ | with_reducible exact Junk.app3 _ _ _ _ _ _ _ | with_reducible exact Junk.app4 _ _ _ _ _ _ _ _ | with_reducible exact Junk.app5 _ _ _ _ _ _ _ _ _ | with_reducible apply Junk.alloc | with_reducible apply Junk.junk | with_reducible apply Junk.drew | with_reducible apply Junk.drewN))))) ⟨b1, boff1, none⟩ q1.bl bc1 rfl ((List.range q1.bl).map fun i => .int .u8 (q1.body i)) (by simp) ((A1.out.body.on (by ((try simp only [World.junk_junk, Array.append_assoc]); (repeat (first | with_reducible exact Junk.refl _ | with_reducible exact Junk.app _ _ _ _ _ | with_reducible exact Junk.app2 _ _ _ _ _ _ | with_reducible exact Junk.app3 _ _ _ _ _ _ _ | with_reducible exact Junk.app4 _ _ _ _ _ _ _ _ | with_reducible exact Junk.app5 _ _ _ _ _ _ _ _ _ | with_reducible apply Junk.alloc | with_reducible apply Junk.junk | with_reducible apply Junk.drew | with_reducible apply Junk.drewN))))).at_.src _ rfl) (by simp [Value.oneCell']) (by simp only [maxLen]; omega) (by omega) hqp ?_; intro ob3 cap3 os3 d3 hown3 hg3 hrow3; obtain ⟨osL, osR, rfl, hsz⟩ := after_append (by ((try simp only [World.junk_junk, Array.append_assoc]); (repeat (first | with_reducible exact Junk.refl _ | with_reducible exact Junk.app _ _ _ _ _ | with_reducible exact Junk.app2 _ _ _ _ _ _ | with_reducible exact Junk.app3 _ _ _ _ _ _ _ | with_reducible exact Junk.app4 _ _ _ _ _ _ _ _ | with_reducible exact Junk.app5 _ _ _ _ _ _ _ _ _ | with_reducible apply Junk.alloc | with_reducible apply Junk.junk | with_reducible apply Junk.drew | with_reducible apply Junk.drewN)))) hg3 (own_row (Hown.out.on (by ((try simp only [World.junk_junk, Array.append_assoc]); (repeat (first | with_reducible exact Junk.refl _ | with_reducible exact Junk.app _ _ _ _ _ | with_reducible exact Junk.app2 _ _ _ _ _ _ | with_reducible exact Junk.app3 _ _ _ _ _ _ _ | with_reducible exact Junk.app4 _ _ _ _ _ _ _ _ | with_reducible exact Junk.app5 _ _ _ _ _ _ _ _ _ | with_reducible apply Junk.alloc | with_reducible apply Junk.junk | with_reducible apply Junk.drew | with_reducible apply Junk.drewN)))))); rw [junk_split] at hown3 ⊢; simp only [World.junk_junk, Array.append_assoc] at hown3 ⊢; have hsz3 : os.size + osj3.size = osL.size := by { simp at hsz; omega }; simp only [World.size_alloc] at hrow3; have hne := row_ne hrow3 (own_row (Hown.out.on (by ((try simp only [World.junk_junk, Array.append_assoc]); (repeat (first | with_reducible exact Junk.refl _ | with_reducible exact Junk.app _ _ _ _ _ | with_reducible exact Junk.app2 _ _ _ _ _ _ | with_reducible exact Junk.app3 _ _ _ _ _ _ _ | with_reducible exact Junk.app4 _ _ _ _ _ _ _ _ | with_reducible exact Junk.app5 _ _ _ _ _ _ _ _ _ | with_reducible apply Junk.alloc | with_reducible apply Junk.junk | with_reducible apply Junk.drew | with_reducible apply Junk.drewN)))))) (show ((w.alloc (.cells #[.int .i64 tos, .int .i64 id, .bool df, .bool false, .int .i64 off, .int .i64 ttl, .int .i64 proto, .int .u32 src, .int .u32 dst, .slice oo ol oc, .slice ob bl bc] 25)).junk (osA ++ (osj2 ++ osL)) d3).heap.size = _ by { simp; omega }); have Hown3 := Lib.hid hown3; have HNE := Lib.hid hne; clear hown3 hg3 hrow3 hsz hne; (try simp only [hsz3]))))
          refine wp_region_mixj ((w.alloc (.cells #[.int .i64 tos, .int .i64 id, .bool df, .bool false, .int .i64 off, .int .i64 ttl, .int .i64 proto, .int .u32 src, .int .u32 dst, .slice oo ol oc, .slice ob bl bc] 25)).junk (osA ++ (osj2 ++ osL)) d3) [(0, true), (1, true), (2, true), (3, true), (4, true), (5, true), (6, true), (7, false), (8, true), (9, false), (10, true), (11, false)] (by kernel_rfl) (by kernel_rfl) (by (repeat (first | with_reducible exact Junk.refl _ | with_reducible exact Junk.app _ _ _ _ _ | with_reducible exact Junk.app2 _ _ _ _ _ _ | with_reducible exact Junk.app3 _ _ _ _ _ _ _ | with_reducible exact Junk.app4 _ _ _ _ _ _ _ _ | with_reducible apply Junk.alloc | with_reducible apply Junk.junk | with_reducible apply Junk.drew | with_reducible apply Junk.drewN))) ?_; (iterate 7 (refine wpMix_q rfl (fun K hK => ?_); (go_simp; try go_bits); (refine hK _ ?_; clear hK K))); refine wpMix_e rfl (fun osm17_0 dm17_0 K hK => ?_); (go_simp; try go_bits); refine hK _ _ (Junk.pair (by (repeat (first | with_reducible exact Junk.refl _ | with_reducible exact Junk.app _ _ _ _ _ | with_reducible exact Junk.app2 _ _ _ _ _ _ | with_reducible exact Junk.app3 _ _ _ _ _ _ _ | with_reducible exact Junk.app4 _ _ _ _ _ _ _ _ | with_reducible apply Junk.alloc | with_reducible apply Junk.junk | with_reducible apply Junk.drew | with_reducible apply Junk.drewN | (with_reducible refine Junk.setCell ?_ (by simp) _))))) ?_; clear hK K; (iterate 1 (refine wpMix_q rfl (fun K hK => ?_); (go_simp; try go_bits); (refine hK _ ?_; clear hK K))); refine wpMix_e rfl (fun osm17_1 dm17_1 K hK => ?_); (go_simp; try go_bits); refine hK _ _ (Junk.pair (by (repeat (first | with_reducible exact Junk.refl _ | with_reducible exact Junk.app _ _ _ _ _ | with_reducible exact Junk.app2 _ _ _ _ _ _ | with_reducible exact Junk.app3 _ _ _ _ _ _ _ | with_reducible exact Junk.app4 _ _ _ _ _ _ _ _ | with_reducible apply Junk.alloc | with_reducible apply Junk.junk | with_reducible apply Junk.drew | with_reducible apply Junk.drewN | (with_reducible refine Junk.setCell ?_ (by simp) _))))) ?_; clear hK K; (iterate 1 (refine wpMix_q rfl (fun K hK => ?_); (go_simp; try go_bits); (refine hK _ ?_; clear hK K))); refine wpMix_e rfl (fun osm17_2 dm17_2 K hK => ?_); (go_simp; try go_bits); refine hK _ _ (Junk.pair (by (repeat (first | with_reducible exact Junk.refl _ | with_reducible exact Junk.app _ _ _ _ _ | with_reducible exact Junk.app2 _ _ _ _ _ _ | with_reducible exact Junk.app3 _ _ _ _ _ _ _ | with_reducible exact Junk.app4 _ _ _ _ _ _ _ _ | with_reducible apply Junk.alloc | with_reducible apply Junk.junk | with_reducible apply Junk.drew | with_reducible apply Junk.drewN | (with_reducible refine Junk.setCell ?_ (by simp) _))))) ?_; clear hK K; refine wpMix_nil (fun osm dm => ?_)
          go_wp2_with (first | (go_at_call 20; refine (ipSame_any (Ip.mk q1.tos q1.id q1.df false off q1.ttl q1.proto q1.src q1.dst q1.ol q1.opts bl body) (Ip.mk tos id df false off ttl proto src dst ol opts bl body) oo1 ob oo ob oc1 bc oc bc _ ⟨A1.out.opts.on (by ((try simp only [World.junk_junk, Array.append_assoc]); (repeat (first | with_reducible exact Junk.refl _ | with_reducible exact Junk.app _ _ _ _ _ | with_reducible exact Junk.app2 _ _ _ _ _ _ | with_reducible exact Junk.app3 _ _ _ _ _ _ _ | with_reducible exact Junk.app4 _ _ _ _ _ _ _ _ | with_reducible exact Junk.app5 _ _ _ _ _ _ _ _ _ | with_reducible apply Junk.alloc | with_reducible apply Junk.junk | with_reducible apply Junk.drew | with_reducible apply Junk.drewN)))), HP.out.body.on (by ((try simp only [World.junk_junk, Array.append_assoc]); (repeat (first | with_reducible exact Junk.refl _ | with_reducible exact Junk.app _ _ _ _ _ | with_reducible exact Junk.app2 _ _ _ _ _ _ | with_reducible exact Junk.app3 _ _ _ _ _ _ _ | with_reducible exact Junk.app4 _ _ _ _ _ _ _ _ | with_reducible exact Junk.app5 _ _ _ _ _ _ _ _ _ | with_reducible apply Junk.alloc | with_reducible apply Junk.junk | with_reducible apply Junk.drew | with_reducible apply Junk.drewN)))), A1.out.src, A1.out.dst⟩ (HP.out.on (by ((try simp only [World.junk_junk, Array.append_assoc]); (repeat (first | with_reducible exact Junk.refl _ | with_reducible exact Junk.app _ _ _ _ _ | with_reducible exact Junk.app2 _ _ _ _ _ _ | with_reducible exact Junk.app3 _ _ _ _ _ _ _ | with_reducible exact Junk.app4 _ _ _ _ _ _ _ _ | with_reducible exact Junk.app5 _ _ _ _ _ _ _ _ _ | with_reducible apply Junk.alloc | with_reducible apply Junk.junk | with_reducible apply Junk.drew | with_reducible apply Junk.drewN)))))).mono ?_; rintro e w' ⟨rfl, ⟨osj9, dj9, rfl⟩⟩; rw [HSM.out]))
          exact ⟨⟨j + 1, c + q1.bl, ob3, cap3, rfl, by go_num, by ((try simp only [World.junk_junk, Array.append_assoc]); (repeat (first | with_reducible exact Junk.refl _ | with_reducible exact Junk.app _ _ _ _ _ | with_reducible exact Junk.app2 _ _ _ _ _ _ | with_reducible exact Junk.app3 _ _ _ _ _ _ _ | with_reducible exact Junk.app4 _ _ _ _ _ _ _ _ | with_reducible exact Junk.app5 _ _ _ _ _ _ _ _ _ | with_reducible apply Junk.alloc | with_reducible apply Junk.junk | with_reducible apply Junk.drew | with_reducible apply Junk.drewN))), own_cast3 (own_past Hown3.out HNE.out) (bytes_snoc _ _ _ _ (fun i _ => HBD.out i)), by omega, Lib.hid (by rw [V9.out, HT.out]), by have := V9.out; omega, fun _ h => by omega⟩, by simp [intOf]; omega⟩
        · have hb0 : bl = 0 := by omega
          have hc0 : c = 0 := by omega
          obtain ⟨rfl, rfl⟩ := hnil hlt hc0
          have hq0 : q1.bl = 0 := by have := V9.out; omega
          have hj1 : j + 1 = n := by have := HLAST.out (by omega); exact this
          clear hnil
          first | (exfalso; omega) | (subst hc0; (have t1b : (q1.off != off) = false := by simpa using t1); have HB0 := Lib.hid hb0; have HQ0 := Lib.hid hq0; clear hb0 hq0 hbl0; go_wp2_with (first | (at_builtin; (refine ap_own rfl _ _ 23 rfl 5 (.int .u8 0) 1 1 (by kernel_rfl) rfl (by decide) Try.underlying23 (Junk.refl _) none 0 0 [] rfl (Own.nil _ _ _ _) ob1 q1.bl bc1 rfl [] (by simp [HQ0.out]) (fun ad had j u hu => by simp at hu) (fun h => A1.out.body.nil h) (by simp) (by rw [HQ0.out]; decide) (by rw [HQ0.out]; decide) ?_; intro ob3 cap3 os3 d3 hown3 _; rw [Nat.zero_add] at hown3 ⊢; have Hown3 := Lib.hid (own_cast3 hown3 (show ([] : List Value) ++ [] = bytesL q1.bl body by rw [HQ0.out]; rfl)); clear hown3))); refine wp_region_mixj ((w.alloc (.cells #[.int .i64 tos, .int .i64 id, .bool df, .bool false, .int .i64 off, .int .i64 ttl, .int .i64 proto, .int .u32 src, .int .u32 dst, .slice oo ol oc, .slice ob bl bc] 25)).junk (osA ++ (osj2 ++ (os ++ osj3))) dj3) [(0, true), (1, true), (2, true), (3, true), (4, true), (5, true), (6, true), (7, false), (8, true), (9, false), (10, true), (11, false)] (by kernel_rfl) (by kernel_rfl) (by (repeat (first | with_reducible exact Junk.refl _ | with_reducible exact Junk.app _ _ _ _ _ | with_reducible exact Junk.app2 _ _ _ _ _ _ | with_reducible exact Junk.app3 _ _ _ _ _ _ _ | with_reducible exact Junk.app4 _ _ _ _ _ _ _ _ | with_reducible apply Junk.alloc | with_reducible apply Junk.junk | with_reducible apply Junk.drew | with_reducible apply Junk.drewN))) ?_; (iterate 7 (refine wpMix_q rfl (fun K hK => ?_); (go_simp; try go_bits); (refine hK _ ?_; clear hK K))); refine wpMix_e rfl (fun osm17_0 dm17_0 K hK => ?_); (go_simp; try go_bits); refine hK _ _ (Junk.pair (by (repeat (first | with_reducible exact Junk.refl _ | with_reducible exact Junk.app _ _ _ _ _ | with_reducible exact Junk.app2 _ _ _ _ _ _ | with_reducible exact Junk.app3 _ _ _ _ _ _ _ | with_reducible exact Junk.app4 _ _ _ _ _ _ _ _ | with_reducible apply Junk.alloc | with_reducible apply Junk.junk | with_reducible apply Junk.drew | with_reducible apply Junk.drewN | (with_reducible refine Junk.setCell ?_ (by simp) _))))) ?_; clear hK K; (iterate 1 (refine wpMix_q rfl (fun K hK => ?_); (go_simp; try go_bits); (refine hK _ ?_; clear hK K))); refine wpMix_e rfl (fun osm17_1 dm17_1 K hK => ?_); (go_simp; try go_bits); refine hK _ _ (Junk.pair (by (repeat (first | with_reducible exact Junk.refl _ | with_reducible exact Junk.app _ _ _ _ _ | with_reducible exact Junk.app2 _ _ _ _ _ _ | with_reducible exact Junk.app3 _ _ _ _ _ _ _ | with_reducible exact Junk.app4 _ _ _ _ _ _ _ _ | with_reducible apply Junk.alloc | with_reducible apply Junk.junk | with_reducible apply Junk.drew | with_reducible apply Junk.drewN | (with_reducible refine Junk.setCell ?_ (by simp) _))))) ?_; clear hK K; (iterate 1 (refine wpMix_q rfl (fun K hK => ?_); (go_simp; try go_bits); (refine hK _ ?_; clear hK K))); refine wpMix_e rfl (fun osm17_2 dm17_2 K hK => ?_); (go_simp; try go_bits); refine hK _ _ (Junk.pair (by (repeat (first | with_reducible exact Junk.refl _ | with_reducible exact Junk.app _ _ _ _ _ | with_reducible exact Junk.app2 _ _ _ _ _ _ | with_reducible exact Junk.app3 _ _ _ _ _ _ _ | with_reducible exact Junk.app4 _ _ _ _ _ _ _ _ | with_reducible apply Junk.alloc | with_reducible apply Junk.junk | with_reducible apply Junk.drew | with_reducible apply Junk.drewN | (with_reducible refine Junk.setCell ?_ (by simp) _))))) ?_; clear hK K; refine wpMix_nil (fun osm dm => ?_); go_wp2_with (first | (go_at_call 20; refine (ipSame_any (Ip.mk q1.tos q1.id q1.df false off q1.ttl q1.proto q1.src q1.dst q1.ol q1.opts bl body) (Ip.mk tos id df false off ttl proto src dst ol opts bl body) oo1 ob oo ob oc1 bc oc bc _ ⟨A1.out.opts.on (by ((try simp only [World.junk_junk, Array.append_assoc]); (repeat (first | with_reducible exact Junk.refl _ | with_reducible exact Junk.app _ _ _ _ _ | with_reducible exact Junk.app2 _ _ _ _ _ _ | with_reducible exact Junk.app3 _ _ _ _ _ _ _ | with_reducible exact Junk.app4 _ _ _ _ _ _ _ _ | with_reducible exact Junk.app5 _ _ _ _ _ _ _ _ _ | with_reducible apply Junk.alloc | with_reducible apply Junk.junk | with_reducible apply Junk.drew | with_reducible apply Junk.drewN)))), HP.out.body.on (by ((try simp only [World.junk_junk, Array.append_assoc]); (repeat (first | with_reducible exact Junk.refl _ | with_reducible exact Junk.app _ _ _ _ _ | with_reducible exact Junk.app2 _ _ _ _ _ _ | with_reducible exact Junk.app3 _ _ _ _ _ _ _ | with_reducible exact Junk.app4 _ _ _ _ _ _ _ _ | with_reducible exact Junk.app5 _ _ _ _ _ _ _ _ _ | with_reducible apply Junk.alloc | with_reducible apply Junk.junk | with_reducible apply Junk.drew | with_reducible apply Junk.drewN)))), A1.out.src, A1.out.dst⟩ (HP.out.on (by ((try simp only [World.junk_junk, Array.append_assoc]); (repeat (first | with_reducible exact Junk.refl _ | with_reducible exact Junk.app _ _ _ _ _ | with_reducible exact Junk.app2 _ _ _ _ _ _ | with_reducible exact Junk.app3 _ _ _ _ _ _ _ | with_reducible exact Junk.app4 _ _ _ _ _ _ _ _ | with_reducible exact Junk.app5 _ _ _ _ _ _ _ _ _ | with_reducible apply Junk.alloc | with_reducible apply Junk.junk | with_reducible apply Junk.drew | with_reducible apply Junk.drewN)))))).mono ?_; rintro e w' ⟨rfl, ⟨osj9, dj9, rfl⟩⟩; rw [HSM.out])); (exact ⟨⟨j + 1, q1.bl, ob3, cap3, rfl, by go_num, by ((try simp only [World.junk_junk, Array.append_assoc]); (repeat (first | with_reducible exact Junk.refl _ | with_reducible exact Junk.app _ _ _ _ _ | with_reducible exact Junk.app2 _ _ _ _ _ _ | with_reducible exact Junk.app3 _ _ _ _ _ _ _ | with_reducible exact Junk.app4 _ _ _ _ _ _ _ _ | with_reducible exact Junk.app5 _ _ _ _ _ _ _ _ _ | with_reducible apply Junk.alloc | with_reducible apply Junk.junk | with_reducible apply Junk.drew | with_reducible apply Junk.drewN))), own_past (Hown3.out.lower (by simp; try omega)) (fun h => by have h2 := own_row_ge Hown3.out _ h; simp at h2; omega), by omega, Lib.hid (by have := V9.out; rw [← HT.out]; omega), by have := HQ0.out; omega, fun h => by omega⟩, by simp [intOf]; omega⟩))
    · have j1 : ¬ (j : Int) < (n : Int) := by omega
      have hjn : j = n := by omega
      have hcb : c = bl := by rw [hc.out, hjn, HN.out]; exact cutAt_end HE.out
      subst hcb
      have hsm : sameN body body c c = true := by simp [sameN]
      have hfi : (n : Int) ≤ (c : Int) / 8 + 1 := by omega
      have hb := own_bts Hown.out HP.out.body.byte
      have HB := Lib.hid hb
      clear hb hjn
      go_wp2_with (first | (go_at_call 21; refine (rsame_any _ _ _ _ _ _ body body _ (by omega) (by show c ≤ _; omega) ((HB.out.on (by ((try simp only [World.junk_junk, Array.append_assoc]); (repeat (first | with_reducible exact Junk.refl _ | with_reducible exact Junk.app _ _ _ _ _ | with_reducible exact Junk.app2 _ _ _ _ _ _ | with_reducible exact Junk.app3 _ _ _ _ _ _ _ | with_reducible exact Junk.app4 _ _ _ _ _ _ _ _ | with_reducible exact Junk.app5 _ _ _ _ _ _ _ _ _ | with_reducible apply Junk.alloc | with_reducible apply Junk.junk | with_reducible apply Junk.drew | with_reducible apply Junk.drewN))))).at_) ((HP.out.body.on (by ((try simp only [World.junk_junk, Array.append_assoc]); (repeat (first | with_reducible exact Junk.refl _ | with_reducible exact Junk.app _ _ _ _ _ | with_reducible exact Junk.app2 _ _ _ _ _ _ | with_reducible exact Junk.app3 _ _ _ _ _ _ _ | with_reducible exact Junk.app4 _ _ _ _ _ _ _ _ | with_reducible exact Junk.app5 _ _ _ _ _ _ _ _ _ | with_reducible apply Junk.alloc | with_reducible apply Junk.junk | with_reducible apply Junk.drew | with_reducible apply Junk.drewN))))).at_)).mono ?_; rintro e w' ⟨rfl, ⟨osj, dj, rfl⟩⟩))
      go_ret
      exact ⟨ret_bool rfl, by ((try simp only [World.junk_junk, Array.append_assoc]); (repeat (first | with_reducible exact Junk.refl _ | with_reducible exact Junk.app _ _ _ _ _ | with_reducible exact Junk.app2 _ _ _ _ _ _ | with_reducible exact Junk.app3 _ _ _ _ _ _ _ | with_reducible exact Junk.app4 _ _ _ _ _ _ _ _ | with_reducible exact Junk.app5 _ _ _ _ _ _ _ _ _ | with_reducible apply Junk.alloc | with_reducible apply Junk.junk | with_reducible apply Junk.drew | with_reducible apply Junk.drewN)))⟩
set_option maxHeartbeats 2000000 in
theorem cutFits_walk (p : Ip) (mtu : Int) (oo ob : Option Addr) (oc bc : Nat) (w : World) (hP : IpAt w p oo oc ob bc) :
    Calls Try.prog 5 #[.agg #[.int .i64 p.tos, .int .i64 p.id, .bool p.df, .bool p.mf, .int .i64 p.off, .int .i64 p.ttl, .int .i64 p.proto, .int .u32 p.src, .int .u32 p.dst, .slice oo p.ol oc, .slice ob p.bl bc], .int .i64 mtu] w fun e w' => e = .returned (.bool true) ∧ Junk w w' := by
  have HP := Lib.hid hP
  cases hs : shortB p with
  | false =>
    clear hP
    go_enter Try.func5, Try.ntmps5
    go_wp2_with (first | (go_at_call 13; refine (awake08_any _).mono ?_; rintro e w' ⟨rfl, ⟨osj, dj, rfl⟩⟩) | (go_at_call 14; refine (short_any p oo ob oc bc _).mono ?_; rintro e w' ⟨rfl, ⟨osj, dj, rfl⟩⟩))
    go_ret
    exact ⟨ret_bool rfl, by ((try simp only [World.junk_junk, Array.append_assoc]); (repeat (first | with_reducible exact Junk.refl _ | with_reducible exact Junk.app _ _ _ _ _ | with_reducible exact Junk.app2 _ _ _ _ _ _ | with_reducible exact Junk.app3 _ _ _ _ _ _ _ | with_reducible exact Junk.app4 _ _ _ _ _ _ _ _ | with_reducible exact Junk.app5 _ _ _ _ _ _ _ _ _ | with_reducible apply Junk.alloc | with_reducible apply Junk.junk | with_reducible apply Junk.drew | with_reducible apply Junk.drewN)))⟩
  | true =>
  obtain ⟨s1, s2⟩ := shortB_true hs
  by_cases hE : cutErr p mtu = 0
  case neg =>
    obtain ⟨n, hn⟩ : ∃ n, n = (cutL p mtu).length := ⟨_, rfl⟩
    have HN := Lib.hid hn
    have he : (cutErr p mtu != 0) = true := by simp [hE]
    have hn0 : n = 0 := by rw [hn]; exact cutL_bad hE
    subst hn0
    clear hE hn hP
    go_enter Try.func5, Try.ntmps5
    go_wp2_with (first | (go_at_call 13; refine (awake08_any _).mono ?_; rintro e w' ⟨rfl, ⟨osj, dj, rfl⟩⟩) | (go_at_call 14; refine (short_any p oo ob oc bc _).mono ?_; rintro e w' ⟨rfl, ⟨osj, dj, rfl⟩⟩) | (go_at_call 15; (try simp only [World.junk_junk]); refine calls_gen (fun osA dA => ?_); refine (cut_any p mtu oo ob oc bc _ (by omega) (by omega) (HP.out.on (by ((try simp only [World.junk_junk, Array.append_assoc]); (repeat (first | with_reducible exact Junk.refl _ | with_reducible exact Junk.app _ _ _ _ _ | with_reducible exact Junk.app2 _ _ _ _ _ _ | with_reducible exact Junk.app3 _ _ _ _ _ _ _ | with_reducible exact Junk.app4 _ _ _ _ _ _ _ _ | with_reducible exact Junk.app5 _ _ _ _ _ _ _ _ _ | with_reducible apply Junk.alloc | with_reducible apply Junk.junk | with_reducible apply Junk.drew | with_reducible apply Junk.drewN)))))).mono ?_; intro e w' hp; obtain ⟨L1, oa1, cap1, rfl, ⟨osj2, dj2, rfl⟩, _⟩ := hp.len HN.out; clear hp))
    go_ret
    exact ⟨ret_bool rfl, by ((try simp only [World.junk_junk, Array.append_assoc]); (repeat (first | with_reducible exact Junk.refl _ | with_reducible exact Junk.app _ _ _ _ _ | with_reducible exact Junk.app2 _ _ _ _ _ _ | with_reducible exact Junk.app3 _ _ _ _ _ _ _ | with_reducible exact Junk.app4 _ _ _ _ _ _ _ _ | with_reducible exact Junk.app5 _ _ _ _ _ _ _ _ _ | with_reducible apply Junk.alloc | with_reducible apply Junk.junk | with_reducible apply Junk.drew | with_reducible apply Junk.drewN)))⟩
  obtain ⟨tos, id, df, mf, off, ttl, proto, src, dst, ol, opts, bl, body⟩ := p
  cases mf with
  | true => exact fitsT tos id df off ttl proto src dst ol opts bl body mtu oo ob oc bc w hP s1 s2 hE
  | false => exact fitsF tos id df off ttl proto src dst ol opts bl body mtu oo ob oc bc w hP s1 s2 hE

theorem cutFits_core (W : World) (base : Nat) (v0 v1 : Value) (a0 : Arg Try.prog W base 25 v0) (a1 : Arg Try.prog W base 3 v1) :
    Calls Try.prog 5 #[v0, v1] W fun e W' => e = .returned (.bool true) ∧ Junk W W' := by
  obtain ⟨cs_p, rfl, h_p⟩ := a0.struct Try.underlying25
  obtain ⟨hl_p, hf_p⟩ := h_p.fields1 Try.underlying25 (by kernel_rfl) (n := 11) (by kernel_rfl)
  obtain ⟨p_TOS, lp0, e_p0⟩ : ∃ x l, cs_p = x :: l := by cases cs_p with | nil => simp at hl_p | cons x l => exact ⟨x, l, rfl⟩
  subst e_p0
  obtain ⟨p_ID, lp1, e_p1⟩ : ∃ x l, lp0 = x :: l := by cases lp0 with | nil => simp at hl_p | cons x l => exact ⟨x, l, rfl⟩
  subst e_p1
  obtain ⟨p_DF, lp2, e_p2⟩ : ∃ x l, lp1 = x :: l := by cases lp1 with | nil => simp at hl_p | cons x l => exact ⟨x, l, rfl⟩
  subst e_p2
  obtain ⟨p_MF, lp3, e_p3⟩ : ∃ x l, lp2 = x :: l := by cases lp2 with | nil => simp at hl_p | cons x l => exact ⟨x, l, rfl⟩
  subst e_p3
  obtain ⟨p_Off, lp4, e_p4⟩ : ∃ x l, lp3 = x :: l := by cases lp3 with | nil => simp at hl_p | cons x l => exact ⟨x, l, rfl⟩
  subst e_p4
  obtain ⟨p_TTL, lp5, e_p5⟩ : ∃ x l, lp4 = x :: l := by cases lp4 with | nil => simp at hl_p | cons x l => exact ⟨x, l, rfl⟩
  subst e_p5
  obtain ⟨p_Proto, lp6, e_p6⟩ : ∃ x l, lp5 = x :: l := by cases lp5 with | nil => simp at hl_p | cons x l => exact ⟨x, l, rfl⟩
  subst e_p6
  obtain ⟨p_Src, lp7, e_p7⟩ : ∃ x l, lp6 = x :: l := by cases lp6 with | nil => simp at hl_p | cons x l => exact ⟨x, l, rfl⟩
  subst e_p7
  obtain ⟨p_Dst, lp8, e_p8⟩ : ∃ x l, lp7 = x :: l := by cases lp7 with | nil => simp at hl_p | cons x l => exact ⟨x, l, rfl⟩
  subst e_p8
  obtain ⟨p_Opts, lp9, e_p9⟩ : ∃ x l, lp8 = x :: l := by cases lp8 with | nil => simp at hl_p | cons x l => exact ⟨x, l, rfl⟩
  subst e_p9
  obtain ⟨p_Body, lp10, e_p10⟩ : ∃ x l, lp9 = x :: l := by cases lp9 with | nil => simp at hl_p | cons x l => exact ⟨x, l, rfl⟩
  subst e_p10
  obtain rfl : lp10 = [] := by simpa using hl_p
  have f_p0 : Cells Try.prog W 3 [p_TOS] := hf_p 0 _ rfl
  have f_p1 : Cells Try.prog W 3 [p_ID] := hf_p 1 _ rfl
  have f_p2 : Cells Try.prog W 4 [p_DF] := hf_p 2 _ rfl
  have f_p3 : Cells Try.prog W 4 [p_MF] := hf_p 3 _ rfl
  have f_p4 : Cells Try.prog W 3 [p_Off] := hf_p 4 _ rfl
  have f_p5 : Cells Try.prog W 3 [p_TTL] := hf_p 5 _ rfl
  have f_p6 : Cells Try.prog W 3 [p_Proto] := hf_p 6 _ rfl
  have f_p7 : Cells Try.prog W 22 [p_Src] := hf_p 7 _ rfl
  have f_p8 : Cells Try.prog W 22 [p_Dst] := hf_p 8 _ rfl
  have f_p9 : Cells Try.prog W 23 [p_Opts] := hf_p 9 _ rfl
  have f_p10 : Cells Try.prog W 23 [p_Body] := hf_p 10 _ rfl
  clear hf_p hl_p
  obtain ⟨p_TOS, e_p_TOS, w_p_TOS⟩ := f_p0.int Try.underlying3; cases e_p_TOS
  obtain ⟨p_ID, e_p_ID, w_p_ID⟩ := f_p1.int Try.underlying3; cases e_p_ID
  obtain ⟨p_DF, e_p_DF⟩ := f_p2.bool Try.underlying4; cases e_p_DF
  obtain ⟨p_MF, e_p_MF⟩ := f_p3.bool Try.underlying4; cases e_p_MF
  obtain ⟨p_Off, e_p_Off, w_p_Off⟩ := f_p4.int Try.underlying3; cases e_p_Off
  obtain ⟨p_TTL, e_p_TTL, w_p_TTL⟩ := f_p5.int Try.underlying3; cases e_p_TTL
  obtain ⟨p_Proto, e_p_Proto, w_p_Proto⟩ := f_p6.int Try.underlying3; cases e_p_Proto
  obtain ⟨p_Src, e_p_Src, w_p_Src⟩ := f_p7.int Try.underlying22; cases e_p_Src
  obtain ⟨p_Dst, e_p_Dst, w_p_Dst⟩ := f_p8.int Try.underlying22; cases e_p_Dst
  obtain ⟨p_Opts_a, p_Opts_l, p_Opts_c, p_Opts, e_p_Opts, lc_p_Opts, cm_p_Opts, S_p_Opts, w_p_Opts⟩ := f_p9.ints Try.underlying23 Try.underlying5 (by kernel_rfl); cases e_p_Opts
  obtain ⟨p_Body_a, p_Body_l, p_Body_c, p_Body, e_p_Body, lc_p_Body, cm_p_Body, S_p_Body, w_p_Body⟩ := f_p10.ints Try.underlying23 Try.underlying5 (by kernel_rfl); cases e_p_Body
  obtain ⟨mtu, rfl, w_mtu⟩ := a1.int Try.underlying3
  exact cutFits_walk ⟨p_TOS, p_ID, p_DF, p_MF, p_Off, p_TTL, p_Proto, p_Src, p_Dst, p_Opts_l, p_Opts, p_Body_l, p_Body⟩ mtu p_Opts_a p_Body_a p_Opts_c p_Body_c W ⟨⟨S_p_Opts, fun i hi => bounds_u8 (w_p_Opts i hi), Cells.nil_slice Try.underlying23 f_p9, lc_p_Opts, cm_p_Opts⟩, ⟨S_p_Body, fun i hi => bounds_u8 (w_p_Body i hi), Cells.nil_slice Try.underlying23 f_p10, lc_p_Body, cm_p_Body⟩, bounds_u32 w_p_Src, bounds_u32 w_p_Dst⟩
set_option maxRecDepth 100000 in
theorem cutFits_lifted (os : Os) (started : os.Started) (H : Type) (enc : TypeId × Value → H) :
    ReturnsInHanded {} Try.checked os 5 .any (Rows.cutFitsSpec.pre6 enc Try.prog Try.f5 Rows.cutFitsRow.domain false) (Rows.cutFitsSpec.post enc Try.prog Try.f5 false true false false) := by
  refine returnsInHanded_of_change (C := Try.checked) (by kernel_rfl) started (by kernel_rfl) Try.func5
    (ChangeSpec.witness6 (enc := enc) (C := Try.checked) false ⟨#[], #[.agg #[.int .i64 0, .int .i64 0, .bool false, .bool false, .int .i64 0, .int .i64 0, .int .i64 0, .int .u32 0, .int .u32 0, .slice none 0 0, .slice none 0 0], .int .i64 0], []⟩ 8 (by kernel_rfl) (by kernel_rfl) (by kernel_rfl) (by kernel_rfl)) ?_
  intro W base args ds gs before hval hW _ _
  obtain ⟨p, q, hA, _, _, _, _⟩ := id hW
  have hargs : Args Try.prog W base Try.f5.params.toList args.toList := args_of (fun j t v h1 h2 => hval j t v (by simpa using h1) (by simpa using h2)) hA
  rw [Try.params5] at hargs
  obtain ⟨v0, l0, e0, a0, r0⟩ := args_cons hargs
  obtain ⟨v1, l1, e1, a1, r1⟩ := args_cons r0
  have hn := args_nil r1
  have he : args = #[v0, v1] := by
    apply Array.ext'
    simp only [e0, e1, hn]
  subst he
  exact (cutFits_core W base v0 v1 a0 a1).mono fun e W' ⟨he, hj⟩ => ⟨_, he, post_true (tb := 4) (by kernel_rfl) (by kernel_rfl) rfl (by kernel_rfl) rfl hW (fun hg hl => by
    subst hg
    match ds, hl with
    | [_, _], _ => exact ⟨rfl, rfl, rfl⟩) hj⟩
theorem cutFits_holds : Rows.CutFitsSaid :=
  OpenClaim.holds_of_wide 5 Try.f5 rfl rfl rfl rfl rfl rfl rfl ⟨rfl, rfl, rfl, rfl, rfl⟩ rfl rfl rfl rfl rfl (by kernel_rfl) Try.func5 (by kernel_rfl)
    (of_decide_eq_true (by kernel_rfl)) (by unfold Func.isWrapper; rw [if_neg (of_decide_eq_false (by kernel_rfl))]; exact ⟨rfl, rfl⟩)
    (fun os started H enc _ => cutFits_lifted os started H enc)

end Go.Proofs.Ytbijbcpalmepiaa
