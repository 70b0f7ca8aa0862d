/- The contract of the reference's Put. -/
import Derived.Test.YteegeckkfdeccaaIpRef
set_option linter.unusedVariables false
set_option linter.unusedSimpArgs false
namespace Go.Proofs.Yteegeckkfdeccaa
open Go.RowKit
def pktLen (p : Ip) : Nat := if mayB p then 20 + p.ol + p.bl else 0
def IpRPutM (w : World) (p : Ip) (e : Ending) (w' : World) : Prop :=
  ∃ (ob : Option Addr) (cb : Nat), e = .returned (.tuple #[.slice ob (pktLen p) cb, .int .i64 (ipErr p)]) ∧ Junk w w' ∧ Bts w' ob (pktLen p) cb (pktB p)
theorem IpPutM.any2 {w w' : World} {p : Ip} {e : Ending} (h : IpPutM w p e w') : IpRPutM w p e w' := by
  obtain ⟨ob, lb, cb, he, hj, hb, hl⟩ := h.any
  exact ⟨ob, cb, by rw [he, hl]; rfl, hj, by rw [hl] at hb; exact hb⟩
theorem bytesL_body (p : Ip) : bytesL (20 + p.ol) (headB p (hdrSum p)) ++ ((List.range p.bl).map fun i => .int .u8 (p.body i)) = bytesL (20 + p.ol + p.bl) (pktB p) := by
  unfold bytesL
  rw [← @range_ext (20 + p.ol) p.bl (fun i => Value.int .u8 (pktB p i))]
  congr 1
  · apply List.map_congr_left
    intro i hi
    rw [pkt_head p i (by simpa using hi)]
  · apply List.map_congr_left
    intro i _
    unfold pktB
    rw [if_neg (by omega), Nat.add_sub_cancel_left]
theorem rof_hdr (p : Ip) (ob : Option Addr) (cap : Nat) (w : World) (h : HeadP p) (hs : 0 ≤ p.src ∧ p.src ≤ 4294967295) (hd : 0 ≤ p.dst ∧ p.dst ≤ 4294967295) (ho : ∀ i, i < p.ol → 0 ≤ p.opts i ∧ p.opts i ≤ 255) (hB : Bts w ob (20 + p.ol) cap (headB p 0)) :
    Calls Try.prog 51 #[.slice ob (20 + p.ol) cap] w fun e w' => e = .returned (.int .u16 (hdrSum p)) ∧ Junk w w' := by
  have hol := h.ol
  exact rof_any ob (20 + p.ol) cap (headB p 0) w (by omega) hB.at_ hB.byte
set_option maxHeartbeats 1000000 in
theorem ipRPut_any (p : Ip) (oo ob : Option Addr) (oc bc : Nat) (w : World) (h1 : p.ol ≤ 100000000) (h2 : p.bl ≤ 100000000) (hP : IpAt w p oo oc ob bc) :
    Calls Try.prog 40 #[.agg #[.int .i64 p.tos, .int .i64 p.id, .bool p.df, .bool p.mf, .int .i64 p.off, .int .i64 p.ttl, .int .i64 p.proto, .int .u32 p.src, .int .u32 p.dst, .slice oo p.ol oc, .slice ob p.bl bc]] w (IpRPutM w p) := by
  have HP := Lib.hid hP
  clear hP
  cases hm : mayB p with
  | false =>
    go_enter Try.func40, Try.ntmps40
    go_wp2_with (first | (go_at_call 64; refine (rmay_any p oo ob oc bc _ h1 h2).mono ?_; rintro e w' ⟨rfl, ⟨osj, dj, rfl⟩⟩))
    go_returns
    have hl : pktLen p = 0 := by simp [pktLen, hm]
    exact ⟨none, 0, by rw [hl]; simp [ipErr, hm], by (repeat (first | with_reducible exact Junk.refl _ | with_reducible exact Junk.app _ _ _ _ _ | with_reducible apply Junk.alloc | with_reducible apply Junk.junk | with_reducible apply Junk.drew | with_reducible apply Junk.drewN)), by rw [hl]; exact bts_none _ _⟩
  | true =>
    have M := Lib.hid (may_iff.1 hm)
    have hH := Lib.hid (may_iff.1 hm).head
    have hol := M.out.ol
    have hfit := M.out.fit
    have hoff := M.out.off
    have K := Lib.hid (hdrSum_bd M.out HP.out.src HP.out.dst HP.out.opts.byte)
    obtain ⟨k1, k2⟩ := K.out
    have Hb0 := Lib.hid (headB_byte2 (c := 0) hH.out (by omega) HP.out.src HP.out.dst HP.out.opts.byte)
    have Hpk := Lib.hid (pktB_byte M.out HP.out.src HP.out.dst HP.out.opts.byte HP.out.body.byte)
    go_enter Try.func40, Try.ntmps40
    go_wp2_with (first | (go_at_call 64; refine (rmay_any p oo ob oc bc _ h1 h2).mono ?_; rintro e w' ⟨rfl, ⟨osj, dj, rfl⟩⟩) | (go_at_call 65; (try simp only [World.junk_junk]); refine calls_gen (fun osA dA => ?_); refine (rhead_any p 0 oo ob oc bc _ hH.out (by omega) (by omega) (HP.out.on (by ((try simp only [World.junk_junk, Array.append_assoc]); (repeat (first | with_reducible exact Junk.refl _ | with_reducible exact Junk.app _ _ _ _ _ | with_reducible exact Junk.app2 _ _ _ _ _ _ | with_reducible exact Junk.app3 _ _ _ _ _ _ _ | with_reducible exact Junk.app4 _ _ _ _ _ _ _ _ | with_reducible exact Junk.app5 _ _ _ _ _ _ _ _ _ | with_reducible apply Junk.alloc | with_reducible apply Junk.junk | with_reducible apply Junk.drew | with_reducible apply Junk.drewN)))))).mono ?_; rintro e w' ⟨o1, c1, rfl, ⟨osj, dj, rfl⟩, hown⟩; have Hb1 := Lib.hid (own_bts hown Hb0.out); clear hown) | (go_at_call 51; refine (rof_hdr p o1 c1 _ hH.out HP.out.src HP.out.dst HP.out.opts.byte (Hb1.out.on (by ((try simp only [World.junk_junk, Array.append_assoc]); (repeat (first | with_reducible exact Junk.refl _ | with_reducible exact Junk.app _ _ _ _ _ | with_reducible exact Junk.app2 _ _ _ _ _ _ | with_reducible exact Junk.app3 _ _ _ _ _ _ _ | with_reducible exact Junk.app4 _ _ _ _ _ _ _ _ | with_reducible exact Junk.app5 _ _ _ _ _ _ _ _ _ | with_reducible apply Junk.alloc | with_reducible apply Junk.junk | with_reducible apply Junk.drew | with_reducible apply Junk.drewN)))))).mono ?_; rintro e w' ⟨rfl, ⟨osj, dj, rfl⟩⟩))
    (try simp only [World.junk_junk]); refine wp_gen (fun osB dB => ?_)
    refine wp_region_mixj ((w.alloc (.cells #[.int .i64 p.tos, .int .i64 p.id, .bool p.df, .bool p.mf, .int .i64 p.off, .int .i64 p.ttl, .int .i64 p.proto, .int .u32 p.src, .int .u32 p.dst, .slice oo p.ol oc, .slice ob p.bl bc] 45)).junk osB dB) [(0, true), (1, true), (3, true), (4, true), (2, false), (5, false), (6, true), (7, true)] (by kernel_rfl) (by kernel_rfl) (by (repeat (first | with_reducible exact Junk.refl _ | with_reducible exact Junk.app _ _ _ _ _ | with_reducible apply Junk.alloc | with_reducible apply Junk.junk | with_reducible apply Junk.drew | with_reducible apply Junk.drewN))) ?_; (iterate 4 (refine wpMix_q rfl (fun K hK => ?_); (go_simp; try go_bits); (refine hK _ ?_; clear hK K))); refine wpMix_e rfl (fun osm4_0 dm4_0 K hK => ?_); (go_simp; try go_bits); (go_at_call 65; refine (rhead_any p (hdrSum p) oo ob oc bc _ hH.out k1 k2 (HP.out.on (by ((try simp only [World.junk_junk, Array.append_assoc]); (repeat (first | with_reducible exact Junk.refl _ | with_reducible exact Junk.app _ _ _ _ _ | with_reducible exact Junk.app2 _ _ _ _ _ _ | with_reducible exact Junk.app3 _ _ _ _ _ _ _ | with_reducible exact Junk.app4 _ _ _ _ _ _ _ _ | with_reducible exact Junk.app5 _ _ _ _ _ _ _ _ _ | with_reducible apply Junk.alloc | with_reducible apply Junk.junk | with_reducible apply Junk.drew | with_reducible apply Junk.drewN)))))).mono ?_; rintro e w' ⟨o2, c2, rfl, ⟨osj, dj, rfl⟩, hown⟩; have Ho2 := Lib.hid (hown.lower (B' := ((w.alloc (.cells #[.int .i64 p.tos, .int .i64 p.id, .bool p.df, .bool p.mf, .int .i64 p.off, .int .i64 p.ttl, .int .i64 p.proto, .int .u32 p.src, .int .u32 p.dst, .slice oo p.ol oc, .slice ob p.bl bc] 45)).junk osB dB).heap.size) (by simp)); clear hown); refine hK _ _ (Junk.pair (by (repeat (first | with_reducible exact Junk.refl _ | with_reducible exact Junk.app _ _ _ _ _ | with_reducible apply Junk.alloc | with_reducible apply Junk.junk | with_reducible apply Junk.drew | with_reducible apply Junk.drewN | (with_reducible refine Junk.setCell ?_ (by simp) _))))) ?_; clear hK K; refine wpMix_e1 rfl rfl (fun osm4_1 dm4_1 K hK => ?_); (try simp only [World.drew_junk, World.junk_junk] at Ho2 ⊢); (refine ap_own_wp (W0 := (w.alloc (.cells #[.int .i64 p.tos, .int .i64 p.id, .bool p.df, .bool p.mf, .int .i64 p.off, .int .i64 p.ttl, .int .i64 p.proto, .int .u32 p.src, .int .u32 p.dst, .slice oo p.ol oc, .slice ob p.bl bc] 45)).junk osB dB) _ _ 22 rfl 5 (.int .u8 0) 1 1 (by kernel_rfl) rfl (by decide) Try.underlying22 (by ((try simp only [World.junk_junk, Array.append_assoc]); (repeat (first | with_reducible exact Junk.refl _ | with_reducible exact Junk.app _ _ _ _ _ | with_reducible exact Junk.app2 _ _ _ _ _ _ | with_reducible exact Junk.app3 _ _ _ _ _ _ _ | with_reducible exact Junk.app4 _ _ _ _ _ _ _ _ | with_reducible exact Junk.app5 _ _ _ _ _ _ _ _ _ | with_reducible apply Junk.alloc | with_reducible apply Junk.junk | with_reducible apply Junk.drew | with_reducible apply Junk.drewN)))) _ _ (20 + p.ol) _ rfl (Ho2.out.on (by ((try simp only [World.junk_junk, Array.append_assoc]); (repeat (first | with_reducible exact Junk.refl _ | with_reducible exact Junk.app _ _ _ _ _ | with_reducible exact Junk.app2 _ _ _ _ _ _ | with_reducible exact Junk.app3 _ _ _ _ _ _ _ | with_reducible exact Junk.app4 _ _ _ _ _ _ _ _ | with_reducible exact Junk.app5 _ _ _ _ _ _ _ _ _ | with_reducible apply Junk.alloc | with_reducible apply Junk.junk | with_reducible apply Junk.drew | with_reducible apply Junk.drewN))))) ob p.bl bc rfl ((List.range p.bl).map fun i => .int .u8 (p.body i)) (by simp) (HP.out.body.at_.on (by ((try simp only [World.junk_junk, Array.append_assoc]); (repeat (first | with_reducible exact Junk.refl _ | with_reducible exact Junk.app _ _ _ _ _ | with_reducible exact Junk.app2 _ _ _ _ _ _ | with_reducible exact Junk.app3 _ _ _ _ _ _ _ | with_reducible exact Junk.app4 _ _ _ _ _ _ _ _ | with_reducible exact Junk.app5 _ _ _ _ _ _ _ _ _ | with_reducible apply Junk.alloc | with_reducible apply Junk.junk | with_reducible apply Junk.drew | with_reducible apply Junk.drewN))))).src (fun h => HP.out.body.nil h) (by simp [Value.oneCell']) (by simp only [maxLen]; omega) (by omega) ?_; intro o3 c3 os3 d3 hown3 _; have Ho3 := Lib.hid (own_cast2 hown3 (bytesL_body p)); clear hown3); refine hK _ _ (Junk.pair (by (repeat (first | with_reducible exact Junk.refl _ | with_reducible exact Junk.app _ _ _ _ _ | with_reducible apply Junk.alloc | with_reducible apply Junk.junk | with_reducible apply Junk.drew | with_reducible apply Junk.drewN | (with_reducible refine Junk.setCell ?_ (by simp) _))))) ?_; clear hK K; (iterate 2 (refine wpMix_q rfl (fun K hK => ?_); (go_simp; try go_bits); (refine hK _ ?_; clear hK K))); refine wpMix_nil (fun osm dm => ?_)
    go_wp2
    all_goals
      go_returns
      have hl : pktLen p = 20 + p.ol + p.bl := by simp [pktLen, hm]
      have hb3 := own_bts Ho3.out Hpk.out
      exact ⟨o3, c3, by rw [hl]; simp [ipErr, hm], by ((try simp only [World.junk_junk, Array.append_assoc]); (repeat (first | with_reducible exact Junk.refl _ | with_reducible exact Junk.app _ _ _ _ _ | with_reducible exact Junk.app2 _ _ _ _ _ _ | with_reducible exact Junk.app3 _ _ _ _ _ _ _ | with_reducible exact Junk.app4 _ _ _ _ _ _ _ _ | with_reducible exact Junk.app5 _ _ _ _ _ _ _ _ _ | with_reducible apply Junk.alloc | with_reducible apply Junk.junk | with_reducible apply Junk.drew | with_reducible apply Junk.drewN))), by rw [hl]; exact hb3.on (by ((try simp only [World.junk_junk, Array.append_assoc]); (repeat (first | with_reducible exact Junk.refl _ | with_reducible exact Junk.app _ _ _ _ _ | with_reducible exact Junk.app2 _ _ _ _ _ _ | with_reducible exact Junk.app3 _ _ _ _ _ _ _ | with_reducible exact Junk.app4 _ _ _ _ _ _ _ _ | with_reducible exact Junk.app5 _ _ _ _ _ _ _ _ _ | with_reducible apply Junk.alloc | with_reducible apply Junk.junk | with_reducible apply Junk.drew | with_reducible apply Junk.drewN))))⟩
end Go.Proofs.Yteegeckkfdeccaa
