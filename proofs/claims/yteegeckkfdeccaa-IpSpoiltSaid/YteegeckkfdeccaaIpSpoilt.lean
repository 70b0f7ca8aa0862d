/- The law IpSpoilt: a packet of whose head one byte was changed, whichever way, is told to be none. -/
import Derived.Test.YteegeckkfdeccaaIpPlain
set_option linter.unusedVariables false
set_option linter.unusedSimpArgs false
namespace Go.Proofs.Yteegeckkfdeccaa
open Go.RowKit
/-- A byte, changed. -/
def xorI (a x : Int) : Int := ((a.toNat ^^^ x.toNat : Nat) : Int)
theorem xorI_bd {a x : Int} (ha : 0 ≤ a ∧ a ≤ 255) (hx : 0 ≤ x ∧ x ≤ 255) : 0 ≤ xorI a x ∧ xorI a x ≤ 255 := by
  have : a.toNat ^^^ x.toNat < 2 ^ 8 := Nat.xor_lt_two_pow (by omega) (by omega)
  unfold xorI; omega
theorem xorI_ne {a x : Int} (ha : 0 ≤ a) (hx : 0 < x) : xorI a x ≠ a := by
  intro h
  unfold xorI at h
  have h1 : a.toNat ^^^ x.toNat = a.toNat := by omega
  have h2 : a.toNat ^^^ (a.toNat ^^^ x.toNat) = a.toNat ^^^ a.toNat := by rw [h1]
  rw [← Nat.xor_assoc, Nat.xor_self, Nat.zero_xor] at h2
  omega
theorem u8_xorI (a x : Int) (ha : 0 ≤ a ∧ a ≤ 255) (hx : 0 ≤ x ∧ x ≤ 255) : bits .xor .u8 a x = xorI a x := u8_xor a x ha.1 (by omega) hx.1 (by omega)
theorem pkt_ver {p : Ip} (h : p.ol ≤ 40) (h4 : p.ol % 4 = 0) : pktB p 0 / 16 = 4 ∧ pktB p 0 % 16 * 4 = 20 + p.ol := by
  rw [pkt_head p 0 (by omega)]
  simp only [headB]
  omega
/-- Behind byte 0: no packet any more. -/
theorem spoilt_err {p : Ip} {k N : Nat} {v : Int} (h : MayP p) (hs : 0 ≤ p.src ∧ p.src ≤ 4294967295) (hd : 0 ≤ p.dst ∧ p.dst ≤ 4294967295) (ho : ∀ i, i < p.ol → 0 ≤ p.opts i ∧ p.opts i ≤ 255) (hb : ∀ i, i < p.bl → 0 ≤ p.body i ∧ p.body i ≤ 255)
    (hv : 0 ≤ v ∧ v ≤ 255) (h0 : 0 < k) (hk : k < 20 + p.ol) (hne : v ≠ pktB p k) : parseErr (upd (pktB p) k v) N ≠ 0 := by
  intro hc
  have hl : lenErr (upd (pktB p) k v) N = 0 := by
    unfold parseErr at hc
    split at hc
    · exact hc
    · rename_i h1; simpa using h1
  have hx := lenErr_zero hl
  have e : ipSize (upd (pktB p) k v) = 20 + p.ol := by
    unfold ipSize
    rw [upd_other _ _ _ _ (by omega)]
    have := (pkt_ver h.ol h.ol4).2
    omega
  have h1 := hx.sum
  rw [e] at h1
  exact sumN_spoilt (fun i hi => pktB_byte h hs hd ho hb i (by omega)) hv hk hne (pkt_sum h hs hd ho) h1
/-- Byte 0 itself: no packet, or one with other options. -/
theorem spoilt_zero {p : Ip} {N : Nat} {v : Int} (h : MayP p) (hv : 0 ≤ v ∧ v ≤ 255) (hne : v ≠ pktB p 0) (hc : parseErr (upd (pktB p) 0 v) N = 0) : (parseIp (upd (pktB p) 0 v)).ol ≠ p.ol := by
  have hl : lenErr (upd (pktB p) 0 v) N = 0 := by
    unfold parseErr at hc
    split at hc
    · exact hc
    · rename_i h1; simpa using h1
  have hx := lenErr_zero hl
  have h1 := hx.ver
  have h2 := hx.s20
  have h3 := pkt_ver h.ol h.ol4
  show ipSize (upd (pktB p) 0 v) - 20 ≠ p.ol
  unfold ipSize at h2 ⊢
  rw [upd_same] at h1 h2 ⊢
  omega
set_option maxHeartbeats 1000000 in
theorem spoilt_ok (p : Ip) (oo ob : Option Addr) (oc bc : Nat) (w : World) (x v : Int) (N k : Nat) (hx : 0 ≤ x ∧ x ≤ 255) (hx0 : (x == 0) = false) (HP : Hid (IpAt w p oo oc ob bc)) (hs : shortB p = true) (hm : mayB p = true) (s1 : p.ol ≤ 100) (s2 : p.bl ≤ 3000)
    (F : Hid (20 + p.ol + p.bl = N)) (hN2 : N ≤ 70000) (hk : k < 20 + p.ol) (hkN : k < N) (hxor : bits .xor .u8 (pktB p k) x = v) (hv : 0 ≤ v ∧ v ≤ 255) (hk0 : ((k : Int) == 0) = true)
    (HZ : Hid (parseErr (upd (pktB p) k v) N = 0)) (hne : (((parseIp (upd (pktB p) k v)).ol : Int) != (p.ol : Int)) = true) :
    Calls Try.prog 6 #[.agg #[.int .i64 p.tos, .int .i64 p.id, .bool p.df, .bool p.mf, .int .i64 p.off, .int .i64 p.ttl, .int .i64 p.proto, .int .u32 p.src, .int .u32 p.dst, .slice oo p.ol oc, .slice ob p.bl bc], .int .i64 (k : Int), .int .u8 x] w fun e w' => e = .returned (.bool true) ∧ Junk w w' := by
  have i0 : (k : Int) < (N : Int) := by omega
  have hn1 : ¬ (20 + (p.ol : Int) ≤ (k : Int)) := by omega
  have hn2 : (k : Int) < 20 + (p.ol : Int) := by omega
  go_enter Try.func6, Try.ntmps6
  go_wp2_with (first | (go_at_call 29; refine (awake03_any _).mono ?_; rintro e w' ⟨rfl, ⟨osj, dj, rfl⟩⟩) | (go_at_call 30; refine (short_any p oo ob oc bc _).mono ?_; rintro e w' ⟨rfl, ⟨osj, dj, rfl⟩⟩) | (go_at_call 31; (try simp only [World.junk_junk]); refine calls_gen (fun osA dA => ?_); refine (ipPut_any p oo ob oc bc _ (by omega) (by omega) (HP.out.on (by ((try simp only [World.junk_junk, Array.append_assoc]); (repeat (first | with_reducible exact Junk.refl _ | with_reducible exact Junk.app _ _ _ _ _ | with_reducible exact Junk.app2 _ _ _ _ _ _ | with_reducible exact Junk.app3 _ _ _ _ _ _ _ | with_reducible exact Junk.app4 _ _ _ _ _ _ _ _ | with_reducible exact Junk.app5 _ _ _ _ _ _ _ _ _ | with_reducible apply Junk.alloc | with_reducible apply Junk.junk | with_reducible apply Junk.drew | with_reducible apply Junk.drewN)))))).mono ?_; intro e w' hp; obtain ⟨o1, c1, rfl, ⟨osj2, dj2, rfl⟩, hb, ho⟩ := hp.ok hm; clear hp; rw [F.out] at hb ho ⊢; obtain ⟨g, rfl, hgB, hgS, hcells⟩ := own_some ho (by omega); obtain ⟨hck, hfk⟩ := hcells k (.int .u8 (pktB p k)) (by simp [bytesL, hkN]); simp only [World.junk_junk] at hb hck hfk hgS ⊢; obtain ⟨osS, dS, hW⟩ := Junk.setCell (w := w.alloc (.cells #[.int .i64 p.tos, .int .i64 p.id, .bool p.df, .bool p.mf, .int .i64 p.off, .int .i64 p.ttl, .int .i64 p.proto, .int .u32 p.src, .int .u32 p.dst, .slice oo p.ol oc, .slice ob p.bl bc] 45)) ⟨_, _, rfl⟩ (a := ⟨g, k, none⟩) (by simp at hgB ⊢; omega) (.int .u8 v); have hb2 := bts_set0 hb k v hv; rw [hW] at hb2; have Hb2 : Hid (Bts _ _ _ _ (upd (pktB p) k v)) := Lib.hid hb2; clear hb hb2 ho hcells) | (go_at_call 32; (try rw [hW]); refine (ipParse_any _ N c1 (upd (pktB p) k v) _ (by omega) (Hb2.out.on (by ((try simp only [World.junk_junk, Array.append_assoc]); (repeat (first | with_reducible exact Junk.refl _ | with_reducible exact Junk.app _ _ _ _ _ | with_reducible exact Junk.app2 _ _ _ _ _ _ | with_reducible exact Junk.app3 _ _ _ _ _ _ _ | with_reducible exact Junk.app4 _ _ _ _ _ _ _ _ | with_reducible exact Junk.app5 _ _ _ _ _ _ _ _ _ | with_reducible apply Junk.alloc | with_reducible apply Junk.junk | with_reducible apply Junk.drew | with_reducible apply Junk.drewN)))))).mono ?_; intro e w' hp; obtain ⟨oo2, ob2, oc2, bc2, rfl, ⟨osj3, dj3, rfl⟩, _⟩ := hp.ok HZ.out; clear hp))
  all_goals (go_ret; exact ⟨ret_bool rfl, by ((try simp only [World.junk_junk, Array.append_assoc]); (repeat (first | with_reducible exact Junk.refl _ | with_reducible exact Junk.app _ _ _ _ _ | with_reducible exact Junk.app2 _ _ _ _ _ _ | with_reducible exact Junk.app3 _ _ _ _ _ _ _ | with_reducible exact Junk.app4 _ _ _ _ _ _ _ _ | with_reducible exact Junk.app5 _ _ _ _ _ _ _ _ _ | with_reducible apply Junk.alloc | with_reducible apply Junk.junk | with_reducible apply Junk.drew | with_reducible apply Junk.drewN)))⟩)
set_option maxHeartbeats 1000000 in
theorem spoilt_bad (p : Ip) (oo ob : Option Addr) (oc bc : Nat) (w : World) (x v : Int) (N k : Nat) (hx : 0 ≤ x ∧ x ≤ 255) (hx0 : (x == 0) = false) (HP : Hid (IpAt w p oo oc ob bc)) (hs : shortB p = true) (hm : mayB p = true) (s1 : p.ol ≤ 100) (s2 : p.bl ≤ 3000)
    (F : Hid (20 + p.ol + p.bl = N)) (hN2 : N ≤ 70000) (hk : k < 20 + p.ol) (hkN : k < N) (hxor : bits .xor .u8 (pktB p k) x = v) (hv : 0 ≤ v ∧ v ≤ 255) (hz : (parseErr (upd (pktB p) k v) N != 0) = true) (HZ : Hid (parseErr (upd (pktB p) k v) N ≠ 0)) :
    Calls Try.prog 6 #[.agg #[.int .i64 p.tos, .int .i64 p.id, .bool p.df, .bool p.mf, .int .i64 p.off, .int .i64 p.ttl, .int .i64 p.proto, .int .u32 p.src, .int .u32 p.dst, .slice oo p.ol oc, .slice ob p.bl bc], .int .i64 (k : Int), .int .u8 x] w fun e w' => e = .returned (.bool true) ∧ Junk w w' := by
  have i0 : (k : Int) < (N : Int) := by omega
  have hn1 : ¬ (20 + (p.ol : Int) ≤ (k : Int)) := by omega
  have hn2 : (k : Int) < 20 + (p.ol : Int) := by omega
  cases hk0 : ((k : Int) == 0)
  all_goals
    go_enter Try.func6, Try.ntmps6
    go_wp2_with (first | (go_at_call 29; refine (awake03_any _).mono ?_; rintro e w' ⟨rfl, ⟨osj, dj, rfl⟩⟩) | (go_at_call 30; refine (short_any p oo ob oc bc _).mono ?_; rintro e w' ⟨rfl, ⟨osj, dj, rfl⟩⟩) | (go_at_call 31; (try simp only [World.junk_junk]); refine calls_gen (fun osA dA => ?_); refine (ipPut_any p oo ob oc bc _ (by omega) (by omega) (HP.out.on (by ((try simp only [World.junk_junk, Array.append_assoc]); (repeat (first | with_reducible exact Junk.refl _ | with_reducible exact Junk.app _ _ _ _ _ | with_reducible exact Junk.app2 _ _ _ _ _ _ | with_reducible exact Junk.app3 _ _ _ _ _ _ _ | with_reducible exact Junk.app4 _ _ _ _ _ _ _ _ | with_reducible exact Junk.app5 _ _ _ _ _ _ _ _ _ | with_reducible apply Junk.alloc | with_reducible apply Junk.junk | with_reducible apply Junk.drew | with_reducible apply Junk.drewN)))))).mono ?_; intro e w' hp; obtain ⟨o1, c1, rfl, ⟨osj2, dj2, rfl⟩, hb, ho⟩ := hp.ok hm; clear hp; rw [F.out] at hb ho ⊢; obtain ⟨g, rfl, hgB, hgS, hcells⟩ := own_some ho (by omega); obtain ⟨hck, hfk⟩ := hcells k (.int .u8 (pktB p k)) (by simp [bytesL, hkN]); simp only [World.junk_junk] at hb hck hfk hgS ⊢; obtain ⟨osS, dS, hW⟩ := Junk.setCell (w := w.alloc (.cells #[.int .i64 p.tos, .int .i64 p.id, .bool p.df, .bool p.mf, .int .i64 p.off, .int .i64 p.ttl, .int .i64 p.proto, .int .u32 p.src, .int .u32 p.dst, .slice oo p.ol oc, .slice ob p.bl bc] 45)) ⟨_, _, rfl⟩ (a := ⟨g, k, none⟩) (by simp at hgB ⊢; omega) (.int .u8 v); have hb2 := bts_set0 hb k v hv; rw [hW] at hb2; have Hb2 : Hid (Bts _ _ _ _ (upd (pktB p) k v)) := Lib.hid hb2; clear hb hb2 ho hcells) | (go_at_call 32; (try rw [hW]); refine (ipParse_any _ N c1 (upd (pktB p) k v) _ (by omega) (Hb2.out.on (by ((try simp only [World.junk_junk, Array.append_assoc]); (repeat (first | with_reducible exact Junk.refl _ | with_reducible exact Junk.app _ _ _ _ _ | with_reducible exact Junk.app2 _ _ _ _ _ _ | with_reducible exact Junk.app3 _ _ _ _ _ _ _ | with_reducible exact Junk.app4 _ _ _ _ _ _ _ _ | with_reducible exact Junk.app5 _ _ _ _ _ _ _ _ _ | with_reducible apply Junk.alloc | with_reducible apply Junk.junk | with_reducible apply Junk.drew | with_reducible apply Junk.drewN)))))).mono ?_; intro e w' hp; obtain ⟨rfl, ⟨osj3, dj3, rfl⟩⟩ := hp.bad HZ.out; clear hp))
    all_goals (go_ret; exact ⟨ret_bool rfl, by ((try simp only [World.junk_junk, Array.append_assoc]); (repeat (first | with_reducible exact Junk.refl _ | with_reducible exact Junk.app _ _ _ _ _ | with_reducible exact Junk.app2 _ _ _ _ _ _ | with_reducible exact Junk.app3 _ _ _ _ _ _ _ | with_reducible exact Junk.app4 _ _ _ _ _ _ _ _ | with_reducible exact Junk.app5 _ _ _ _ _ _ _ _ _ | with_reducible apply Junk.alloc | with_reducible apply Junk.junk | with_reducible apply Junk.drew | with_reducible apply Junk.drewN)))⟩)
set_option maxHeartbeats 1000000 in
theorem ipSpoilt_walk (p : Ip) (oo ob : Option Addr) (oc bc : Nat) (w : World) (at_ x : Int) (hx : 0 ≤ x ∧ x ≤ 255) (hP : IpAt w p oo oc ob bc) :
    Calls Try.prog 6 #[.agg #[.int .i64 p.tos, .int .i64 p.id, .bool p.df, .bool p.mf, .int .i64 p.off, .int .i64 p.ttl, .int .i64 p.proto, .int .u32 p.src, .int .u32 p.dst, .slice oo p.ol oc, .slice ob p.bl bc], .int .i64 at_, .int .u8 x] w fun e w' => e = .returned (.bool true) ∧ Junk w w' := by
  have HP := Lib.hid hP
  clear hP
  cases hs : shortB p with
  | false =>
    go_enter Try.func6, Try.ntmps6
    go_wp2_with (first | (go_at_call 29; refine (awake03_any _).mono ?_; rintro e w' ⟨rfl, ⟨osj, dj, rfl⟩⟩) | (go_at_call 30; refine (short_any p oo ob oc bc _).mono ?_; rintro e w' ⟨rfl, ⟨osj, dj, rfl⟩⟩))
    all_goals (go_ret; exact ⟨ret_bool rfl, by ((try simp only [World.junk_junk, Array.append_assoc]); (repeat (first | with_reducible exact Junk.refl _ | with_reducible exact Junk.app _ _ _ _ _ | with_reducible exact Junk.app2 _ _ _ _ _ _ | with_reducible exact Junk.app3 _ _ _ _ _ _ _ | with_reducible exact Junk.app4 _ _ _ _ _ _ _ _ | with_reducible exact Junk.app5 _ _ _ _ _ _ _ _ _ | with_reducible apply Junk.alloc | with_reducible apply Junk.junk | with_reducible apply Junk.drew | with_reducible apply Junk.drewN)))⟩)
  | true =>
    obtain ⟨s1, s2⟩ := shortB_true hs
    cases hx0 : (x == 0) with
    | true =>
      go_enter Try.func6, Try.ntmps6
      go_wp2_with (first | (go_at_call 29; refine (awake03_any _).mono ?_; rintro e w' ⟨rfl, ⟨osj, dj, rfl⟩⟩) | (go_at_call 30; refine (short_any p oo ob oc bc _).mono ?_; rintro e w' ⟨rfl, ⟨osj, dj, rfl⟩⟩))
      all_goals (go_ret; exact ⟨ret_bool rfl, by ((try simp only [World.junk_junk, Array.append_assoc]); (repeat (first | with_reducible exact Junk.refl _ | with_reducible exact Junk.app _ _ _ _ _ | with_reducible exact Junk.app2 _ _ _ _ _ _ | with_reducible exact Junk.app3 _ _ _ _ _ _ _ | with_reducible exact Junk.app4 _ _ _ _ _ _ _ _ | with_reducible exact Junk.app5 _ _ _ _ _ _ _ _ _ | with_reducible apply Junk.alloc | with_reducible apply Junk.junk | with_reducible apply Junk.drew | with_reducible apply Junk.drewN)))⟩)
    | false =>
      cases hm : mayB p with
      | false =>
        go_enter Try.func6, Try.ntmps6
        go_wp2_with (first | (go_at_call 29; refine (awake03_any _).mono ?_; rintro e w' ⟨rfl, ⟨osj, dj, rfl⟩⟩) | (go_at_call 30; refine (short_any p oo ob oc bc _).mono ?_; rintro e w' ⟨rfl, ⟨osj, dj, rfl⟩⟩) | (go_at_call 31; refine (ipPut_any p oo ob oc bc _ (by omega) (by omega) (HP.out.on (by ((try simp only [World.junk_junk, Array.append_assoc]); (repeat (first | with_reducible exact Junk.refl _ | with_reducible exact Junk.app _ _ _ _ _ | with_reducible exact Junk.app2 _ _ _ _ _ _ | with_reducible exact Junk.app3 _ _ _ _ _ _ _ | with_reducible exact Junk.app4 _ _ _ _ _ _ _ _ | with_reducible exact Junk.app5 _ _ _ _ _ _ _ _ _ | with_reducible apply Junk.alloc | with_reducible apply Junk.junk | with_reducible apply Junk.drew | with_reducible apply Junk.drewN)))))).mono ?_; intro e w' hp; obtain ⟨rfl, ⟨osj2, dj2, rfl⟩⟩ := hp.bad hm; clear hp))
        all_goals (go_ret; exact ⟨ret_bool rfl, by ((try simp only [World.junk_junk, Array.append_assoc]); (repeat (first | with_reducible exact Junk.refl _ | with_reducible exact Junk.app _ _ _ _ _ | with_reducible exact Junk.app2 _ _ _ _ _ _ | with_reducible exact Junk.app3 _ _ _ _ _ _ _ | with_reducible exact Junk.app4 _ _ _ _ _ _ _ _ | with_reducible exact Junk.app5 _ _ _ _ _ _ _ _ _ | with_reducible apply Junk.alloc | with_reducible apply Junk.junk | with_reducible apply Junk.drew | with_reducible apply Junk.drewN)))⟩)
      | true =>
        by_cases h0 : at_ < 0
        case pos =>
          go_enter Try.func6, Try.ntmps6
          go_wp2_with (first | (go_at_call 29; refine (awake03_any _).mono ?_; rintro e w' ⟨rfl, ⟨osj, dj, rfl⟩⟩) | (go_at_call 30; refine (short_any p oo ob oc bc _).mono ?_; rintro e w' ⟨rfl, ⟨osj, dj, rfl⟩⟩) | (go_at_call 31; refine (ipPut_any p oo ob oc bc _ (by omega) (by omega) (HP.out.on (by ((try simp only [World.junk_junk, Array.append_assoc]); (repeat (first | with_reducible exact Junk.refl _ | with_reducible exact Junk.app _ _ _ _ _ | with_reducible exact Junk.app2 _ _ _ _ _ _ | with_reducible exact Junk.app3 _ _ _ _ _ _ _ | with_reducible exact Junk.app4 _ _ _ _ _ _ _ _ | with_reducible exact Junk.app5 _ _ _ _ _ _ _ _ _ | with_reducible apply Junk.alloc | with_reducible apply Junk.junk | with_reducible apply Junk.drew | with_reducible apply Junk.drewN)))))).mono ?_; intro e w' hp; obtain ⟨o1, c1, rfl, ⟨osj2, dj2, rfl⟩, _, _⟩ := hp.ok hm; clear hp))
          all_goals (go_ret; exact ⟨ret_bool rfl, by ((try simp only [World.junk_junk, Array.append_assoc]); (repeat (first | with_reducible exact Junk.refl _ | with_reducible exact Junk.app _ _ _ _ _ | with_reducible exact Junk.app2 _ _ _ _ _ _ | with_reducible exact Junk.app3 _ _ _ _ _ _ _ | with_reducible exact Junk.app4 _ _ _ _ _ _ _ _ | with_reducible exact Junk.app5 _ _ _ _ _ _ _ _ _ | with_reducible apply Junk.alloc | with_reducible apply Junk.junk | with_reducible apply Junk.drew | with_reducible apply Junk.drewN)))⟩)
        by_cases h1 : 20 + (p.ol : Int) ≤ at_
        case pos =>
          go_enter Try.func6, Try.ntmps6
          go_wp2_with (first | (go_at_call 29; refine (awake03_any _).mono ?_; rintro e w' ⟨rfl, ⟨osj, dj, rfl⟩⟩) | (go_at_call 30; refine (short_any p oo ob oc bc _).mono ?_; rintro e w' ⟨rfl, ⟨osj, dj, rfl⟩⟩) | (go_at_call 31; refine (ipPut_any p oo ob oc bc _ (by omega) (by omega) (HP.out.on (by ((try simp only [World.junk_junk, Array.append_assoc]); (repeat (first | with_reducible exact Junk.refl _ | with_reducible exact Junk.app _ _ _ _ _ | with_reducible exact Junk.app2 _ _ _ _ _ _ | with_reducible exact Junk.app3 _ _ _ _ _ _ _ | with_reducible exact Junk.app4 _ _ _ _ _ _ _ _ | with_reducible exact Junk.app5 _ _ _ _ _ _ _ _ _ | with_reducible apply Junk.alloc | with_reducible apply Junk.junk | with_reducible apply Junk.drew | with_reducible apply Junk.drewN)))))).mono ?_; intro e w' hp; obtain ⟨o1, c1, rfl, ⟨osj2, dj2, rfl⟩, _, _⟩ := hp.ok hm; clear hp))
          all_goals (go_ret; exact ⟨ret_bool rfl, by ((try simp only [World.junk_junk, Array.append_assoc]); (repeat (first | with_reducible exact Junk.refl _ | with_reducible exact Junk.app _ _ _ _ _ | with_reducible exact Junk.app2 _ _ _ _ _ _ | with_reducible exact Junk.app3 _ _ _ _ _ _ _ | with_reducible exact Junk.app4 _ _ _ _ _ _ _ _ | with_reducible exact Junk.app5 _ _ _ _ _ _ _ _ _ | with_reducible apply Junk.alloc | with_reducible apply Junk.junk | with_reducible apply Junk.drew | with_reducible apply Junk.drewN)))⟩)
        obtain ⟨k, rfl⟩ := Int.eq_ofNat_of_zero_le (show 0 ≤ at_ by omega)
        have M := may_iff.1 hm
        have hk : k < 20 + p.ol := by omega
        have hkb := pktB_byte M HP.out.src HP.out.dst HP.out.opts.byte HP.out.body.byte k (by omega)
        have hx1 : x ≠ 0 := by simpa using hx0
        have hne := xorI_ne (a := pktB p k) (x := x) hkb.1 (by omega)
        have hvb := xorI_bd hkb hx
        have hxor := u8_xorI (pktB p k) x hkb hx
        have hol := M.ol
        by_cases hz : parseErr (upd (pktB p) k (xorI (pktB p k) x)) (20 + p.ol + p.bl) = 0
        · by_cases hk0 : k = 0
          · subst hk0
            have := spoilt_zero M hvb hne hz
            exact spoilt_ok p oo ob oc bc w x _ _ 0 hx hx0 HP hs hm s1 s2 (Lib.hid rfl) (by omega) hk (by omega) hxor hvb rfl (Lib.hid hz) (by rw [bne_iff_ne]; omega)
          · exact absurd hz (spoilt_err M HP.out.src HP.out.dst HP.out.opts.byte HP.out.body.byte hvb (by omega) hk hne)
        · exact spoilt_bad p oo ob oc bc w x _ _ k hx hx0 HP hs hm s1 s2 (Lib.hid rfl) (by omega) hk (by omega) hxor hvb (by rw [bne_iff_ne]; exact hz) (Lib.hid hz)

theorem ipSpoilt_core (W : World) (base : Nat) (v0 v1 v2 : Value) (a0 : Arg Try.prog W base 45 v0) (a1 : Arg Try.prog W base 3 v1) (a2 : Arg Try.prog W base 5 v2) :
    Calls Try.prog 6 #[v0, v1, v2] W fun e W' => e = .returned (.bool true) ∧ Junk W W' := by
  obtain ⟨cs_p, rfl, h_p⟩ := a0.struct Try.underlying45
  obtain ⟨hl_p, hf_p⟩ := h_p.fields1 Try.underlying45 (by kernel_rfl) (n := 11) (by kernel_rfl)
  obtain ⟨p_TOS, lp0, e_p0⟩ : ∃ x l, cs_p = x :: l := by cases cs_p with | nil => simp at hl_p | cons x l => exact ⟨x, l, rfl⟩
  subst e_p0
  obtain ⟨p_ID, lp1, e_p1⟩ : ∃ x l, lp0 = x :: l := by cases lp0 with | nil => simp at hl_p | cons x l => exact ⟨x, l, rfl⟩
  subst e_p1
  obtain ⟨p_DF, lp2, e_p2⟩ : ∃ x l, lp1 = x :: l := by cases lp1 with | nil => simp at hl_p | cons x l => exact ⟨x, l, rfl⟩
  subst e_p2
  obtain ⟨p_MF, lp3, e_p3⟩ : ∃ x l, lp2 = x :: l := by cases lp2 with | nil => simp at hl_p | cons x l => exact ⟨x, l, rfl⟩
  subst e_p3
  obtain ⟨p_Off, lp4, e_p4⟩ : ∃ x l, lp3 = x :: l := by cases lp3 with | nil => simp at hl_p | cons x l => exact ⟨x, l, rfl⟩
  subst e_p4
  obtain ⟨p_TTL, lp5, e_p5⟩ : ∃ x l, lp4 = x :: l := by cases lp4 with | nil => simp at hl_p | cons x l => exact ⟨x, l, rfl⟩
  subst e_p5
  obtain ⟨p_Proto, lp6, e_p6⟩ : ∃ x l, lp5 = x :: l := by cases lp5 with | nil => simp at hl_p | cons x l => exact ⟨x, l, rfl⟩
  subst e_p6
  obtain ⟨p_Src, lp7, e_p7⟩ : ∃ x l, lp6 = x :: l := by cases lp6 with | nil => simp at hl_p | cons x l => exact ⟨x, l, rfl⟩
  subst e_p7
  obtain ⟨p_Dst, lp8, e_p8⟩ : ∃ x l, lp7 = x :: l := by cases lp7 with | nil => simp at hl_p | cons x l => exact ⟨x, l, rfl⟩
  subst e_p8
  obtain ⟨p_Opts, lp9, e_p9⟩ : ∃ x l, lp8 = x :: l := by cases lp8 with | nil => simp at hl_p | cons x l => exact ⟨x, l, rfl⟩
  subst e_p9
  obtain ⟨p_Body, lp10, e_p10⟩ : ∃ x l, lp9 = x :: l := by cases lp9 with | nil => simp at hl_p | cons x l => exact ⟨x, l, rfl⟩
  subst e_p10
  obtain rfl : lp10 = [] := by simpa using hl_p
  have f_p0 : Cells Try.prog W 3 [p_TOS] := hf_p 0 _ rfl
  have f_p1 : Cells Try.prog W 3 [p_ID] := hf_p 1 _ rfl
  have f_p2 : Cells Try.prog W 4 [p_DF] := hf_p 2 _ rfl
  have f_p3 : Cells Try.prog W 4 [p_MF] := hf_p 3 _ rfl
  have f_p4 : Cells Try.prog W 3 [p_Off] := hf_p 4 _ rfl
  have f_p5 : Cells Try.prog W 3 [p_TTL] := hf_p 5 _ rfl
  have f_p6 : Cells Try.prog W 3 [p_Proto] := hf_p 6 _ rfl
  have f_p7 : Cells Try.prog W 24 [p_Src] := hf_p 7 _ rfl
  have f_p8 : Cells Try.prog W 24 [p_Dst] := hf_p 8 _ rfl
  have f_p9 : Cells Try.prog W 22 [p_Opts] := hf_p 9 _ rfl
  have f_p10 : Cells Try.prog W 22 [p_Body] := hf_p 10 _ rfl
  clear hf_p hl_p
  obtain ⟨p_TOS, e_p_TOS, w_p_TOS⟩ := f_p0.int Try.underlying3; cases e_p_TOS
  obtain ⟨p_ID, e_p_ID, w_p_ID⟩ := f_p1.int Try.underlying3; cases e_p_ID
  obtain ⟨p_DF, e_p_DF⟩ := f_p2.bool Try.underlying4; cases e_p_DF
  obtain ⟨p_MF, e_p_MF⟩ := f_p3.bool Try.underlying4; cases e_p_MF
  obtain ⟨p_Off, e_p_Off, w_p_Off⟩ := f_p4.int Try.underlying3; cases e_p_Off
  obtain ⟨p_TTL, e_p_TTL, w_p_TTL⟩ := f_p5.int Try.underlying3; cases e_p_TTL
  obtain ⟨p_Proto, e_p_Proto, w_p_Proto⟩ := f_p6.int Try.underlying3; cases e_p_Proto
  obtain ⟨p_Src, e_p_Src, w_p_Src⟩ := f_p7.int Try.underlying24; cases e_p_Src
  obtain ⟨p_Dst, e_p_Dst, w_p_Dst⟩ := f_p8.int Try.underlying24; cases e_p_Dst
  obtain ⟨p_Opts_a, p_Opts_l, p_Opts_c, p_Opts, e_p_Opts, lc_p_Opts, cm_p_Opts, S_p_Opts, w_p_Opts⟩ := f_p9.ints Try.underlying22 Try.underlying5 (by kernel_rfl); cases e_p_Opts
  obtain ⟨p_Body_a, p_Body_l, p_Body_c, p_Body, e_p_Body, lc_p_Body, cm_p_Body, S_p_Body, w_p_Body⟩ := f_p10.ints Try.underlying22 Try.underlying5 (by kernel_rfl); cases e_p_Body
  obtain ⟨at_, rfl, w_at_⟩ := a1.int Try.underlying3
  obtain ⟨x, rfl, w_x⟩ := a2.int Try.underlying5
  have hlm : maxLen = 9223372036854775807 := rfl
  exact ipSpoilt_walk ⟨p_TOS, p_ID, p_DF, p_MF, p_Off, p_TTL, p_Proto, p_Src, p_Dst, p_Opts_l, p_Opts, p_Body_l, p_Body⟩ p_Opts_a p_Body_a p_Opts_c p_Body_c W at_ x (bounds_u8 w_x) ⟨⟨S_p_Opts, fun i hi => bounds_u8 (w_p_Opts i hi), Cells.nil_slice Try.underlying22 f_p9, lc_p_Opts, cm_p_Opts⟩, ⟨S_p_Body, fun i hi => bounds_u8 (w_p_Body i hi), Cells.nil_slice Try.underlying22 f_p10, lc_p_Body, cm_p_Body⟩, bounds_u32 w_p_Src, bounds_u32 w_p_Dst⟩
set_option maxRecDepth 100000 in
theorem ipSpoilt_lifted (os : Os) (started : os.Started) (H : Type) (enc : TypeId × Value → H) :
    ReturnsInHanded {} Try.checked os 6 .any (Rows.ipSpoiltSpec.pre6 enc Try.prog Try.f6 Rows.ipSpoiltRow.domain false) (Rows.ipSpoiltSpec.post enc Try.prog Try.f6 false true false false) := by
  refine returnsInHanded_of_change (C := Try.checked) (by kernel_rfl) started (by kernel_rfl) Try.func6
    (ChangeSpec.witness6 (enc := enc) (C := Try.checked) false ⟨#[], #[.agg #[.int .i64 0, .int .i64 0, .bool false, .bool false, .int .i64 0, .int .i64 0, .int .i64 0, .int .u32 0, .int .u32 0, .slice none 0 0, .slice none 0 0], .int .i64 0, .int .u8 0], []⟩ 8 (by kernel_rfl) (by kernel_rfl) (by kernel_rfl) (by kernel_rfl)) ?_
  intro W base args ds gs before hval hW _ _
  obtain ⟨p, q, hA, _, _, _, _⟩ := id hW
  have hargs : Args Try.prog W base Try.f6.params.toList args.toList := args_of (fun j t v h1 h2 => hval j t v (by simpa using h1) (by simpa using h2)) hA
  rw [Try.params6] at hargs
  obtain ⟨v0, l0, e0, a0, r0⟩ := args_cons hargs
  obtain ⟨v1, l1, e1, a1, r1⟩ := args_cons r0
  obtain ⟨v2, l2, e2, a2, r2⟩ := args_cons r1
  have hn := args_nil r2
  have he : args = #[v0, v1, v2] := by
    apply Array.ext'
    simp only [e0, e1, e2, hn]
  subst he
  exact (ipSpoilt_core W base v0 v1 v2 a0 a1 a2).mono fun e W' ⟨he, hj⟩ => ⟨_, he, post_true (tb := 4) (by kernel_rfl) (by kernel_rfl) rfl (by kernel_rfl) rfl hW (fun hg hl => by
    subst hg
    match ds, hl with
    | [_, _, _], _ => exact ⟨rfl, rfl, rfl⟩) hj⟩
theorem ipSpoilt_holds : Rows.IpSpoiltSaid :=
  OpenClaim.holds_of_wide 6 Try.f6 rfl rfl rfl rfl rfl rfl rfl ⟨rfl, rfl, rfl, rfl, rfl⟩ rfl rfl rfl rfl rfl (by kernel_rfl) Try.func6 (by kernel_rfl)
    (of_decide_eq_true (by kernel_rfl)) (by unfold Func.isWrapper; rw [if_neg (of_decide_eq_false (by kernel_rfl))]; exact ⟨rfl, rfl⟩)
    (fun os started H enc _ => ipSpoilt_lifted os started H enc)

end Go.Proofs.Yteegeckkfdeccaa
