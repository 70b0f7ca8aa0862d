/- The law TcpSpoilt: a segment of which one byte was changed, or one of whose addresses is another by one byte, is told to be none. -/
import Derived.Test.YtjmofjcloebgmaaTcpL
set_option linter.unusedVariables false
set_option maxRecDepth 100000
set_option linter.unusedSimpArgs false
namespace Go.Proofs.Ytjmofjcloebgmaa
open Go.RowKit
/-- A byte, changed. -/
def txor (a x : Int) : Int := ((a.toNat ^^^ x.toNat : Nat) : Int)
theorem txor_bd {a x : Int} (ha : 0 ≤ a ∧ a ≤ 255) (hx : 0 ≤ x ∧ x ≤ 255) : 0 ≤ txor a x ∧ txor a x ≤ 255 := by
  have : a.toNat ^^^ x.toNat < 2 ^ 8 := Nat.xor_lt_two_pow (by omega) (by omega)
  unfold txor; omega
theorem txor_ne {a x : Int} (ha : 0 ≤ a) (hx : 0 < x) : txor a x ≠ a := by
  intro h
  unfold txor at h
  have h1 : a.toNat ^^^ x.toNat = a.toNat := by omega
  have h2 : a.toNat ^^^ (a.toNat ^^^ x.toNat) = a.toNat ^^^ a.toNat := by rw [h1]
  rw [← Nat.xor_assoc, Nat.xor_self, Nat.zero_xor] at h2
  omega
theorem txor_back {a x : Int} (ha : 0 ≤ a) : txor (txor a x) x = a := by
  unfold txor
  rw [Int.toNat_natCast, Nat.xor_assoc, Nat.xor_self, Nat.xor_zero]
  omega
theorem u8_txor (a x : Int) (ha : 0 ≤ a ∧ a ≤ 255) (hx : 0 ≤ x ∧ x ≤ 255) : bits .xor .u8 a x = txor a x := u8_xor a x ha.1 (by omega) hx.1 (by omega)
/-- A cell that may be written. -/
structure Cel (W : World) (g k : Nat) (v : Value) : Prop where
  lt : g < W.heap.size
  c : W.cell? ⟨g, k, none⟩ = some v
  f : W.frozen? ⟨g, k, none⟩ = false
theorem Cel.on {W W' : World} {g k : Nat} {v : Value} (h : Cel W g k v) (hj : Junk W W') : Cel W' g k v := by
  obtain ⟨os, d, rfl⟩ := hj
  exact ⟨by have := h.lt; simp; omega, by rw [World.cell?_junk _ _ _ _ _ h.lt]; exact h.c, by rw [World.frozen?_junk _ _ _ _ _ h.lt]; exact h.f⟩
theorem Cel.set {W : World} {g k : Nat} {v : Value} (h : Cel W g k v) (u : Value) : Cel (W.setCell ⟨g, k, none⟩ u) g k u := by
  refine ⟨by have := h.lt; simpa using this, ?_, ?_⟩
  · have := World.cell?_setCell_same W ⟨g, k, none⟩ u h.c
    simpa using this
  · rw [World.frozen?_setCell]; exact h.f
set_option maxHeartbeats 4000000 in
theorem tcpSpoilt_walk (src dst at_ x : Int) (t : Tc) (F : List Ot) (N : Nat) (oo ob : Option Addr) (co cb : Nat) (w : World) (h1 : 0 ≤ src ∧ src ≤ 4294967295) (h2 : 0 ≤ dst ∧ dst ≤ 4294967295) (hx : 0 ≤ x ∧ x ≤ 255) (hF : F.map Ot.d = t.os) (hFN : F.length = N) (hN : N ≤ 9223372036854775807) (hP : TcAt w F oo co t.bl t.body ob cb) (hW : TcWf t) :
    Calls Try.prog 4 #[.int .u32 src, .int .u32 dst, .agg #[.int .i64 t.sport, .int .i64 t.dport, .int .u32 t.seq, .int .u32 t.ack, .int .i64 t.flags, .int .i64 t.win, .int .i64 t.urg, .slice oo N co, .slice ob t.bl cb], .int .i64 at_, .int .u8 x] w fun e w' => e = .returned (.bool true) ∧ Junk w w' := by
  have HP := Lib.hid hP
  have HFD := Lib.hid hF
  have HFN := Lib.hid hFN
  have HW := Lib.hid hW
  cases hs : tcShort t with
  | false =>
    clear hP hF hFN hW
    go_enter Try.func4, Try.ntmps4
    go_wp2_with (first | (go_at_call 13; refine (awake04_any _).mono ?_; rintro e w' ⟨rfl, ⟨osj, dj, rfl⟩⟩) | (go_at_call 17; refine (tshort_any t F N oo ob co cb _ HFD.out HFN.out hN (HP.out.on (by ((try simp only [World.junk_junk, Array.append_assoc]); (repeat (first | with_reducible exact Junk.refl _ | with_reducible exact Junk.app _ _ _ _ _ | with_reducible exact Junk.app2 _ _ _ _ _ _ | with_reducible exact Junk.app3 _ _ _ _ _ _ _ | with_reducible exact Junk.app4 _ _ _ _ _ _ _ _ | with_reducible exact Junk.app5 _ _ _ _ _ _ _ _ _ | with_reducible apply Junk.alloc | with_reducible apply Junk.junk | with_reducible apply Junk.drew | with_reducible apply Junk.drewN)))))).mono ?_; rintro e w' ⟨rfl, ⟨osj, dj, rfl⟩⟩))
    all_goals (go_ret; exact ⟨ret_bool rfl, by ((try simp only [World.junk_junk, Array.append_assoc]); (repeat (first | with_reducible exact Junk.refl _ | with_reducible exact Junk.app _ _ _ _ _ | with_reducible exact Junk.app2 _ _ _ _ _ _ | with_reducible exact Junk.app3 _ _ _ _ _ _ _ | with_reducible exact Junk.app4 _ _ _ _ _ _ _ _ | with_reducible exact Junk.app5 _ _ _ _ _ _ _ _ _ | with_reducible apply Junk.alloc | with_reducible apply Junk.junk | with_reducible apply Junk.drew | with_reducible apply Junk.drewN)))⟩)
  | true =>
    obtain ⟨s1, s2, s3⟩ := tcShort_true hs
    have hN60 : N ≤ 60 := by rw [← hFN, ← List.length_map (f := Ot.d), hF]; exact s1
    have HL := Lib.hid (show ∀ f ∈ F, f.l ≤ 100000000 from fun f hf => by have := s3 f.d (by rw [← hF]; exact List.mem_map.2 ⟨f, hf, rfl⟩); have e : f.d.l = f.l := rfl; omega)
    clear hP hF hFN hW s1 s3
    cases hx0 : (x == 0) with
    | true =>
      go_enter Try.func4, Try.ntmps4
      go_wp2_with (first | (go_at_call 13; refine (awake04_any _).mono ?_; rintro e w' ⟨rfl, ⟨osj, dj, rfl⟩⟩) | (go_at_call 17; refine (tshort_any t F N oo ob co cb _ HFD.out HFN.out hN (HP.out.on (by ((try simp only [World.junk_junk, Array.append_assoc]); (repeat (first | with_reducible exact Junk.refl _ | with_reducible exact Junk.app _ _ _ _ _ | with_reducible exact Junk.app2 _ _ _ _ _ _ | with_reducible exact Junk.app3 _ _ _ _ _ _ _ | with_reducible exact Junk.app4 _ _ _ _ _ _ _ _ | with_reducible exact Junk.app5 _ _ _ _ _ _ _ _ _ | with_reducible apply Junk.alloc | with_reducible apply Junk.junk | with_reducible apply Junk.drew | with_reducible apply Junk.drewN)))))).mono ?_; rintro e w' ⟨rfl, ⟨osj, dj, rfl⟩⟩))
      all_goals (go_ret; exact ⟨ret_bool rfl, by ((try simp only [World.junk_junk, Array.append_assoc]); (repeat (first | with_reducible exact Junk.refl _ | with_reducible exact Junk.app _ _ _ _ _ | with_reducible exact Junk.app2 _ _ _ _ _ _ | with_reducible exact Junk.app3 _ _ _ _ _ _ _ | with_reducible exact Junk.app4 _ _ _ _ _ _ _ _ | with_reducible exact Junk.app5 _ _ _ _ _ _ _ _ _ | with_reducible apply Junk.alloc | with_reducible apply Junk.junk | with_reducible apply Junk.drew | with_reducible apply Junk.drewN)))⟩)
    | false =>
    cases hm : tcMay t with
    | false =>
      go_enter Try.func4, Try.ntmps4
      go_wp2_with (first | (go_at_call 13; refine (awake04_any _).mono ?_; rintro e w' ⟨rfl, ⟨osj, dj, rfl⟩⟩) | (go_at_call 17; refine (tshort_any t F N oo ob co cb _ HFD.out HFN.out hN (HP.out.on (by ((try simp only [World.junk_junk, Array.append_assoc]); (repeat (first | with_reducible exact Junk.refl _ | with_reducible exact Junk.app _ _ _ _ _ | with_reducible exact Junk.app2 _ _ _ _ _ _ | with_reducible exact Junk.app3 _ _ _ _ _ _ _ | with_reducible exact Junk.app4 _ _ _ _ _ _ _ _ | with_reducible exact Junk.app5 _ _ _ _ _ _ _ _ _ | with_reducible apply Junk.alloc | with_reducible apply Junk.junk | with_reducible apply Junk.drew | with_reducible apply Junk.drewN)))))).mono ?_; rintro e w' ⟨rfl, ⟨osj, dj, rfl⟩⟩) | (go_at_call 18; refine (tput_any src dst t F N oo ob co cb _ h1 h2 HFD.out HFN.out (by omega) (HP.out.on (by ((try simp only [World.junk_junk, Array.append_assoc]); (repeat (first | with_reducible exact Junk.refl _ | with_reducible exact Junk.app _ _ _ _ _ | with_reducible exact Junk.app2 _ _ _ _ _ _ | with_reducible exact Junk.app3 _ _ _ _ _ _ _ | with_reducible exact Junk.app4 _ _ _ _ _ _ _ _ | with_reducible exact Junk.app5 _ _ _ _ _ _ _ _ _ | with_reducible apply Junk.alloc | with_reducible apply Junk.junk | with_reducible apply Junk.drew | with_reducible apply Junk.drewN))))) HL.out (by omega) HW.out).mono ?_; intro e w' hp; obtain ⟨rfl, ⟨osp, dp, rfl⟩⟩ := hp.bad hm; clear hp))
      all_goals (go_ret; exact ⟨ret_bool rfl, by ((try simp only [World.junk_junk, Array.append_assoc]); (repeat (first | with_reducible exact Junk.refl _ | with_reducible exact Junk.app _ _ _ _ _ | with_reducible exact Junk.app2 _ _ _ _ _ _ | with_reducible exact Junk.app3 _ _ _ _ _ _ _ | with_reducible exact Junk.app4 _ _ _ _ _ _ _ _ | with_reducible exact Junk.app5 _ _ _ _ _ _ _ _ _ | with_reducible apply Junk.alloc | with_reducible apply Junk.junk | with_reducible apply Junk.drew | with_reducible apply Junk.drewN)))⟩)
    | true =>
      have M := tcMay_iff.1 hm
      have hS := tcSz_le M
      have hfit := M.fit
      obtain ⟨L, hL⟩ : ∃ L, tcSz t + t.bl = L := ⟨_, rfl⟩
      have EL := Lib.hid hL
      have hL20 : 20 ≤ L := by omega
      have hL6 : L ≤ 65535 := by omega
      by_cases h0 : at_ < 0
      case pos =>
        clear hS hfit hL M
        go_enter Try.func4, Try.ntmps4
        go_wp2_with (first | (go_at_call 13; refine (awake04_any _).mono ?_; rintro e w' ⟨rfl, ⟨osj, dj, rfl⟩⟩) | (go_at_call 17; refine (tshort_any t F N oo ob co cb _ HFD.out HFN.out hN (HP.out.on (by ((try simp only [World.junk_junk, Array.append_assoc]); (repeat (first | with_reducible exact Junk.refl _ | with_reducible exact Junk.app _ _ _ _ _ | with_reducible exact Junk.app2 _ _ _ _ _ _ | with_reducible exact Junk.app3 _ _ _ _ _ _ _ | with_reducible exact Junk.app4 _ _ _ _ _ _ _ _ | with_reducible exact Junk.app5 _ _ _ _ _ _ _ _ _ | with_reducible apply Junk.alloc | with_reducible apply Junk.junk | with_reducible apply Junk.drew | with_reducible apply Junk.drewN)))))).mono ?_; rintro e w' ⟨rfl, ⟨osj, dj, rfl⟩⟩) | (go_at_call 18; (try simp only [World.junk_junk]); refine calls_gen (fun osA dA => ?_); refine (tput_any src dst t F N oo ob co cb _ h1 h2 HFD.out HFN.out (by omega) (HP.out.on (by ((try simp only [World.junk_junk, Array.append_assoc]); (repeat (first | with_reducible exact Junk.refl _ | with_reducible exact Junk.app _ _ _ _ _ | with_reducible exact Junk.app2 _ _ _ _ _ _ | with_reducible exact Junk.app3 _ _ _ _ _ _ _ | with_reducible exact Junk.app4 _ _ _ _ _ _ _ _ | with_reducible exact Junk.app5 _ _ _ _ _ _ _ _ _ | with_reducible apply Junk.alloc | with_reducible apply Junk.junk | with_reducible apply Junk.drew | with_reducible apply Junk.drewN))))) HL.out (by omega) HW.out).mono ?_; intro e w' hp; obtain ⟨o1, c1, rfl, ⟨osp, dp, rfl⟩, hb, ho⟩ := hp.ok hm; clear hp; rw [EL.out] at hb ho ⊢; obtain ⟨g, rfl, hgB, hgS, hcells⟩ := own_some ho (by omega); simp only [World.junk_junk] at hb hgS hcells ⊢; have Hb := Lib.hid hb; have Hcells := Lib.hid hcells; clear hb ho hcells))
        all_goals (go_ret; exact ⟨ret_bool rfl, by ((try simp only [World.junk_junk, Array.append_assoc]); (repeat (first | with_reducible exact Junk.refl _ | with_reducible exact Junk.app _ _ _ _ _ | with_reducible exact Junk.app2 _ _ _ _ _ _ | with_reducible exact Junk.app3 _ _ _ _ _ _ _ | with_reducible exact Junk.app4 _ _ _ _ _ _ _ _ | with_reducible exact Junk.app5 _ _ _ _ _ _ _ _ _ | with_reducible apply Junk.alloc | with_reducible apply Junk.junk | with_reducible apply Junk.drew | with_reducible apply Junk.drewN)))⟩)
      by_cases h3 : (L : Int) ≤ at_
      case pos =>
        clear hS hfit hL M
        go_enter Try.func4, Try.ntmps4
        go_wp2_with (first | (go_at_call 13; refine (awake04_any _).mono ?_; rintro e w' ⟨rfl, ⟨osj, dj, rfl⟩⟩) | (go_at_call 17; refine (tshort_any t F N oo ob co cb _ HFD.out HFN.out hN (HP.out.on (by ((try simp only [World.junk_junk, Array.append_assoc]); (repeat (first | with_reducible exact Junk.refl _ | with_reducible exact Junk.app _ _ _ _ _ | with_reducible exact Junk.app2 _ _ _ _ _ _ | with_reducible exact Junk.app3 _ _ _ _ _ _ _ | with_reducible exact Junk.app4 _ _ _ _ _ _ _ _ | with_reducible exact Junk.app5 _ _ _ _ _ _ _ _ _ | with_reducible apply Junk.alloc | with_reducible apply Junk.junk | with_reducible apply Junk.drew | with_reducible apply Junk.drewN)))))).mono ?_; rintro e w' ⟨rfl, ⟨osj, dj, rfl⟩⟩) | (go_at_call 18; (try simp only [World.junk_junk]); refine calls_gen (fun osA dA => ?_); refine (tput_any src dst t F N oo ob co cb _ h1 h2 HFD.out HFN.out (by omega) (HP.out.on (by ((try simp only [World.junk_junk, Array.append_assoc]); (repeat (first | with_reducible exact Junk.refl _ | with_reducible exact Junk.app _ _ _ _ _ | with_reducible exact Junk.app2 _ _ _ _ _ _ | with_reducible exact Junk.app3 _ _ _ _ _ _ _ | with_reducible exact Junk.app4 _ _ _ _ _ _ _ _ | with_reducible exact Junk.app5 _ _ _ _ _ _ _ _ _ | with_reducible apply Junk.alloc | with_reducible apply Junk.junk | with_reducible apply Junk.drew | with_reducible apply Junk.drewN))))) HL.out (by omega) HW.out).mono ?_; intro e w' hp; obtain ⟨o1, c1, rfl, ⟨osp, dp, rfl⟩, hb, ho⟩ := hp.ok hm; clear hp; rw [EL.out] at hb ho ⊢; obtain ⟨g, rfl, hgB, hgS, hcells⟩ := own_some ho (by omega); simp only [World.junk_junk] at hb hgS hcells ⊢; have Hb := Lib.hid hb; have Hcells := Lib.hid hcells; clear hb ho hcells))
        all_goals (go_ret; exact ⟨ret_bool rfl, by ((try simp only [World.junk_junk, Array.append_assoc]); (repeat (first | with_reducible exact Junk.refl _ | with_reducible exact Junk.app _ _ _ _ _ | with_reducible exact Junk.app2 _ _ _ _ _ _ | with_reducible exact Junk.app3 _ _ _ _ _ _ _ | with_reducible exact Junk.app4 _ _ _ _ _ _ _ _ | with_reducible exact Junk.app5 _ _ _ _ _ _ _ _ _ | with_reducible apply Junk.alloc | with_reducible apply Junk.junk | with_reducible apply Junk.drew | with_reducible apply Junk.drewN)))⟩)
      obtain ⟨k, rfl⟩ := Int.eq_ofNat_of_zero_le (show 0 ≤ at_ by omega)
      have hkL : k < L := by omega
      have hkL' : (k : Int) < (L : Int) := by omega
      have hbb := segB_byte M HW.out (segSum_bd h1 h2 M HW.out)
      have hx1 : x ≠ 0 := by simpa using hx0
      obtain ⟨y0, hy0⟩ : ∃ y, segOf src dst t k = y := ⟨_, rfl⟩
      have hyb : 0 ≤ y0 ∧ y0 ≤ 255 := by rw [← hy0]; exact hbb k (by omega)
      obtain ⟨v, hv⟩ : ∃ v, txor y0 x = v := ⟨_, rfl⟩
      have hvb : 0 ≤ v ∧ v ≤ 255 := by rw [← hv]; exact txor_bd hyb hx
      have hne : v ≠ segOf src dst t k := by rw [hy0, ← hv]; exact txor_ne hyb.1 (by omega)
      have hxor1 : bits .xor .u8 y0 x = v := by rw [u8_txor y0 x hyb hx, hv]
      have hxor2 : bits .xor .u8 v x = y0 := by rw [u8_txor v x hvb hx, ← hv]; exact txor_back hyb.1
      obtain ⟨s2', hs2⟩ : ∃ s, bits .xor .u32 src (x * 256) = s := ⟨_, rfl⟩
      have hm2 := xor_mid src.toNat x.toNat (by omega)
      have e2 : s2' = ((src.toNat ^^^ (x.toNat * 256) : Nat) : Int) := by
        rw [← hs2, u32_xor src (x * 256) h1.1 (by omega) (by omega) (by omega)]
        congr 2
        omega
      have hsb : 0 ≤ s2' ∧ s2' ≤ 4294967295 := by
        have : src.toNat ^^^ (x.toNat * 256) < 2 ^ 32 := Nat.xor_lt_two_pow (by omega) (by omega)
        omega
      have HZ1 := Lib.hid (show tcpErr src dst (upd (segOf src dst t) k v) L ≠ 0 by rw [← hL]; exact seg_spoilt h1 h2 M HW.out (by omega) hvb hne)
      have HZ2 := Lib.hid (show tcpErr s2' dst (segOf src dst t) L = 5 by rw [← hL]; exact seg_other h1 h2 hsb M HW.out (by omega) (by omega) (by have := hm2.2.2 (by omega); omega))
      have hz : (tcpErr src dst (upd (segOf src dst t) k v) L != 0) = true := by rw [bne_iff_ne]; exact HZ1.out
      have HY := Lib.hid hy0
      have HBB := Lib.hid (show ∀ i, i < L → 0 ≤ segOf src dst t i ∧ segOf src dst t i ≤ 255 by rw [← hL]; exact hbb)
      have wx := wrapk_u32 (x * 256) (by omega) (by omega)
      clear hS hfit hL M hbb hy0 hv hne hm2 e2 h0 h3 hx1
      go_enter Try.func4, Try.ntmps4
      go_upto_region 8 with (first | (go_at_call 13; refine (awake04_any _).mono ?_; rintro e w' ⟨rfl, ⟨osj, dj, rfl⟩⟩) | (go_at_call 17; refine (tshort_any t F N oo ob co cb _ HFD.out HFN.out hN (HP.out.on (by ((try simp only [World.junk_junk, Array.append_assoc]); (repeat (first | with_reducible exact Junk.refl _ | with_reducible exact Junk.app _ _ _ _ _ | with_reducible exact Junk.app2 _ _ _ _ _ _ | with_reducible exact Junk.app3 _ _ _ _ _ _ _ | with_reducible exact Junk.app4 _ _ _ _ _ _ _ _ | with_reducible exact Junk.app5 _ _ _ _ _ _ _ _ _ | with_reducible apply Junk.alloc | with_reducible apply Junk.junk | with_reducible apply Junk.drew | with_reducible apply Junk.drewN)))))).mono ?_; rintro e w' ⟨rfl, ⟨osj, dj, rfl⟩⟩) | (go_at_call 18; (try simp only [World.junk_junk]); refine calls_gen (fun osA dA => ?_); refine (tput_any src dst t F N oo ob co cb _ h1 h2 HFD.out HFN.out (by omega) (HP.out.on (by ((try simp only [World.junk_junk, Array.append_assoc]); (repeat (first | with_reducible exact Junk.refl _ | with_reducible exact Junk.app _ _ _ _ _ | with_reducible exact Junk.app2 _ _ _ _ _ _ | with_reducible exact Junk.app3 _ _ _ _ _ _ _ | with_reducible exact Junk.app4 _ _ _ _ _ _ _ _ | with_reducible exact Junk.app5 _ _ _ _ _ _ _ _ _ | with_reducible apply Junk.alloc | with_reducible apply Junk.junk | with_reducible apply Junk.drew | with_reducible apply Junk.drewN))))) HL.out (by omega) HW.out).mono ?_; intro e w' hp; obtain ⟨o1, c1, rfl, ⟨osp, dp, rfl⟩, hb, ho⟩ := hp.ok hm; clear hp; rw [EL.out] at hb ho ⊢; obtain ⟨g, rfl, hgB, hgS, hcells⟩ := own_some ho (by omega); simp only [World.junk_junk] at hb hgS hcells ⊢; have Hb := Lib.hid hb; have Hcells := Lib.hid hcells; clear hb ho hcells))
      have HC0 := Lib.hid (show Cel ((w.alloc (.cells #[.int .i64 t.sport, .int .i64 t.dport, .int .u32 t.seq, .int .u32 t.ack, .int .i64 t.flags, .int .i64 t.win, .int .i64 t.urg, .slice oo N co, .slice ob t.bl cb] 27)).junk (osA ++ osp) dp) g k (.int .u8 y0) by
        obtain ⟨a, b⟩ := Hcells.out k (.int .u8 y0) (by simp [byL, hkL, HY.out])
        exact ⟨hgS, a, b⟩)
      have HJ := Lib.hid (show Junk w ((w.alloc (.cells #[.int .i64 t.sport, .int .i64 t.dport, .int .u32 t.seq, .int .u32 t.ack, .int .i64 t.flags, .int .i64 t.win, .int .i64 t.urg, .slice oo N co, .slice ob t.bl cb] 27)).junk (osA ++ osp) dp) by ((try simp only [World.junk_junk, Array.append_assoc]); (repeat (first | with_reducible exact Junk.refl _ | with_reducible exact Junk.app _ _ _ _ _ | with_reducible exact Junk.app2 _ _ _ _ _ _ | with_reducible exact Junk.app3 _ _ _ _ _ _ _ | with_reducible exact Junk.app4 _ _ _ _ _ _ _ _ | with_reducible exact Junk.app5 _ _ _ _ _ _ _ _ _ | with_reducible apply Junk.alloc | with_reducible apply Junk.junk | with_reducible apply Junk.drew | with_reducible apply Junk.drewN))))
      generalize ((w.alloc (.cells #[.int .i64 t.sport, .int .i64 t.dport, .int .u32 t.seq, .int .u32 t.ack, .int .i64 t.flags, .int .i64 t.win, .int .i64 t.urg, .slice oo N co, .slice ob t.bl cb] 27)).junk (osA ++ osp) dp) = V at Hb HC0 HJ hgS ⊢
      clear Hcells
      have hcc := HC0.out.c
      have hcf := HC0.out.f
      have hB2 : Bts (V.setCell ⟨g, k, none⟩ (.int .u8 v)) (some ⟨g, 0, none⟩) L c1 (upd (segOf src dst t) k v) := bts_set0 Hb.out k v hvb
      have HB2 := Lib.hid hB2
      have HC1 := Lib.hid (HC0.out.set (.int .u8 v))
      have HJ1 := Lib.hid (show Junk w (V.setCell ⟨g, k, none⟩ (.int .u8 v)) from HJ.out.setCell (by show w.heap.size ≤ g; simp at hgB; omega) _)
      clear hB2
      go_upto_region 10 with (first | (go_at_call 14; refine (tparse_any src dst _ L c1 (upd (segOf src dst t) k v) _ h1 h2 (by omega) HB2.out).mono ?_; intro e w' hp; obtain ⟨rfl, ⟨osq, dq, rfl⟩⟩ := hp.bad HZ1.out; clear hp))
      have HC2 := Lib.hid (show Cel (((V.setCell ⟨g, k, none⟩ (.int .u8 v)).junk osq dq).alloc (.cells #[.int .i64 0, .int .i64 0, .int .u32 0, .int .u32 0, .int .i64 0, .int .i64 0, .int .i64 0, .slice none 0 0, .slice none 0 0] 27)) g k (.int .u8 v) from HC1.out.on (by ((try simp only [World.junk_junk, Array.append_assoc]); (repeat (first | with_reducible exact Junk.refl _ | with_reducible exact Junk.app _ _ _ _ _ | with_reducible exact Junk.app2 _ _ _ _ _ _ | with_reducible exact Junk.app3 _ _ _ _ _ _ _ | with_reducible exact Junk.app4 _ _ _ _ _ _ _ _ | with_reducible exact Junk.app5 _ _ _ _ _ _ _ _ _ | with_reducible apply Junk.alloc | with_reducible apply Junk.junk | with_reducible apply Junk.drew | with_reducible apply Junk.drewN)))))
      have HB3 := Lib.hid (show Bts (((V.setCell ⟨g, k, none⟩ (.int .u8 v)).junk osq dq).alloc (.cells #[.int .i64 0, .int .i64 0, .int .u32 0, .int .u32 0, .int .i64 0, .int .i64 0, .int .i64 0, .slice none 0 0, .slice none 0 0] 27)) (some ⟨g, 0, none⟩) L c1 (upd (segOf src dst t) k v) from HB2.out.on (by ((try simp only [World.junk_junk, Array.append_assoc]); (repeat (first | with_reducible exact Junk.refl _ | with_reducible exact Junk.app _ _ _ _ _ | with_reducible exact Junk.app2 _ _ _ _ _ _ | with_reducible exact Junk.app3 _ _ _ _ _ _ _ | with_reducible exact Junk.app4 _ _ _ _ _ _ _ _ | with_reducible exact Junk.app5 _ _ _ _ _ _ _ _ _ | with_reducible apply Junk.alloc | with_reducible apply Junk.junk | with_reducible apply Junk.drew | with_reducible apply Junk.drewN)))))
      have HJ2 := Lib.hid (show Junk w (((V.setCell ⟨g, k, none⟩ (.int .u8 v)).junk osq dq).alloc (.cells #[.int .i64 0, .int .i64 0, .int .u32 0, .int .u32 0, .int .i64 0, .int .i64 0, .int .i64 0, .slice none 0 0, .slice none 0 0] 27)) from HJ1.out.trans (by ((try simp only [World.junk_junk, Array.append_assoc]); (repeat (first | with_reducible exact Junk.refl _ | with_reducible exact Junk.app _ _ _ _ _ | with_reducible exact Junk.app2 _ _ _ _ _ _ | with_reducible exact Junk.app3 _ _ _ _ _ _ _ | with_reducible exact Junk.app4 _ _ _ _ _ _ _ _ | with_reducible exact Junk.app5 _ _ _ _ _ _ _ _ _ | with_reducible apply Junk.alloc | with_reducible apply Junk.junk | with_reducible apply Junk.drew | with_reducible apply Junk.drewN)))))
      clear hcc hcf hgS HC0 HC1 HJ HJ1 HB2 Hb
      generalize (((V.setCell ⟨g, k, none⟩ (.int .u8 v)).junk osq dq).alloc (.cells #[.int .i64 0, .int .i64 0, .int .u32 0, .int .u32 0, .int .i64 0, .int .i64 0, .int .i64 0, .slice none 0 0, .slice none 0 0] 27)) = V2 at HC2 HB3 HJ2 ⊢
      have hgS := HC2.out.lt
      have hcc := HC2.out.c
      have hcf := HC2.out.f
      have hseg : (fun q => if q = k then y0 else upd (segOf src dst t) k v q) = segOf src dst t := by
        funext q
        by_cases hq : q = k
        · rw [if_pos hq, hq]; exact HY.out.symm
        · rw [if_neg hq, upd, if_neg hq]
      have HB4 := Lib.hid (show Bts (V2.setCell ⟨g, k, none⟩ (.int .u8 y0)) (some ⟨g, 0, none⟩) L c1 (segOf src dst t) by have := bts_set0 HB3.out k y0 hyb; rw [hseg] at this; exact this)
      have HJ3 := Lib.hid (show Junk w (V2.setCell ⟨g, k, none⟩ (.int .u8 y0)) from HJ2.out.setCell (by show w.heap.size ≤ g; simp at hgB; omega) _)
      clear hseg
      go_wp2_with (first | (go_at_call 14; refine (tparse_any s2' dst _ L c1 (segOf src dst t) _ hsb h2 (by omega) HB4.out).mono ?_; intro e w' hp; obtain ⟨rfl, ⟨osr, dr, rfl⟩⟩ := hp.bad (by rw [HZ2.out]; decide); clear hp; rw [HZ2.out]))
      all_goals (go_ret; exact ⟨ret_bool rfl, HJ3.out.trans (by ((try simp only [World.junk_junk, Array.append_assoc]); (repeat (first | with_reducible exact Junk.refl _ | with_reducible exact Junk.app _ _ _ _ _ | with_reducible exact Junk.app2 _ _ _ _ _ _ | with_reducible exact Junk.app3 _ _ _ _ _ _ _ | with_reducible exact Junk.app4 _ _ _ _ _ _ _ _ | with_reducible exact Junk.app5 _ _ _ _ _ _ _ _ _ | with_reducible apply Junk.alloc | with_reducible apply Junk.junk | with_reducible apply Junk.drew | with_reducible apply Junk.drewN))))⟩)
theorem tcpSpoilt_core (W : World) (base : Nat) (v0 v1 v2 v3 v4 : Value) (a0 : Arg Try.prog W base 22 v0) (a1 : Arg Try.prog W base 22 v1) (a2 : Arg Try.prog W base 27 v2) (a3 : Arg Try.prog W base 3 v3) (a4 : Arg Try.prog W base 5 v4) :
    Calls Try.prog 4 #[v0, v1, v2, v3, v4] W fun e W' => e = .returned (.bool true) ∧ Junk W W' := by
  obtain ⟨src, rfl, w_src⟩ := a0.int Try.underlying22
  obtain ⟨dst, rfl, w_dst⟩ := a1.int Try.underlying22
  obtain ⟨cs, rfl, h_t⟩ := a2.struct Try.underlying27
  obtain ⟨at_, rfl, w_at⟩ := a3.int Try.underlying3
  obtain ⟨x, rfl, w_x⟩ := a4.int Try.underlying5
  obtain ⟨t, F, N, oo, ob, co, cb, hcs, hF, hFN, hN, hP, hW⟩ := tc_of h_t
  rw [hcs]
  exact tcpSpoilt_walk src dst at_ x t F N oo ob co cb W (bounds_u32 w_src) (bounds_u32 w_dst) (bounds_u8 w_x) hF hFN hN hP hW
set_option maxRecDepth 100000 in
theorem tcpSpoilt_lifted (os : Os) (started : os.Started) (H : Type) (enc : TypeId × Value → H) :
    ReturnsInHanded {} Try.checked os 4 .any (Rows.tcpSpoiltSpec.pre6 enc Try.prog Try.f4 Rows.tcpSpoiltRow.domain false) (Rows.tcpSpoiltSpec.post enc Try.prog Try.f4 false true false false) := by
  refine returnsInHanded_of_change (C := Try.checked) (by kernel_rfl) started (by kernel_rfl) Try.func4
    (ChangeSpec.witness6 (enc := enc) (C := Try.checked) false ⟨#[], #[.int .u32 0, .int .u32 0, .agg #[.int .i64 0, .int .i64 0, .int .u32 0, .int .u32 0, .int .i64 0, .int .i64 0, .int .i64 0, .slice none 0 0, .slice none 0 0], .int .i64 0, .int .u8 0], []⟩ 8 (by kernel_rfl) (by kernel_rfl) (by kernel_rfl) (by kernel_rfl)) ?_
  intro W base args ds gs before hval hW _ _
  obtain ⟨p, q, hA, _, _, _, _⟩ := id hW
  have hargs : Args Try.prog W base Try.f4.params.toList args.toList := args_of (fun j t v h1 h2 => hval j t v (by simpa using h1) (by simpa using h2)) hA
  rw [Try.params4] at hargs
  obtain ⟨v0, l0, e0, a0, r0⟩ := args_cons hargs
  obtain ⟨v1, l1, e1, a1, r1⟩ := args_cons r0
  obtain ⟨v2, l2, e2, a2, r2⟩ := args_cons r1
  obtain ⟨v3, l3, e3, a3, r3⟩ := args_cons r2
  obtain ⟨v4, l4, e4, a4, r4⟩ := args_cons r3
  have hn := args_nil r4
  have he : args = #[v0, v1, v2, v3, v4] := by
    apply Array.ext'
    simp only [e0, e1, e2, e3, e4, hn]
  subst he
  exact (tcpSpoilt_core W base v0 v1 v2 v3 v4 a0 a1 a2 a3 a4).mono fun e W' ⟨he, hj⟩ => ⟨_, he, post_true (tb := 4) (by kernel_rfl) (by kernel_rfl) rfl (by kernel_rfl) rfl hW (fun hg hl => by
    subst hg
    match ds, hl with
    | [_, _, _, _, _], _ => exact ⟨rfl, rfl, rfl⟩) hj⟩
theorem tcpSpoilt_holds : Rows.TcpSpoiltSaid :=
  OpenClaim.holds_of_wide 4 Try.f4 rfl rfl rfl rfl rfl rfl rfl ⟨rfl, rfl, rfl, rfl, rfl⟩ rfl rfl rfl rfl rfl (by kernel_rfl) Try.func4 (by kernel_rfl)
    (of_decide_eq_true (by kernel_rfl)) (by unfold Func.isWrapper; rw [if_neg (of_decide_eq_false (by kernel_rfl))]; exact ⟨rfl, rfl⟩)
    (fun os started H enc _ => tcpSpoilt_lifted os started H enc)

end Go.Proofs.Ytjmofjcloebgmaa
