/- The reference's Put; tcp.Find. -/
import Derived.Test.YtjmofjcloebgmaaTcpO
import Derived.Test.YtjmofjcloebgmaaTcpF
import Derived.Test.YtjmofjcloebgmaaTcpJ
set_option linter.unusedVariables false
set_option maxRecDepth 100000
set_option linter.unusedSimpArgs false
namespace Go.Proofs.Ytjmofjcloebgmaa
open Go.RowKit
def RAll (t : Tc) : Nat → Prop
  | 0 => True
  | 1 => t_withinB t.sport 65535 = true
  | 2 => t_withinB t.sport 65535 = true ∧ t_withinB t.dport 65535 = true
  | 3 => t_withinB t.sport 65535 = true ∧ t_withinB t.dport 65535 = true ∧ t_withinB t.win 65535 = true
  | 4 => t_withinB t.sport 65535 = true ∧ t_withinB t.dport 65535 = true ∧ t_withinB t.win 65535 = true ∧ t_withinB t.urg 65535 = true
  | _ => t_withinB t.sport 65535 = true ∧ t_withinB t.dport 65535 = true ∧ t_withinB t.win 65535 = true ∧ t_withinB t.urg 65535 = true ∧ t_withinB t.flags 255 = true
set_option maxHeartbeats 8000000 in
theorem rput_any (src dst : Int) (t : Tc) (F : List Ot) (N : Nat) (oo ob : Option Addr) (co cb : Nat) (w : World) (h1 : 0 ≤ src ∧ src ≤ 4294967295) (h2 : 0 ≤ dst ∧ dst ≤ 4294967295) (hF : F.map Ot.d = t.os) (hFN : F.length = N) (hN : N ≤ 1000000)
    (hP : TcAt w F oo co t.bl t.body ob cb) (hbl : t.bl ≤ 100000000) (hW : TcWf t) :
    Calls Try.prog 24 #[.int .u32 src, .int .u32 dst, .agg #[.int .i64 t.sport, .int .i64 t.dport, .int .u32 t.seq, .int .u32 t.ack, .int .i64 t.flags, .int .i64 t.win, .int .i64 t.urg, .slice oo N co, .slice ob t.bl cb]] w (TPutM w src dst t) := by
  have i0 : ∀ w, (Instr.index 97 (.agg #[.int .i64 t.sport, .int .i64 t.dport, .int .i64 t.win, .int .i64 t.urg, .int .i64 t.flags]) (.int .i64 0)).run Try.prog w = .ok (.int .i64 t.sport) w := fun _ => by kernel_rfl
  have i1 : ∀ w, (Instr.index 97 (.agg #[.int .i64 t.sport, .int .i64 t.dport, .int .i64 t.win, .int .i64 t.urg, .int .i64 t.flags]) (.int .i64 1)).run Try.prog w = .ok (.int .i64 t.dport) w := fun _ => by kernel_rfl
  have i2 : ∀ w, (Instr.index 97 (.agg #[.int .i64 t.sport, .int .i64 t.dport, .int .i64 t.win, .int .i64 t.urg, .int .i64 t.flags]) (.int .i64 2)).run Try.prog w = .ok (.int .i64 t.win) w := fun _ => by kernel_rfl
  have i3 : ∀ w, (Instr.index 97 (.agg #[.int .i64 t.sport, .int .i64 t.dport, .int .i64 t.win, .int .i64 t.urg, .int .i64 t.flags]) (.int .i64 3)).run Try.prog w = .ok (.int .i64 t.urg) w := fun _ => by kernel_rfl
  have i4 : ∀ w, (Instr.index 97 (.agg #[.int .i64 t.sport, .int .i64 t.dport, .int .i64 t.win, .int .i64 t.urg, .int .i64 t.flags]) (.int .i64 4)).run Try.prog w = .ok (.int .i64 t.flags) w := fun _ => by kernel_rfl
  have HP := Lib.hid hP
  have HF := Lib.hid hFN
  have HD := Lib.hid hF
  have hrt := rtAll_d F
  rw [hF] at hrt
  have HRT := Lib.hid hrt
  have HW := Lib.hid hW
  clear hP hF hrt hFN
  go_enter Try.func24, Try.ntmps24
  go_wp2
  go_loop [8, 9, 21] (fun i n u => ∃ k : Nat, k ≤ 5 ∧ u = .int .i64 k ∧ RAll t k) (fun _ _ u => 6 - (intOf u).toNat)
  case atStart => exact ⟨0, by omega, rfl, trivial⟩
  case round =>
    obtain ⟨k, hk, rfl, g⟩ := hrel
    have G := Lib.hid g
    clear g
    rcases (show k = 0 ∨ k = 1 ∨ k = 2 ∨ k = 3 ∨ k = 4 ∨ k = 5 by omega) with rfl | rfl | rfl | rfl | rfl | rfl
    · cases hb : t_withinB t.sport 65535 with
      | false =>
        have hb2 : ¬ (0 ≤ t.sport ∧ t.sport ≤ 65535) := by simpa [t_withinB] using hb
        have HE := Lib.hid (show tcMay t = false by unfold tcMay; rw [hb]; simp)
        clear hb
        go_wp2
        all_goals first
          | (exfalso; omega)
          | (go_returns; exact tputM_bad HE.out (by ((try simp only [World.junk_junk, Array.append_assoc]); (repeat (first | with_reducible exact Junk.refl _ | with_reducible exact Junk.app _ _ _ _ _ | with_reducible exact Junk.app2 _ _ _ _ _ _ | with_reducible exact Junk.app3 _ _ _ _ _ _ _ | with_reducible exact Junk.app4 _ _ _ _ _ _ _ _ | with_reducible exact Junk.app5 _ _ _ _ _ _ _ _ _ | with_reducible apply Junk.alloc | with_reducible apply Junk.junk | with_reducible apply Junk.drew | with_reducible apply Junk.drewN)))))
      | true =>
        obtain ⟨hb2, hb3⟩ := t_withinB_true hb
        have HB := Lib.hid hb
        clear hb
        go_wp2
        go_round
        case rel => exact ⟨1, by omega, rfl, show RAll t 1 from HB.out⟩
        case measure => simp [intOf]
    · cases hb : t_withinB t.dport 65535 with
      | false =>
        have hb2 : ¬ (0 ≤ t.dport ∧ t.dport ≤ 65535) := by simpa [t_withinB] using hb
        have HE := Lib.hid (show tcMay t = false by unfold tcMay; rw [hb]; simp)
        clear hb
        go_wp2
        all_goals first
          | (exfalso; omega)
          | (go_returns; exact tputM_bad HE.out (by ((try simp only [World.junk_junk, Array.append_assoc]); (repeat (first | with_reducible exact Junk.refl _ | with_reducible exact Junk.app _ _ _ _ _ | with_reducible exact Junk.app2 _ _ _ _ _ _ | with_reducible exact Junk.app3 _ _ _ _ _ _ _ | with_reducible exact Junk.app4 _ _ _ _ _ _ _ _ | with_reducible exact Junk.app5 _ _ _ _ _ _ _ _ _ | with_reducible apply Junk.alloc | with_reducible apply Junk.junk | with_reducible apply Junk.drew | with_reducible apply Junk.drewN)))))
      | true =>
        obtain ⟨hb2, hb3⟩ := t_withinB_true hb
        have HB := Lib.hid hb
        clear hb
        go_wp2
        go_round
        case rel => exact ⟨2, by omega, rfl, show RAll t 2 from ⟨G.out, HB.out⟩⟩
        case measure => simp [intOf]
    · cases hb : t_withinB t.win 65535 with
      | false =>
        have hb2 : ¬ (0 ≤ t.win ∧ t.win ≤ 65535) := by simpa [t_withinB] using hb
        have HE := Lib.hid (show tcMay t = false by unfold tcMay; rw [hb]; simp)
        clear hb
        go_wp2
        all_goals first
          | (exfalso; omega)
          | (go_returns; exact tputM_bad HE.out (by ((try simp only [World.junk_junk, Array.append_assoc]); (repeat (first | with_reducible exact Junk.refl _ | with_reducible exact Junk.app _ _ _ _ _ | with_reducible exact Junk.app2 _ _ _ _ _ _ | with_reducible exact Junk.app3 _ _ _ _ _ _ _ | with_reducible exact Junk.app4 _ _ _ _ _ _ _ _ | with_reducible exact Junk.app5 _ _ _ _ _ _ _ _ _ | with_reducible apply Junk.alloc | with_reducible apply Junk.junk | with_reducible apply Junk.drew | with_reducible apply Junk.drewN)))))
      | true =>
        obtain ⟨hb2, hb3⟩ := t_withinB_true hb
        have HB := Lib.hid hb
        clear hb
        go_wp2
        go_round
        case rel => exact ⟨3, by omega, rfl, show RAll t 3 from ⟨G.out.1, G.out.2, HB.out⟩⟩
        case measure => simp [intOf]
    · cases hb : t_withinB t.urg 65535 with
      | false =>
        have hb2 : ¬ (0 ≤ t.urg ∧ t.urg ≤ 65535) := by simpa [t_withinB] using hb
        have HE := Lib.hid (show tcMay t = false by unfold tcMay; rw [hb]; simp)
        clear hb
        go_wp2
        all_goals first
          | (exfalso; omega)
          | (go_returns; exact tputM_bad HE.out (by ((try simp only [World.junk_junk, Array.append_assoc]); (repeat (first | with_reducible exact Junk.refl _ | with_reducible exact Junk.app _ _ _ _ _ | with_reducible exact Junk.app2 _ _ _ _ _ _ | with_reducible exact Junk.app3 _ _ _ _ _ _ _ | with_reducible exact Junk.app4 _ _ _ _ _ _ _ _ | with_reducible exact Junk.app5 _ _ _ _ _ _ _ _ _ | with_reducible apply Junk.alloc | with_reducible apply Junk.junk | with_reducible apply Junk.drew | with_reducible apply Junk.drewN)))))
      | true =>
        obtain ⟨hb2, hb3⟩ := t_withinB_true hb
        have HB := Lib.hid hb
        clear hb
        go_wp2
        go_round
        case rel => exact ⟨4, by omega, rfl, show RAll t 4 from ⟨G.out.1, G.out.2.1, G.out.2.2, HB.out⟩⟩
        case measure => simp [intOf]
    · cases hb : t_withinB t.flags 255 with
      | false =>
        have hb2 : ¬ (0 ≤ t.flags ∧ t.flags ≤ 255) := by simpa [t_withinB] using hb
        have HE := Lib.hid (show tcMay t = false by unfold tcMay; rw [hb]; simp)
        clear hb
        go_wp2
        all_goals first
          | (exfalso; omega)
          | (go_returns; exact tputM_bad HE.out (by ((try simp only [World.junk_junk, Array.append_assoc]); (repeat (first | with_reducible exact Junk.refl _ | with_reducible exact Junk.app _ _ _ _ _ | with_reducible exact Junk.app2 _ _ _ _ _ _ | with_reducible exact Junk.app3 _ _ _ _ _ _ _ | with_reducible exact Junk.app4 _ _ _ _ _ _ _ _ | with_reducible exact Junk.app5 _ _ _ _ _ _ _ _ _ | with_reducible apply Junk.alloc | with_reducible apply Junk.junk | with_reducible apply Junk.drew | with_reducible apply Junk.drewN)))))
      | true =>
        obtain ⟨hb2, hb3⟩ := t_withinB_true hb
        have HB := Lib.hid hb
        clear hb
        go_wp2
        go_round
        case rel => exact ⟨5, by omega, rfl, show RAll t 5 from ⟨G.out.1, G.out.2.1, G.out.2.2.1, G.out.2.2.2, HB.out⟩⟩
        case measure => simp [intOf]
    · cases a0 : rtAll F with
      | false =>
        have HE := Lib.hid (show tcMay t = false by unfold tcMay; rw [HRT.out, a0]; rfl)
        go_wp2_with (first | (go_at_call 50; refine (rtright_any oo N co F _ hN HF.out (HP.out.os.on (by ((try simp only [World.junk_junk, Array.append_assoc]); (repeat (first | with_reducible exact Junk.refl _ | with_reducible exact Junk.app _ _ _ _ _ | with_reducible exact Junk.app2 _ _ _ _ _ _ | with_reducible exact Junk.app3 _ _ _ _ _ _ _ | with_reducible exact Junk.app4 _ _ _ _ _ _ _ _ | with_reducible exact Junk.app5 _ _ _ _ _ _ _ _ _ | with_reducible apply Junk.alloc | with_reducible apply Junk.junk | with_reducible apply Junk.drew | with_reducible apply Junk.drewN)))))).mono ?_; rintro e w' ⟨rfl, ⟨osr, dr, rfl⟩⟩; rw [a0]))
        go_returns
        exact tputM_bad HE.out (by ((try simp only [World.junk_junk, Array.append_assoc]); (repeat (first | with_reducible exact Junk.refl _ | with_reducible exact Junk.app _ _ _ _ _ | with_reducible exact Junk.app2 _ _ _ _ _ _ | with_reducible exact Junk.app3 _ _ _ _ _ _ _ | with_reducible exact Junk.app4 _ _ _ _ _ _ _ _ | with_reducible exact Junk.app5 _ _ _ _ _ _ _ _ _ | with_reducible apply Junk.alloc | with_reducible apply Junk.junk | with_reducible apply Junk.drew | with_reducible apply Junk.drewN))))
      | true =>
      have HA0 := Lib.hid a0
      have HRX := Lib.hid (fun w1 (h : OsAt w1 oo F) => show Calls Try.prog 50 #[.slice oo N co] w1 fun e w' => e = .returned (.bool true) ∧ Junk w1 w' by rw [← a0]; exact rtright_any oo N co F w1 hN HF.out h)
      clear a0
      by_cases hb : t.bl ≤ 65535
      case neg =>
        have hb2 : (65535 : Int) < (t.bl : Int) := by omega
        have HE := Lib.hid (show tcMay t = false by unfold tcMay; rw [show decide (tcSz t + t.bl ≤ 65535) = false from decide_eq_false (by omega)]; simp)
        clear hb
        go_wp2_with (first | (go_at_call 50; refine (HRX.out _ (HP.out.os.on (by ((try simp only [World.junk_junk, Array.append_assoc]); (repeat (first | with_reducible exact Junk.refl _ | with_reducible exact Junk.app _ _ _ _ _ | with_reducible exact Junk.app2 _ _ _ _ _ _ | with_reducible exact Junk.app3 _ _ _ _ _ _ _ | with_reducible exact Junk.app4 _ _ _ _ _ _ _ _ | with_reducible exact Junk.app5 _ _ _ _ _ _ _ _ _ | with_reducible apply Junk.alloc | with_reducible apply Junk.junk | with_reducible apply Junk.drew | with_reducible apply Junk.drewN)))))).mono ?_; rintro e w' ⟨rfl, ⟨osj, dj, rfl⟩⟩))
        go_returns
        exact tputM_bad HE.out (by ((try simp only [World.junk_junk, Array.append_assoc]); (repeat (first | with_reducible exact Junk.refl _ | with_reducible exact Junk.app _ _ _ _ _ | with_reducible exact Junk.app2 _ _ _ _ _ _ | with_reducible exact Junk.app3 _ _ _ _ _ _ _ | with_reducible exact Junk.app4 _ _ _ _ _ _ _ _ | with_reducible exact Junk.app5 _ _ _ _ _ _ _ _ _ | with_reducible apply Junk.alloc | with_reducible apply Junk.junk | with_reducible apply Junk.drew | with_reducible apply Junk.drewN))))
      have hb2 : ¬ (65535 : Int) < (t.bl : Int) := by omega
      have HT := Lib.hid (show TcHd t from ⟨by rw [HRT.out]; exact HA0.out, t_withinB_true G.out.1, t_withinB_true G.out.2.1, t_withinB_true G.out.2.2.1, t_withinB_true G.out.2.2.2.1, t_withinB_true G.out.2.2.2.2, hb⟩)
      obtain ⟨L, hL⟩ : ∃ L, tcSz t + t.bl = L := ⟨_, rfl⟩
      have HL := Lib.hid hL
      have HLD0 := fun (c : Int) (w1 : World) (hc0 : 0 ≤ c) (hc1 : c ≤ 65535) (hP : TcAt w1 F oo co t.bl t.body ob cb) => rlaid_any t c F N oo ob co cb w1 HT.out HW.out hc0 hc1 HD.out HF.out hN hP
      rw [hL] at HLD0
      have HLD := Lib.hid HLD0
      have hsz : tcSz t ≤ 100 := by have := rtAllD_le HT.out.os; unfold tcSz; omega
      have hLb : L ≤ 70000 := by omega
      clear HLD0 hL hsz
      by_cases hl : L ≤ 65535
      case neg =>
        have hl2 : (65535 : Int) < (L : Int) := by omega
        have HE := Lib.hid (show tcMay t = false by unfold tcMay; rw [show decide (tcSz t + t.bl ≤ 65535) = false from decide_eq_false (by rw [HL.out]; exact hl)]; simp)
        clear hl
        go_wp2_with (first | (go_at_call 50; refine (HRX.out _ (HP.out.os.on (by ((try simp only [World.junk_junk, Array.append_assoc]); (repeat (first | with_reducible exact Junk.refl _ | with_reducible exact Junk.app _ _ _ _ _ | with_reducible exact Junk.app2 _ _ _ _ _ _ | with_reducible exact Junk.app3 _ _ _ _ _ _ _ | with_reducible exact Junk.app4 _ _ _ _ _ _ _ _ | with_reducible exact Junk.app5 _ _ _ _ _ _ _ _ _ | with_reducible apply Junk.alloc | with_reducible apply Junk.junk | with_reducible apply Junk.drew | with_reducible apply Junk.drewN)))))).mono ?_; rintro e w' ⟨rfl, ⟨osj, dj, rfl⟩⟩) | (go_at_call 59; refine (HLD.out 0 _ (by omega) (by omega) (HP.out.on (by ((try simp only [World.junk_junk, Array.append_assoc]); (repeat (first | with_reducible exact Junk.refl _ | with_reducible exact Junk.app _ _ _ _ _ | with_reducible exact Junk.app2 _ _ _ _ _ _ | with_reducible exact Junk.app3 _ _ _ _ _ _ _ | with_reducible exact Junk.app4 _ _ _ _ _ _ _ _ | with_reducible exact Junk.app5 _ _ _ _ _ _ _ _ _ | with_reducible apply Junk.alloc | with_reducible apply Junk.junk | with_reducible apply Junk.drew | with_reducible apply Junk.drewN)))))).mono ?_; rintro e w' ⟨oQ, cQ, rfl, ⟨osQ, dQ, rfl⟩, h_Q⟩; clear h_Q))
        go_returns
        exact tputM_bad HE.out (by ((try simp only [World.junk_junk, Array.append_assoc]); (repeat (first | with_reducible exact Junk.refl _ | with_reducible exact Junk.app _ _ _ _ _ | with_reducible exact Junk.app2 _ _ _ _ _ _ | with_reducible exact Junk.app3 _ _ _ _ _ _ _ | with_reducible exact Junk.app4 _ _ _ _ _ _ _ _ | with_reducible exact Junk.app5 _ _ _ _ _ _ _ _ _ | with_reducible apply Junk.alloc | with_reducible apply Junk.junk | with_reducible apply Junk.drew | with_reducible apply Junk.drewN))))
      have hl2 : ¬ (65535 : Int) < (L : Int) := by omega
      have HM := Lib.hid (show TcMayP t from ⟨HT.out.os, HT.out.sport, HT.out.dport, HT.out.win, HT.out.urg, HT.out.flags, by rw [HL.out]; exact hl⟩)
      have HBY := Lib.hid (show ∀ i, i < L → 0 ≤ segB t 0 i ∧ segB t 0 i ≤ 255 from by rw [← HL.out]; exact segB_byte HM.out HW.out (by omega))
      have HBO := Lib.hid (show ∀ i, i < L → 0 ≤ segOf src dst t i ∧ segOf src dst t i ≤ 255 from by rw [← HL.out]; exact segB_byte HM.out HW.out (segSum_bd h1 h2 HM.out HW.out))
      have sb := segSum_bd h1 h2 HM.out HW.out
      obtain ⟨C, hC⟩ : ∃ C, segSum src dst t = C := ⟨_, rfl⟩
      have HC := Lib.hid hC
      rw [hC] at sb
      obtain ⟨sb0, sb1⟩ := sb
      obtain ⟨X, hX⟩ : ∃ X, tsumN src dst (segB t 0) L = X := ⟨_, rfl⟩
      have hXC : 65535 - X = C := by rw [← hC, ← hX, ← HL.out]; rfl
      have HSUM := Lib.hid (fun (o : Option Addr) (c : Nat) (w1 : World) (hI : IntsAt w1 o L .u8 (segB t 0)) => show Calls Try.prog 48 #[.int .u32 src, .int .u32 dst, .slice o L c] w1 fun e w' => e = .returned (.int .u16 X) ∧ Junk w1 w' by
        rw [← hX]
        exact rtsum_any src dst o L c (segB t 0) w1 h1 h2 hl hI HBY.out)
      have hX0 : 0 ≤ X ∧ X ≤ 65535 := by omega
      clear hl hC hX
      go_wp2_with (first | (go_at_call 50; refine (HRX.out _ (HP.out.os.on (by ((try simp only [World.junk_junk, Array.append_assoc]); (repeat (first | with_reducible exact Junk.refl _ | with_reducible exact Junk.app _ _ _ _ _ | with_reducible exact Junk.app2 _ _ _ _ _ _ | with_reducible exact Junk.app3 _ _ _ _ _ _ _ | with_reducible exact Junk.app4 _ _ _ _ _ _ _ _ | with_reducible exact Junk.app5 _ _ _ _ _ _ _ _ _ | with_reducible apply Junk.alloc | with_reducible apply Junk.junk | with_reducible apply Junk.drew | with_reducible apply Junk.drewN)))))).mono ?_; rintro e w' ⟨rfl, ⟨osj, dj, rfl⟩⟩) | (go_at_call 59; refine (HLD.out 0 _ (by omega) (by omega) (HP.out.on (by ((try simp only [World.junk_junk, Array.append_assoc]); (repeat (first | with_reducible exact Junk.refl _ | with_reducible exact Junk.app _ _ _ _ _ | with_reducible exact Junk.app2 _ _ _ _ _ _ | with_reducible exact Junk.app3 _ _ _ _ _ _ _ | with_reducible exact Junk.app4 _ _ _ _ _ _ _ _ | with_reducible exact Junk.app5 _ _ _ _ _ _ _ _ _ | with_reducible apply Junk.alloc | with_reducible apply Junk.junk | with_reducible apply Junk.drew | with_reducible apply Junk.drewN)))))).mono ?_; rintro e w' ⟨oQ, cQ, rfl, ⟨osQ, dQ, rfl⟩, h_Q⟩; clear h_Q))
      refine wp_region_mixj ((w.alloc (.cells #[.int .i64 t.sport, .int .i64 t.dport, .int .u32 t.seq, .int .u32 t.ack, .int .i64 t.flags, .int .i64 t.win, .int .i64 t.urg, .slice oo N co, .slice ob t.bl cb] 27))) [(0, true), (1, true), (2, true), (3, true), (4, false), (5, false), (6, true), (7, true), (8, false), (9, true), (10, true)] (by kernel_rfl) (by kernel_rfl) (by (repeat (first | with_reducible exact Junk.refl _ | with_reducible exact Junk.app _ _ _ _ _ | with_reducible apply Junk.alloc | with_reducible apply Junk.junk | with_reducible apply Junk.drew | with_reducible apply Junk.drewN))) ?_; (iterate 4 (refine wpMix_q rfl (fun K hK => ?_); (go_simp; try go_bits); (refine hK _ ?_; clear hK K))); refine wpMix_e rfl (fun osm9_0 dm9_0 K hK => ?_); (go_simp; try go_bits); (go_at_call 59; refine (HLD.out 0 _ (by omega) (by omega) (HP.out.on (by ((try simp only [World.junk_junk, Array.append_assoc]); (repeat (first | with_reducible exact Junk.refl _ | with_reducible exact Junk.app _ _ _ _ _ | with_reducible exact Junk.app2 _ _ _ _ _ _ | with_reducible exact Junk.app3 _ _ _ _ _ _ _ | with_reducible exact Junk.app4 _ _ _ _ _ _ _ _ | with_reducible exact Junk.app5 _ _ _ _ _ _ _ _ _ | with_reducible apply Junk.alloc | with_reducible apply Junk.junk | with_reducible apply Junk.drew | with_reducible apply Junk.drewN)))))).mono ?_; rintro e w' ⟨oA, cA, rfl, ⟨osA, dA, rfl⟩, h_A⟩; have HA := Lib.hid h_A; clear h_A); refine hK _ _ (Junk.pair (by (repeat (first | with_reducible exact Junk.refl _ | with_reducible exact Junk.app _ _ _ _ _ | with_reducible apply Junk.alloc | with_reducible apply Junk.junk | with_reducible apply Junk.drew | with_reducible apply Junk.drewN | (with_reducible refine Junk.setCell ?_ (by simp) _))))) ?_; clear hK K; refine wpMix_e rfl (fun osm9_1 dm9_1 K hK => ?_); (go_simp; try go_bits); (go_at_call 48; refine (HSUM.out oA cA _ (HA.out.ints.on (by ((try simp only [World.junk_junk, Array.append_assoc]); (repeat (first | with_reducible exact Junk.refl _ | with_reducible exact Junk.app _ _ _ _ _ | with_reducible exact Junk.app2 _ _ _ _ _ _ | with_reducible exact Junk.app3 _ _ _ _ _ _ _ | with_reducible exact Junk.app4 _ _ _ _ _ _ _ _ | with_reducible exact Junk.app5 _ _ _ _ _ _ _ _ _ | with_reducible apply Junk.alloc | with_reducible apply Junk.junk | with_reducible apply Junk.drew | with_reducible apply Junk.drewN)))))).mono ?_; rintro e w' ⟨rfl, ⟨osj, dj, rfl⟩⟩); refine hK _ _ (Junk.pair (by (repeat (first | with_reducible exact Junk.refl _ | with_reducible exact Junk.app _ _ _ _ _ | with_reducible apply Junk.alloc | with_reducible apply Junk.junk | with_reducible apply Junk.drew | with_reducible apply Junk.drewN | (with_reducible refine Junk.setCell ?_ (by simp) _))))) ?_; clear hK K; (iterate 2 (refine wpMix_q rfl (fun K hK => ?_); (go_simp; try go_bits); (refine hK _ ?_; clear hK K))); refine wpMix_e rfl (fun osm9_2 dm9_2 K hK => ?_); (go_simp; try go_bits); (go_at_call 59; refine (HLD.out C _ sb0 sb1 (HP.out.on (by ((try simp only [World.junk_junk, Array.append_assoc]); (repeat (first | with_reducible exact Junk.refl _ | with_reducible exact Junk.app _ _ _ _ _ | with_reducible exact Junk.app2 _ _ _ _ _ _ | with_reducible exact Junk.app3 _ _ _ _ _ _ _ | with_reducible exact Junk.app4 _ _ _ _ _ _ _ _ | with_reducible exact Junk.app5 _ _ _ _ _ _ _ _ _ | with_reducible apply Junk.alloc | with_reducible apply Junk.junk | with_reducible apply Junk.drew | with_reducible apply Junk.drewN)))))).mono ?_; rintro e w' ⟨oB, cB, rfl, ⟨osB, dB, rfl⟩, h_B⟩; have HB := Lib.hid h_B; clear h_B); refine hK _ _ (Junk.pair (by (repeat (first | with_reducible exact Junk.refl _ | with_reducible exact Junk.app _ _ _ _ _ | with_reducible apply Junk.alloc | with_reducible apply Junk.junk | with_reducible apply Junk.drew | with_reducible apply Junk.drewN | (with_reducible refine Junk.setCell ?_ (by simp) _))))) ?_; clear hK K; (iterate 2 (refine wpMix_q rfl (fun K hK => ?_); (go_simp; try go_bits); (refine hK _ ?_; clear hK K))); refine wpMix_nil (fun osm dm => ?_)
      go_wp2
      go_returns
      rw [← HC.out] at HB
      refine ⟨oB, L, cB, ?_, ?_, ?_, .inl ⟨tcMay_iff.2 HM.out, HL.out.symm, ?_⟩⟩
      · rw [tcErr, if_pos (tcMay_iff.2 HM.out)]; rfl
      · ((try simp only [World.junk_junk, Array.append_assoc]); (repeat (first | with_reducible exact Junk.refl _ | with_reducible exact Junk.app _ _ _ _ _ | with_reducible exact Junk.app2 _ _ _ _ _ _ | with_reducible exact Junk.app3 _ _ _ _ _ _ _ | with_reducible exact Junk.app4 _ _ _ _ _ _ _ _ | with_reducible exact Junk.app5 _ _ _ _ _ _ _ _ _ | with_reducible apply Junk.alloc | with_reducible apply Junk.junk | with_reducible apply Junk.drew | with_reducible apply Junk.drewN)))
      · exact (HB.out.bts HBO.out).on (by (first | ((repeat (first | with_reducible exact Junk.refl _ | with_reducible exact Junk.app _ _ _ _ _ | with_reducible apply Junk.alloc | with_reducible apply Junk.junk | with_reducible apply Junk.drew | with_reducible apply Junk.drewN)); done) | ((try simp only [World.junk_junk, Array.append_assoc]); (repeat (first | with_reducible exact Junk.refl _ | with_reducible exact Junk.app _ _ _ _ _ | with_reducible exact Junk.app2 _ _ _ _ _ _ | with_reducible exact Junk.app3 _ _ _ _ _ _ _ | with_reducible exact Junk.app4 _ _ _ _ _ _ _ _ | with_reducible exact Junk.app5 _ _ _ _ _ _ _ _ _ | with_reducible apply Junk.alloc | with_reducible apply Junk.junk | with_reducible apply Junk.drew | with_reducible apply Junk.drewN)))))
      · exact (HB.out.lower (B' := w.heap.size) (by simp; try omega)).on (by (first | ((repeat (first | with_reducible exact Junk.refl _ | with_reducible exact Junk.app _ _ _ _ _ | with_reducible apply Junk.alloc | with_reducible apply Junk.junk | with_reducible apply Junk.drew | with_reducible apply Junk.drewN)); done) | ((try simp only [World.junk_junk, Array.append_assoc]); (repeat (first | with_reducible exact Junk.refl _ | with_reducible exact Junk.app _ _ _ _ _ | with_reducible exact Junk.app2 _ _ _ _ _ _ | with_reducible exact Junk.app3 _ _ _ _ _ _ _ | with_reducible exact Junk.app4 _ _ _ _ _ _ _ _ | with_reducible exact Junk.app5 _ _ _ _ _ _ _ _ _ | with_reducible apply Junk.alloc | with_reducible apply Junk.junk | with_reducible apply Junk.drew | with_reducible apply Junk.drewN)))))
theorem find1_any (f : Ot) (g : Nat) (kk : Int) (w : World) (hg : g < w.heap.size) (hc : w.cell? ⟨g, 0, none⟩ = some (.int .i64 kk)) :
    Calls Try.prog 61 #[f.val, .pointer (some ⟨g, 0, none⟩)] w fun e w' => e = .returned (.bool (f.k == kk)) ∧ Junk w w' := by
  obtain ⟨k, oa, l, c, xs⟩ := f
  go_enter Try.func61, Try.ntmps61
  go_wp2
  go_ret
  exact ⟨rfl, by (repeat (first | with_reducible exact Junk.refl _ | with_reducible exact Junk.app _ _ _ _ _ | with_reducible apply Junk.alloc | with_reducible apply Junk.junk | with_reducible apply Junk.drew | with_reducible apply Junk.drewN))⟩
theorem indexF_any (oa : Option Addr) (l c : Nat) (L : List Ot) (pr : Ot → Bool) (v1 : Value) (w : World) (hl : l ≤ 1000000) (hL : L.length = l) (hS : OsAt w oa L)
    (hf : ∀ w1, Junk w w1 → ∀ x, Calls Try.prog 61 #[x.val, v1] w1 fun e w' => e = .returned (.bool (pr x)) ∧ Junk w1 w') :
    Calls Try.prog 60 #[.slice oa l c, .func (.func 61) #[] #[v1]] w fun e w' => e = .returned (.int .i64 (idxI (L.findIdx? pr))) ∧ Junk w w' := by
  have HS := Lib.hid hS
  have HF := Lib.hid hf
  clear hS hf
  obtain ⟨T, hT⟩ : ∃ T, T = idxI (L.findIdx? pr) := ⟨_, rfl⟩
  rw [← hT]
  have HT := Lib.hid hT
  have HL := Lib.hid hL
  clear hT hL
  go_enter Try.func60, Try.ntmps60
  go_wp2
  go_loopw [8] (fun i wr => ∃ k : Nat, i = .int .i64 (k : Int) ∧ Junk w wr ∧ k ≤ l ∧ Hid (∀ j, j < k → ∀ y, L[j]? = some y → pr y = false)) (fun i _ => l + 1 - (intOf i).toNat)
  case atStart => exact ⟨0, rfl, by ((try simp only [World.junk_junk, Array.append_assoc]); (repeat (first | with_reducible exact Junk.refl _ | with_reducible exact Junk.app _ _ _ _ _ | with_reducible exact Junk.app2 _ _ _ _ _ _ | with_reducible exact Junk.app3 _ _ _ _ _ _ _ | with_reducible exact Junk.app4 _ _ _ _ _ _ _ _ | with_reducible exact Junk.app5 _ _ _ _ _ _ _ _ _ | with_reducible apply Junk.alloc | with_reducible apply Junk.junk | with_reducible apply Junk.drew | with_reducible apply Junk.drewN))), by omega, Lib.hid (fun j hj => by omega)⟩
  case round =>
    obtain ⟨k, rfl, ⟨os, d, rfl⟩, hk, hN⟩ := hrel
    by_cases hkl : k < l
    · have hk2 : (k : Int) < (l : Int) := by omega
      obtain ⟨x, hx⟩ : ∃ x, L[k]? = some x := ⟨_, List.getElem?_eq_getElem (by rw [HL.out]; exact hkl)⟩
      obtain ⟨b, off, rfl, hb, c0, c1, hbt⟩ := HS.out k x hx
      have HX := Lib.hid hx
      clear hx hbt
      cases hp : pr x with
      | true =>
        have HE := Lib.hid (show T = (k : Int) by rw [HT.out, findIdx_at hN.out HX.out hp]; rfl)
        go_wp2_with (first | (go_at_call 61; refine (HF.out _ (by ((try simp only [World.junk_junk, Array.append_assoc]); (repeat (first | with_reducible exact Junk.refl _ | with_reducible exact Junk.app _ _ _ _ _ | with_reducible exact Junk.app2 _ _ _ _ _ _ | with_reducible exact Junk.app3 _ _ _ _ _ _ _ | with_reducible exact Junk.app4 _ _ _ _ _ _ _ _ | with_reducible exact Junk.app5 _ _ _ _ _ _ _ _ _ | with_reducible apply Junk.alloc | with_reducible apply Junk.junk | with_reducible apply Junk.drew | with_reducible apply Junk.drewN)))) x).mono ?_; rintro e w' ⟨rfl, ⟨osj, dj, rfl⟩⟩; rw [hp]))
        go_ret
        exact ⟨by rw [HE.out]; rfl, by ((try simp only [World.junk_junk, Array.append_assoc]); (repeat (first | with_reducible exact Junk.refl _ | with_reducible exact Junk.app _ _ _ _ _ | with_reducible exact Junk.app2 _ _ _ _ _ _ | with_reducible exact Junk.app3 _ _ _ _ _ _ _ | with_reducible exact Junk.app4 _ _ _ _ _ _ _ _ | with_reducible exact Junk.app5 _ _ _ _ _ _ _ _ _ | with_reducible apply Junk.alloc | with_reducible apply Junk.junk | with_reducible apply Junk.drew | with_reducible apply Junk.drewN)))⟩
      | false =>
        have HN2 := Lib.hid (show ∀ j, j < k + 1 → ∀ y, L[j]? = some y → pr y = false from fun j hj y hy => by
          by_cases h : j = k
          · subst h; rw [HX.out] at hy; cases hy; exact hp
          · exact hN.out j (by omega) y hy)
        go_wp2_with (first | (go_at_call 61; refine (HF.out _ (by ((try simp only [World.junk_junk, Array.append_assoc]); (repeat (first | with_reducible exact Junk.refl _ | with_reducible exact Junk.app _ _ _ _ _ | with_reducible exact Junk.app2 _ _ _ _ _ _ | with_reducible exact Junk.app3 _ _ _ _ _ _ _ | with_reducible exact Junk.app4 _ _ _ _ _ _ _ _ | with_reducible exact Junk.app5 _ _ _ _ _ _ _ _ _ | with_reducible apply Junk.alloc | with_reducible apply Junk.junk | with_reducible apply Junk.drew | with_reducible apply Junk.drewN)))) x).mono ?_; rintro e w' ⟨rfl, ⟨osj, dj, rfl⟩⟩; rw [hp]))
        exact ⟨⟨k + 1, by go_num, by ((try simp only [World.junk_junk, Array.append_assoc]); (repeat (first | with_reducible exact Junk.refl _ | with_reducible exact Junk.app _ _ _ _ _ | with_reducible exact Junk.app2 _ _ _ _ _ _ | with_reducible exact Junk.app3 _ _ _ _ _ _ _ | with_reducible exact Junk.app4 _ _ _ _ _ _ _ _ | with_reducible exact Junk.app5 _ _ _ _ _ _ _ _ _ | with_reducible apply Junk.alloc | with_reducible apply Junk.junk | with_reducible apply Junk.drew | with_reducible apply Junk.drewN))), by omega, HN2⟩, by simp [intOf]; omega⟩
    · have hk2 : ¬ (k : Int) < (l : Int) := by omega
      obtain rfl : k = l := by omega
      have HE := Lib.hid (show T = -1 by rw [HT.out, findIdx_no (by rw [HL.out]; exact hN.out)]; rfl)
      go_wp2
      go_ret
      exact ⟨by rw [HE.out]; rfl, by ((try simp only [World.junk_junk, Array.append_assoc]); (repeat (first | with_reducible exact Junk.refl _ | with_reducible exact Junk.app _ _ _ _ _ | with_reducible exact Junk.app2 _ _ _ _ _ _ | with_reducible exact Junk.app3 _ _ _ _ _ _ _ | with_reducible exact Junk.app4 _ _ _ _ _ _ _ _ | with_reducible exact Junk.app5 _ _ _ _ _ _ _ _ _ | with_reducible apply Junk.alloc | with_reducible apply Junk.junk | with_reducible apply Junk.drew | with_reducible apply Junk.drewN)))⟩
set_option maxHeartbeats 1000000 in
theorem find_none (t : Tc) (F : List Ot) (N : Nat) (oo ob : Option Addr) (co cb : Nat) (kind : Int) (w : World) (hFN : F.length = N) (hN : N ≤ 1000000) (hS : OsAt w oo F) (hi : F.findIdx? (fun f => f.k == kind) = none) :
    Calls Try.prog 25 #[.agg #[.int .i64 t.sport, .int .i64 t.dport, .int .u32 t.seq, .int .u32 t.ack, .int .i64 t.flags, .int .i64 t.win, .int .i64 t.urg, .slice oo N co, .slice ob t.bl cb], .int .i64 kind] w fun e w' => e = .returned (.tuple #[.slice none 0 0, .bool false]) ∧ Junk w w' := by
  have hmf : ∀ (fn : Fn) (first cap : Array Value) (w : World), (Instr.makeFunc fn first cap).run Try.prog w = .ok (.func fn first cap) w := fun _ _ _ _ => rfl
  have HS := Lib.hid hS
  have HFN := Lib.hid hFN
  have HI := Lib.hid (show idxI (F.findIdx? (fun f => f.k == kind)) = -1 by rw [hi]; rfl)
  clear hS hFN hi
  go_enter Try.func25, Try.ntmps25
  go_wp2_with (first | (go_at_call 60; refine (indexF_any _ N co F (fun f => f.k == kind) _ _ hN HFN.out (HS.out.on (by ((try simp only [World.junk_junk, Array.append_assoc]); (repeat (first | with_reducible exact Junk.refl _ | with_reducible exact Junk.app _ _ _ _ _ | with_reducible exact Junk.app2 _ _ _ _ _ _ | with_reducible exact Junk.app3 _ _ _ _ _ _ _ | with_reducible exact Junk.app4 _ _ _ _ _ _ _ _ | with_reducible exact Junk.app5 _ _ _ _ _ _ _ _ _ | with_reducible apply Junk.alloc | with_reducible apply Junk.junk | with_reducible apply Junk.drew | with_reducible apply Junk.drewN))))) (fun w1 hj x => find1_any x (w.heap.size + 1) kind w1 (Nat.lt_of_lt_of_le (by simp; try omega) hj.size) (((hj.below (Nat.le_refl _)).cell (p := ⟨w.heap.size + 1, 0, none⟩) (by simp; try omega)).trans (by simp [go_sem])))).mono ?_; rintro e w' ⟨rfl, ⟨osc, dc, rfl⟩⟩; rw [HI.out]))
  go_returns
  exact ⟨rfl, by ((try simp only [World.junk_junk, Array.append_assoc]); (repeat (first | with_reducible exact Junk.refl _ | with_reducible exact Junk.app _ _ _ _ _ | with_reducible exact Junk.app2 _ _ _ _ _ _ | with_reducible exact Junk.app3 _ _ _ _ _ _ _ | with_reducible exact Junk.app4 _ _ _ _ _ _ _ _ | with_reducible exact Junk.app5 _ _ _ _ _ _ _ _ _ | with_reducible apply Junk.alloc | with_reducible apply Junk.junk | with_reducible apply Junk.drew | with_reducible apply Junk.drewN)))⟩
set_option maxHeartbeats 1000000 in
theorem find_some (t : Tc) (F : List Ot) (N : Nat) (oo ob : Option Addr) (co cb : Nat) (kind : Int) (w : World) (hFN : F.length = N) (hN : N ≤ 1000000) (hS : OsAt w oo F) (i : Nat) (f : Ot) (hi : F.findIdx? (fun f => f.k == kind) = some i) (hf : F[i]? = some f) (hl : f.l ≤ 100000000) :
    Calls Try.prog 25 #[.agg #[.int .i64 t.sport, .int .i64 t.dport, .int .u32 t.seq, .int .u32 t.ack, .int .i64 t.flags, .int .i64 t.win, .int .i64 t.urg, .slice oo N co, .slice ob t.bl cb], .int .i64 kind] w fun e w' => ∃ od cd, e = .returned (.tuple #[.slice od f.l cd, .bool true]) ∧ Junk w w' ∧ Bts w' od f.l cd f.xs := by
  have hmf : ∀ (fn : Fn) (first cap : Array Value) (w : World), (Instr.makeFunc fn first cap).run Try.prog w = .ok (.func fn first cap) w := fun _ _ _ _ => rfl
  have HS := Lib.hid hS
  have HFN := Lib.hid hFN
  have HI := Lib.hid (show idxI (F.findIdx? (fun f => f.k == kind)) = (i : Int) by rw [hi]; rfl)
  have hiN : i < N := by rw [← hFN]; exact (List.getElem?_eq_some_iff.1 hf).1
  obtain ⟨bb, off, rfl, hb, c0, c1, cb1⟩ := hS i f hf
  have HB := Lib.hid cb1
  obtain ⟨k, oa, l, cc, ys⟩ := f
  dsimp only at c0 c1 hl
  have j1 : ¬ (i : Int) < 0 := by omega
  have j2 : (i : Int) < (N : Int) := by omega
  clear hS hFN hi hf cb1
  go_enter Try.func25, Try.ntmps25
  go_wp2_with (first | (go_at_call 60; refine (indexF_any _ N co F (fun f => f.k == kind) _ _ hN HFN.out (HS.out.on (by ((try simp only [World.junk_junk, Array.append_assoc]); (repeat (first | with_reducible exact Junk.refl _ | with_reducible exact Junk.app _ _ _ _ _ | with_reducible exact Junk.app2 _ _ _ _ _ _ | with_reducible exact Junk.app3 _ _ _ _ _ _ _ | with_reducible exact Junk.app4 _ _ _ _ _ _ _ _ | with_reducible exact Junk.app5 _ _ _ _ _ _ _ _ _ | with_reducible apply Junk.alloc | with_reducible apply Junk.junk | with_reducible apply Junk.drew | with_reducible apply Junk.drewN))))) (fun w1 hj x => find1_any x (w.heap.size + 1) kind w1 (Nat.lt_of_lt_of_le (by simp; try omega) hj.size) (((hj.below (Nat.le_refl _)).cell (p := ⟨w.heap.size + 1, 0, none⟩) (by simp; try omega)).trans (by simp [go_sem])))).mono ?_; rintro e w' ⟨rfl, ⟨osc, dc, rfl⟩⟩; rw [HI.out]) | (go_at_call 47; refine (clone_any oa l cc ys _ hl (HB.out.on (by ((try simp only [World.junk_junk, Array.append_assoc]); (repeat (first | with_reducible exact Junk.refl _ | with_reducible exact Junk.app _ _ _ _ _ | with_reducible exact Junk.app2 _ _ _ _ _ _ | with_reducible exact Junk.app3 _ _ _ _ _ _ _ | with_reducible exact Junk.app4 _ _ _ _ _ _ _ _ | with_reducible exact Junk.app5 _ _ _ _ _ _ _ _ _ | with_reducible apply Junk.alloc | with_reducible apply Junk.junk | with_reducible apply Junk.drew | with_reducible apply Junk.drewN)))))).mono ?_; rintro e w' ⟨od, cd, rfl, ⟨osd, dd, rfl⟩, hcb, _⟩; have Hcb := Lib.hid hcb; clear hcb))
  go_returns
  exact ⟨od, cd, rfl, by ((try simp only [World.junk_junk, Array.append_assoc]); (repeat (first | with_reducible exact Junk.refl _ | with_reducible exact Junk.app _ _ _ _ _ | with_reducible exact Junk.app2 _ _ _ _ _ _ | with_reducible exact Junk.app3 _ _ _ _ _ _ _ | with_reducible exact Junk.app4 _ _ _ _ _ _ _ _ | with_reducible exact Junk.app5 _ _ _ _ _ _ _ _ _ | with_reducible apply Junk.alloc | with_reducible apply Junk.junk | with_reducible apply Junk.drew | with_reducible apply Junk.drewN))), Hcb.out.on (by ((try simp only [World.junk_junk, Array.append_assoc]); (repeat (first | with_reducible exact Junk.refl _ | with_reducible exact Junk.app _ _ _ _ _ | with_reducible exact Junk.app2 _ _ _ _ _ _ | with_reducible exact Junk.app3 _ _ _ _ _ _ _ | with_reducible exact Junk.app4 _ _ _ _ _ _ _ _ | with_reducible exact Junk.app5 _ _ _ _ _ _ _ _ _ | with_reducible apply Junk.alloc | with_reducible apply Junk.junk | with_reducible apply Junk.drew | with_reducible apply Junk.drewN))))⟩
end Go.Proofs.Ytjmofjcloebgmaa
