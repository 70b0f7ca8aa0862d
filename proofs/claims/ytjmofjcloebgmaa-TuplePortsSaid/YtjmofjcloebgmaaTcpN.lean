/- What is put, parsed and compared: the three contracts in one (for TcpBack and ChalMakes). -/
import Derived.Test.YtjmofjcloebgmaaTcpL
import Derived.Test.YtjmofjcloebgmaaTcpM
set_option linter.unusedVariables false
set_option maxRecDepth 100000
set_option linter.unusedSimpArgs false
namespace Go.Proofs.Ytjmofjcloebgmaa
open Go.RowKit
theorem od_sum {os : List Od} {f : Od} (h : f ∈ os) : 2 + f.l ≤ optsND os := by
  induction os with
  | nil => cases h
  | cons g os ih =>
    have e : optsND (g :: os) = (2 + g.l) + optsND os := by unfold optsND; simp
    rcases List.mem_cons.1 h with rfl | h
    · omega
    · have := ih h; omega
theorem back_len {os : List Od} (h : optsND os ≤ 40) : os.length ≤ 40 := by
  have : os.length * 2 ≤ optsND os := by
    clear h
    induction os with
    | nil => simp
    | cons g os ih =>
      have e : optsND (g :: os) = (2 + g.l) + optsND os := by unfold optsND; simp
      rw [e, List.length_cons]; omega
  omega
theorem back_data {t : Tc} (M : TcMayP t) {F : List Ot} (hF : F.map Ot.d = t.os) : (∀ f ∈ F, f.l ≤ 100000000) ∧ F.length ≤ 1000 := by
  have h1 := rtAllD_le M.os
  have h4 := back_len h1
  rw [← hF, List.length_map] at h4
  refine ⟨fun f hf => ?_, by omega⟩
  have h2 : f.d ∈ t.os := by rw [← hF]; exact List.mem_map.2 ⟨f, hf, rfl⟩
  have h3 := od_sum h2
  have e : f.d.l = f.l := rfl
  omega
theorem back_set {src dst : Int} {t : Tc} (h1 : 0 ≤ src ∧ src ≤ 4294967295) (h2 : 0 ≤ dst ∧ dst ≤ 4294967295) (M : TcMayP t) (W : TcWf t) : ∃ (L : Nat) (ys : Nat → Int) (v : Tc), L = tcSz t + t.bl ∧ 20 ≤ L ∧ L ≤ 65535 ∧
    (∀ (F : List Ot) (N : Nat) (oo : Option Addr) (co : Nat) (ob : Option Addr) (cb : Nat) (w : World), F.map Ot.d = t.os → F.length = N → TcAt w F oo co t.bl t.body ob cb →
      Calls Try.prog 18 #[.int .u32 src, .int .u32 dst, .agg #[.int .i64 t.sport, .int .i64 t.dport, .int .u32 t.seq, .int .u32 t.ack, .int .i64 t.flags, .int .i64 t.win, .int .i64 t.urg, .slice oo N co, .slice ob t.bl cb]] w fun e w' => ∃ (o1 : Option Addr) (c1 : Nat), e = .returned (.tuple #[.slice o1 L c1, .int .i64 0]) ∧ Junk w w' ∧ Bts w' o1 L c1 ys) ∧
    (∀ (o1 : Option Addr) (c1 : Nat) (w : World), Bts w o1 L c1 ys →
      Calls Try.prog 14 #[.int .u32 src, .int .u32 dst, .slice o1 L c1] w fun e w' => ∃ (G : List Ot) (oo : Option Addr) (co : Nat) (ob : Option Addr) (cb : Nat), e = .returned (.tuple #[.agg #[.int .i64 v.sport, .int .i64 v.dport, .int .u32 v.seq, .int .u32 v.ack, .int .i64 v.flags, .int .i64 v.win, .int .i64 v.urg, .slice oo G.length co, .slice ob v.bl cb], .int .i64 0]) ∧ Junk w w' ∧ G.map Ot.d = v.os ∧ TcAt w' G oo co v.bl v.body ob cb) ∧
    (∀ (F G : List Ot) (n m : Nat) (oo ob oo2 ob2 : Option Addr) (co cb co2 cb2 : Nat) (w : World), F.map Ot.d = t.os → G.map Ot.d = v.os → F.length = n → G.length = m → TcAt w F oo co t.bl t.body ob cb → TcAt w G oo2 co2 v.bl v.body ob2 cb2 →
      Calls Try.prog 23 #[.agg #[.int .i64 t.sport, .int .i64 t.dport, .int .u32 t.seq, .int .u32 t.ack, .int .i64 t.flags, .int .i64 t.win, .int .i64 t.urg, .slice oo n co, .slice ob t.bl cb], .agg #[.int .i64 v.sport, .int .i64 v.dport, .int .u32 v.seq, .int .u32 v.ack, .int .i64 v.flags, .int .i64 v.win, .int .i64 v.urg, .slice oo2 m co2, .slice ob2 v.bl cb2]] w fun e w' => e = .returned (.bool true) ∧ Junk w w') := by
  obtain ⟨p1, p2⟩ := seg_parse h1 h2 M W
  have hS := tcSz_le M
  have hfit := M.fit
  have hbb := segB_byte M W (segSum_bd h1 h2 M W)
  refine ⟨tcSz t + t.bl, segOf src dst t, tcpTc (segOf src dst t) (tcSz t + t.bl), rfl, by omega, by omega, ?_, ?_, ?_⟩
  · intro F N oo co ob cb w hF hN hP
    obtain ⟨d1, d2⟩ := back_data M hF
    refine (tput_any src dst t F N oo ob co cb w h1 h2 hF hN (by omega) hP d1 (by omega) W).mono ?_
    intro e w' hp
    obtain ⟨o1, c1, rfl, hj, hb, _⟩ := hp.ok (tcMay_iff.2 M)
    exact ⟨o1, c1, rfl, hj, hb⟩
  · intro o1 c1 w hb
    refine (tparse_any src dst o1 _ c1 (segOf src dst t) w h1 h2 (by omega) hb).mono ?_
    intro e w' hp
    obtain ⟨G, oo3, co3, ob3, cb3, rfl, hj, hG, hU⟩ := hp.ok p1
    exact ⟨G, oo3, co3, ob3, cb3, rfl, hj, hG, hU⟩
  · intro F G n m oo ob oo2 ob2 co cb co2 cb2 w hF hG hn hm hP hQ
    have hl1 := (back_data M hF).2
    have hl2 := tcpTc_len p1 (hbb 12 (by omega))
    have hl3 := congrArg List.length hG
    simp only [List.length_map] at hl3
    have := tsame_any t _ F G n m oo ob oo2 ob2 co cb co2 cb2 w hF hG hn hm (by omega) (by omega) hP hQ
    rw [p2] at this
    exact this
end Go.Proofs.Ytjmofjcloebgmaa
