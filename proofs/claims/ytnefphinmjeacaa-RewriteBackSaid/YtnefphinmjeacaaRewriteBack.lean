/- The law RewriteBack: a packet that was turned, and turned back, is as it was, but for its check sum, which fits. -/
import Derived.Test.YtnefphinmjeacaaReM
import Derived.Test.YtnefphinmjeacaaLift2
set_option linter.unusedVariables false
set_option maxRecDepth 100000
set_option linter.unusedSimpArgs false
namespace Go.Proofs.Ytnefphinmjeacaa
open Go.RowKit
theorem ipb_of (p : Ip) (oo ob : Option Addr) (oc bc : Nat) (w : World) (hP : IpAt w p oo oc ob bc) (hl : p.bl ≤ 3000) : Calls Try.prog 20 #[.agg #[.int .i64 p.tos, .int .i64 p.id, .bool p.df, .bool p.mf, .int .i64 p.off, .int .i64 p.ttl, .int .i64 p.proto, .int .u32 p.src, .int .u32 p.dst, .slice oo p.ol oc, .slice ob p.bl bc]] w fun e w' => e = .returned (.tuple #[.agg #[.int .i64 p.tup.proto, .int .u32 p.tup.src, .int .i64 p.tup.sport, .int .u32 p.tup.dst, .int .i64 p.tup.dport], .int .i64 p.err]) ∧ Junk w w' :=
  tup_of_any _ _ _ _ _ p.mf p.off p.proto p.src p.dst ob p.bl bc p.body w hP.src hP.dst (by omega) hP.body
/-- Turned, and turned back: the bytes. -/
theorem back_bytes {p q r : Ip} {t own : Tup} (h1 : Rw2 p q t) (h2 : Rw2 q r own) (hq : q.proto = p.proto) (hb : q.bl = p.bl) (hc : r.bl = p.bl) (h8 : 8 ≤ p.bl) (hw : IpW p) (es : own.sport = wd p.body (rwAt p.proto 0)) (ed : own.dport = wd p.body (rwAt p.proto 2)) :
    ∀ i, i < p.bl → i ≠ rwSum p.proto → i ≠ rwSum p.proto + 1 → r.body i = p.body i := by
  intro i hi k1 k2
  have l0 := rwAt_le p.proto (P := 0) (.inl rfl)
  have l2 := rwAt_le p.proto (P := 2) (.inr rfl)
  have s := h2.src
  have d := h2.dst
  rw [hq] at s d
  rw [es] at s
  rw [ed] at d
  have y := h2.w.body
  rw [hc] at y
  have x := hw.body
  have two : ∀ a, a + 1 < p.bl → wd r.body a = wd p.body a → r.body a = p.body a ∧ r.body (a + 1) = p.body (a + 1) := fun a ha he => by
    have := x a (by omega); have := x (a + 1) ha; have := y a (by omega); have := y (a + 1) ha
    unfold wd at he
    omega
  by_cases a1 : i = rwAt p.proto 0
  · rw [a1]; exact (two _ (by omega) s).1
  by_cases a2 : i = rwAt p.proto 0 + 1
  · rw [a2]; exact (two _ (by omega) s).2
  by_cases a3 : i = rwAt p.proto 2
  · rw [a3]; exact (two _ (by omega) d).1
  by_cases a4 : i = rwAt p.proto 2 + 1
  · rw [a4]; exact (two _ (by omega) d).2
  have e2 := h2.same i
  rw [hq] at e2
  exact (e2 a1 a2 a3 a4 (fun _ => ⟨k1, k2⟩)).trans (h1.same i a1 a2 a3 a4 (fun _ => ⟨k1, k2⟩))
theorem rw2_no {p : Ip} {t : Tup} (h : p.err ≠ 0) : rw2Err p t ≠ 0 := by
  unfold rw2Err rwErr
  rw [if_pos (show ofErr p.mf p.off p.proto p.src p.dst p.body p.bl ≠ 0 from h)]
  split
  · decide
  · first | exact h | (rw [if_pos h]; exact h)
set_option maxHeartbeats 4000000 in
theorem rewriteBack_no (p : Ip) (oo ob : Option Addr) (oc bc : Nat) (tp ts sp td dp : Int) (w : World) (hP : IpAt w p oo oc ob bc) (hts : 0 ≤ ts ∧ ts ≤ 4294967295) (htd : 0 ≤ td ∧ td ≤ 4294967295) (hn : ¬ (shortB p = true ∧ rw2Err p ⟨tp, ts, sp, td, dp⟩ = 0)) : Calls Try.prog 6 #[.agg #[.int .i64 p.tos, .int .i64 p.id, .bool p.df, .bool p.mf, .int .i64 p.off, .int .i64 p.ttl, .int .i64 p.proto, .int .u32 p.src, .int .u32 p.dst, .slice oo p.ol oc, .slice ob p.bl bc], .agg #[.int .i64 tp, .int .u32 ts, .int .i64 sp, .int .u32 td, .int .i64 dp]] w fun e w' => e = .returned (.bool true) ∧ Junk w w' := by
  have HP := Lib.hid hP
  cases hs : shortB p with
  | false =>
    have HSH := Lib.hid (fun w1 => show Calls Try.prog 19 #[.agg #[.int .i64 p.tos, .int .i64 p.id, .bool p.df, .bool p.mf, .int .i64 p.off, .int .i64 p.ttl, .int .i64 p.proto, .int .u32 p.src, .int .u32 p.dst, .slice oo p.ol oc, .slice ob p.bl bc]] w1 fun e w' => e = .returned (.bool false) ∧ Junk w1 w' by rw [← hs]; exact short_any p oo ob oc bc w1)
    clear hn hs hP
    go_enter Try.func6, Try.ntmps6
    go_wp2_with (first | (go_at_call 18; refine (awake25_any _).mono ?_; rintro e w' ⟨rfl, ⟨osj, dj, rfl⟩⟩) | (go_at_call 19; refine (HSH.out _).mono ?_; rintro e w' ⟨rfl, ⟨osj, dj, rfl⟩⟩))
    all_goals (go_ret; exact ⟨ret_bool rfl, by (first | ((repeat (first | with_reducible exact Junk.refl _ | with_reducible exact Junk.app _ _ _ _ _ | with_reducible apply Junk.alloc | with_reducible apply Junk.junk | with_reducible apply Junk.drew | with_reducible apply Junk.drewN)); done) | ((try simp only [World.junk_junk, Array.append_assoc]); (repeat (first | with_reducible exact Junk.refl _ | with_reducible exact Junk.app _ _ _ _ _ | with_reducible exact Junk.app2 _ _ _ _ _ _ | with_reducible exact Junk.app3 _ _ _ _ _ _ _ | with_reducible exact Junk.app4 _ _ _ _ _ _ _ _ | with_reducible exact Junk.app5 _ _ _ _ _ _ _ _ _ | with_reducible apply Junk.alloc | with_reducible apply Junk.junk | with_reducible apply Junk.drew | with_reducible apply Junk.drewN))))⟩)
  | true =>
    obtain ⟨s1, s2⟩ := shortB_true hs
    have HSH := Lib.hid (fun w1 => show Calls Try.prog 19 #[.agg #[.int .i64 p.tos, .int .i64 p.id, .bool p.df, .bool p.mf, .int .i64 p.off, .int .i64 p.ttl, .int .i64 p.proto, .int .u32 p.src, .int .u32 p.dst, .slice oo p.ol oc, .slice ob p.bl bc]] w1 fun e w' => e = .returned (.bool true) ∧ Junk w1 w' by rw [← hs]; exact short_any p oo ob oc bc w1)
    have h0 : rw2Err p ⟨tp, ts, sp, td, dp⟩ ≠ 0 := fun h => hn ⟨hs, h⟩
    have HOF := Lib.hid (fun w1 (hp : IpAt w1 p oo oc ob bc) => ipb_of p oo ob oc bc w1 hp s2)
    have HBO := Lib.hid (fun w1 (hp : IpAt w1 p oo oc ob bc) => (rboth_any p oo ob oc bc tp ts sp td dp w1 hp (by omega) (by omega) hts htd).mono fun e w' h => h.bad h0)
    obtain ⟨F, hF⟩ : ∃ F, rw2Err p ⟨tp, ts, sp, td, dp⟩ = F := ⟨_, rfl⟩
    obtain ⟨E, hE⟩ : ∃ E, p.err = E := ⟨_, rfl⟩
    obtain ⟨⟨t0, t1, t2, t3, t4⟩, hT⟩ : ∃ t, p.tup = t := ⟨_, rfl⟩
    rw [hF] at HBO h0
    rw [hE, hT] at HOF
    have hne : (F != 0) = true := by simpa using h0
    clear hn hs hP h0 hE hT hF
    cases hz : (E != 0) with
    | true =>
      go_enter Try.func6, Try.ntmps6
      go_wp2_with (first | (go_at_call 18; refine (awake25_any _).mono ?_; rintro e w' ⟨rfl, ⟨osj, dj, rfl⟩⟩) | (go_at_call 19; refine (HSH.out _).mono ?_; rintro e w' ⟨rfl, ⟨osj, dj, rfl⟩⟩) | (go_at_call 20; (with_reducible refine (HOF.out _ (HP.out.on (by (first | ((repeat (first | with_reducible exact Junk.refl _ | with_reducible exact Junk.app _ _ _ _ _ | with_reducible apply Junk.alloc | with_reducible apply Junk.junk | with_reducible apply Junk.drew | with_reducible apply Junk.drewN)); done) | ((try simp only [World.junk_junk, Array.append_assoc]); (repeat (first | with_reducible exact Junk.refl _ | with_reducible exact Junk.app _ _ _ _ _ | with_reducible exact Junk.app2 _ _ _ _ _ _ | with_reducible exact Junk.app3 _ _ _ _ _ _ _ | with_reducible exact Junk.app4 _ _ _ _ _ _ _ _ | with_reducible exact Junk.app5 _ _ _ _ _ _ _ _ _ | with_reducible apply Junk.alloc | with_reducible apply Junk.junk | with_reducible apply Junk.drew | with_reducible apply Junk.drewN))))))).mono ?_); rintro e w' ⟨rfl, ⟨osj, dj, rfl⟩⟩) | (go_at_call 21; (with_reducible refine (HBO.out _ (HP.out.on (by (first | ((repeat (first | with_reducible exact Junk.refl _ | with_reducible exact Junk.app _ _ _ _ _ | with_reducible apply Junk.alloc | with_reducible apply Junk.junk | with_reducible apply Junk.drew | with_reducible apply Junk.drewN)); done) | ((try simp only [World.junk_junk, Array.append_assoc]); (repeat (first | with_reducible exact Junk.refl _ | with_reducible exact Junk.app _ _ _ _ _ | with_reducible exact Junk.app2 _ _ _ _ _ _ | with_reducible exact Junk.app3 _ _ _ _ _ _ _ | with_reducible exact Junk.app4 _ _ _ _ _ _ _ _ | with_reducible exact Junk.app5 _ _ _ _ _ _ _ _ _ | with_reducible apply Junk.alloc | with_reducible apply Junk.junk | with_reducible apply Junk.drew | with_reducible apply Junk.drewN))))))).mono ?_); rintro e w' ⟨rfl, ⟨osj, dj, rfl⟩⟩))
      all_goals (go_ret; exact ⟨ret_bool rfl, by (first | ((repeat (first | with_reducible exact Junk.refl _ | with_reducible exact Junk.app _ _ _ _ _ | with_reducible apply Junk.alloc | with_reducible apply Junk.junk | with_reducible apply Junk.drew | with_reducible apply Junk.drewN)); done) | ((try simp only [World.junk_junk, Array.append_assoc]); (repeat (first | with_reducible exact Junk.refl _ | with_reducible exact Junk.app _ _ _ _ _ | with_reducible exact Junk.app2 _ _ _ _ _ _ | with_reducible exact Junk.app3 _ _ _ _ _ _ _ | with_reducible exact Junk.app4 _ _ _ _ _ _ _ _ | with_reducible exact Junk.app5 _ _ _ _ _ _ _ _ _ | with_reducible apply Junk.alloc | with_reducible apply Junk.junk | with_reducible apply Junk.drew | with_reducible apply Junk.drewN))))⟩)
    | false =>
      go_enter Try.func6, Try.ntmps6
      go_wp2_with (first | (go_at_call 18; refine (awake25_any _).mono ?_; rintro e w' ⟨rfl, ⟨osj, dj, rfl⟩⟩) | (go_at_call 19; refine (HSH.out _).mono ?_; rintro e w' ⟨rfl, ⟨osj, dj, rfl⟩⟩) | (go_at_call 20; (with_reducible refine (HOF.out _ (HP.out.on (by (first | ((repeat (first | with_reducible exact Junk.refl _ | with_reducible exact Junk.app _ _ _ _ _ | with_reducible apply Junk.alloc | with_reducible apply Junk.junk | with_reducible apply Junk.drew | with_reducible apply Junk.drewN)); done) | ((try simp only [World.junk_junk, Array.append_assoc]); (repeat (first | with_reducible exact Junk.refl _ | with_reducible exact Junk.app _ _ _ _ _ | with_reducible exact Junk.app2 _ _ _ _ _ _ | with_reducible exact Junk.app3 _ _ _ _ _ _ _ | with_reducible exact Junk.app4 _ _ _ _ _ _ _ _ | with_reducible exact Junk.app5 _ _ _ _ _ _ _ _ _ | with_reducible apply Junk.alloc | with_reducible apply Junk.junk | with_reducible apply Junk.drew | with_reducible apply Junk.drewN))))))).mono ?_); rintro e w' ⟨rfl, ⟨osj, dj, rfl⟩⟩) | (go_at_call 21; (with_reducible refine (HBO.out _ (HP.out.on (by (first | ((repeat (first | with_reducible exact Junk.refl _ | with_reducible exact Junk.app _ _ _ _ _ | with_reducible apply Junk.alloc | with_reducible apply Junk.junk | with_reducible apply Junk.drew | with_reducible apply Junk.drewN)); done) | ((try simp only [World.junk_junk, Array.append_assoc]); (repeat (first | with_reducible exact Junk.refl _ | with_reducible exact Junk.app _ _ _ _ _ | with_reducible exact Junk.app2 _ _ _ _ _ _ | with_reducible exact Junk.app3 _ _ _ _ _ _ _ | with_reducible exact Junk.app4 _ _ _ _ _ _ _ _ | with_reducible exact Junk.app5 _ _ _ _ _ _ _ _ _ | with_reducible apply Junk.alloc | with_reducible apply Junk.junk | with_reducible apply Junk.drew | with_reducible apply Junk.drewN))))))).mono ?_); rintro e w' ⟨rfl, ⟨osj, dj, rfl⟩⟩))
      all_goals (go_ret; exact ⟨ret_bool rfl, by (first | ((repeat (first | with_reducible exact Junk.refl _ | with_reducible exact Junk.app _ _ _ _ _ | with_reducible apply Junk.alloc | with_reducible apply Junk.junk | with_reducible apply Junk.drew | with_reducible apply Junk.drewN)); done) | ((try simp only [World.junk_junk, Array.append_assoc]); (repeat (first | with_reducible exact Junk.refl _ | with_reducible exact Junk.app _ _ _ _ _ | with_reducible exact Junk.app2 _ _ _ _ _ _ | with_reducible exact Junk.app3 _ _ _ _ _ _ _ | with_reducible exact Junk.app4 _ _ _ _ _ _ _ _ | with_reducible exact Junk.app5 _ _ _ _ _ _ _ _ _ | with_reducible apply Junk.alloc | with_reducible apply Junk.junk | with_reducible apply Junk.drew | with_reducible apply Junk.drewN))))⟩)
set_option maxHeartbeats 8000000 in
theorem rewriteBack_t (p : Ip) (oo ob : Option Addr) (oc bc : Nat) (tp ts sp td dp : Int) (w : World) (hP : IpAt w p oo oc ob bc) (hts : 0 ≤ ts ∧ ts ≤ 4294967295) (htd : 0 ≤ td ∧ td ≤ 4294967295) (hs : shortB p = true) (h0 : rw2Err p ⟨tp, ts, sp, td, dp⟩ = 0) (hpr : p.proto ≠ 1 ∧ p.proto ≠ 17) : Calls Try.prog 6 #[.agg #[.int .i64 p.tos, .int .i64 p.id, .bool p.df, .bool p.mf, .int .i64 p.off, .int .i64 p.ttl, .int .i64 p.proto, .int .u32 p.src, .int .u32 p.dst, .slice oo p.ol oc, .slice ob p.bl bc], .agg #[.int .i64 tp, .int .u32 ts, .int .i64 sp, .int .u32 td, .int .i64 dp]] w fun e w' => e = .returned (.bool true) ∧ Junk w w' := by
  have HP := Lib.hid hP
  obtain ⟨s1, s2⟩ := shortB_true hs
  have HSH := Lib.hid (fun w1 => show Calls Try.prog 19 #[.agg #[.int .i64 p.tos, .int .i64 p.id, .bool p.df, .bool p.mf, .int .i64 p.off, .int .i64 p.ttl, .int .i64 p.proto, .int .u32 p.src, .int .u32 p.dst, .slice oo p.ol oc, .slice ob p.bl bc]] w1 fun e w' => e = .returned (.bool true) ∧ Junk w1 w' by rw [← hs]; exact short_any p oo ob oc bc w1)
  have hw := hP.w
  obtain ⟨e0, -, hR⟩ := rw2_ok h0 hw hts htd
  obtain ⟨o1, o2, o3, o4, o5, o6, o7, o8⟩ := own_may e0 hw
  obtain ⟨⟨t0, t1, s0, t3, d0⟩, hT⟩ : ∃ t, p.tup = t := ⟨_, rfl⟩
  have hT0 := hT
  rw [hT] at o1 o2 o3 o4 o5 o6 o7 o8
  obtain rfl : t0 = p.proto := o1
  obtain rfl : t1 = p.src := o2
  obtain rfl : t3 = p.dst := o3
  obtain ⟨q, hq⟩ : ∃ q, rw2 p ⟨tp, ts, sp, td, dp⟩ = q := ⟨_, rfl⟩
  have q1 : q.proto = p.proto := by rw [← hq]; rfl
  have q2 : q.bl = p.bl := by rw [← hq]; rfl
  rw [hq] at hR
  have g0 : rw2Err q ⟨p.proto, p.src, s0, p.dst, d0⟩ = 0 := rw2_of hR.err hR.w q1 o4 hw.src o5 o6
  obtain ⟨-, -, hR2⟩ := rw2_ok g0 hR.w hw.src hw.dst
  have hby := back_bytes hR hR2 q1 q2 (show (rw2 q _).bl = p.bl from q2) (of_zero25 e0).2.1 hw o7 o8
  have hk : rwSum p.proto = 16 := by unfold rwSum; rw [if_neg hpr.2, if_neg hpr.1]
  rw [hk] at hby
  have HBY := Lib.hid hby
  have HOF := Lib.hid (fun w1 (hp : IpAt w1 p oo oc ob bc) => show Calls Try.prog 20 #[.agg #[.int .i64 p.tos, .int .i64 p.id, .bool p.df, .bool p.mf, .int .i64 p.off, .int .i64 p.ttl, .int .i64 p.proto, .int .u32 p.src, .int .u32 p.dst, .slice oo p.ol oc, .slice ob p.bl bc]] w1 fun e w' => e = .returned (.tuple #[.agg #[.int .i64 p.proto, .int .u32 p.src, .int .i64 s0, .int .u32 p.dst, .int .i64 d0], .int .i64 0]) ∧ Junk w1 w' by
    have := ipb_of p oo ob oc bc w1 hp s2
    rw [hT0, e0] at this
    exact this)
  have HBO := Lib.hid (fun w1 (hp : IpAt w1 p oo oc ob bc) => show Calls Try.prog 21 #[.agg #[.int .i64 p.tos, .int .i64 p.id, .bool p.df, .bool p.mf, .int .i64 p.off, .int .i64 p.ttl, .int .i64 p.proto, .int .u32 p.src, .int .u32 p.dst, .slice oo p.ol oc, .slice ob p.bl bc], .agg #[.int .i64 tp, .int .u32 ts, .int .i64 sp, .int .u32 td, .int .i64 dp]] w1 fun e w' => ∃ (oo2 ob2 : Option Addr) (oc2 bc2 : Nat), e = .returned (.tuple #[.agg #[.int .i64 p.tos, .int .i64 p.id, .bool p.df, .bool p.mf, .int .i64 p.off, .int .i64 p.ttl, .int .i64 p.proto, .int .u32 ts, .int .u32 td, .slice oo2 p.ol oc2, .slice ob2 p.bl bc2], .int .i64 0]) ∧ Junk w1 w' ∧ IpAt w' q oo2 oc2 ob2 bc2 from
    (rboth_any p oo ob oc bc tp ts sp td dp w1 hp (by omega) (by omega) hts htd).mono fun e w' h => by rw [← hq]; exact h.ok h0)
  have HB2 := Lib.hid (fun oo2 ob2 oc2 bc2 w1 (hp : IpAt w1 q oo2 oc2 ob2 bc2) => show Calls Try.prog 21 #[.agg #[.int .i64 p.tos, .int .i64 p.id, .bool p.df, .bool p.mf, .int .i64 p.off, .int .i64 p.ttl, .int .i64 p.proto, .int .u32 ts, .int .u32 td, .slice oo2 p.ol oc2, .slice ob2 p.bl bc2], .agg #[.int .i64 p.proto, .int .u32 p.src, .int .i64 s0, .int .u32 p.dst, .int .i64 d0]] w1 fun e w' => ∃ (oo3 ob3 : Option Addr) (oc3 bc3 : Nat), e = .returned (.tuple #[.agg #[.int .i64 p.tos, .int .i64 p.id, .bool p.df, .bool p.mf, .int .i64 p.off, .int .i64 p.ttl, .int .i64 p.proto, .int .u32 p.src, .int .u32 p.dst, .slice oo3 p.ol oc3, .slice ob3 p.bl bc3], .int .i64 0]) ∧ Junk w1 w' ∧ IpAt w' (rw2 q ⟨p.proto, p.src, s0, p.dst, d0⟩) oo3 oc3 ob3 bc3 by
    have e : ∀ (x : Ip), x = rw2 p ⟨tp, ts, sp, td, dp⟩ → IpAt w1 x oo2 oc2 ob2 bc2 → rw2Err x ⟨p.proto, p.src, s0, p.dst, d0⟩ = 0 → Calls Try.prog 21 #[.agg #[.int .i64 p.tos, .int .i64 p.id, .bool p.df, .bool p.mf, .int .i64 p.off, .int .i64 p.ttl, .int .i64 p.proto, .int .u32 ts, .int .u32 td, .slice oo2 p.ol oc2, .slice ob2 p.bl bc2], .agg #[.int .i64 p.proto, .int .u32 p.src, .int .i64 s0, .int .u32 p.dst, .int .i64 d0]] w1 fun e w' => ∃ (oo3 ob3 : Option Addr) (oc3 bc3 : Nat), e = .returned (.tuple #[.agg #[.int .i64 p.tos, .int .i64 p.id, .bool p.df, .bool p.mf, .int .i64 p.off, .int .i64 p.ttl, .int .i64 p.proto, .int .u32 p.src, .int .u32 p.dst, .slice oo3 p.ol oc3, .slice ob3 p.bl bc3], .int .i64 0]) ∧ Junk w1 w' ∧ IpAt w' (rw2 x ⟨p.proto, p.src, s0, p.dst, d0⟩) oo3 oc3 ob3 bc3 := fun x hx hp hg => by
      subst hx
      exact (rboth_any _ oo2 ob2 oc2 bc2 p.proto p.src s0 p.dst d0 w1 hp (by show p.bl ≤ _; omega) (by show p.ol ≤ _; omega) hw.src hw.dst).mono fun e w' h => h.ok hg
    exact e q hq.symm hp g0)
  have HOR := Lib.hid (fun oo3 ob3 oc3 bc3 w1 (hp : IpAt w1 (rw2 q ⟨p.proto, p.src, s0, p.dst, d0⟩) oo3 oc3 ob3 bc3) => show Calls Try.prog 20 #[.agg #[.int .i64 p.tos, .int .i64 p.id, .bool p.df, .bool p.mf, .int .i64 p.off, .int .i64 p.ttl, .int .i64 p.proto, .int .u32 p.src, .int .u32 p.dst, .slice oo3 p.ol oc3, .slice ob3 p.bl bc3]] w1 fun e w' => e = .returned (.tuple #[.agg #[.int .i64 p.proto, .int .u32 p.src, .int .i64 s0, .int .u32 p.dst, .int .i64 d0], .int .i64 0]) ∧ Junk w1 w' by
    have e : ∀ (x : Ip), x = rw2 p ⟨tp, ts, sp, td, dp⟩ → ∀ z, rw2 x ⟨p.proto, p.src, s0, p.dst, d0⟩ = z → z.tup = ⟨p.proto, p.src, s0, p.dst, d0⟩ → z.err = 0 → IpAt w1 z oo3 oc3 ob3 bc3 → Calls Try.prog 20 #[.agg #[.int .i64 p.tos, .int .i64 p.id, .bool p.df, .bool p.mf, .int .i64 p.off, .int .i64 p.ttl, .int .i64 p.proto, .int .u32 p.src, .int .u32 p.dst, .slice oo3 p.ol oc3, .slice ob3 p.bl bc3]] w1 fun e w' => e = .returned (.tuple #[.agg #[.int .i64 p.proto, .int .u32 p.src, .int .i64 s0, .int .u32 p.dst, .int .i64 d0], .int .i64 0]) ∧ Junk w1 w' := fun x hx z hz z1 z2 hp => by
      subst hx
      subst hz
      have := ipb_of _ oo3 ob3 oc3 bc3 w1 hp s2
      rw [z1, z2] at this
      exact this
    exact e q hq.symm _ rfl hR2.tup hR2.err hp)
  have hg := tupq_guard
  have hq1 : ∀ w, (binOp .eql 28 (.agg #[.int .i64 p.proto, .int .u32 p.src, .int .i64 s0, .int .u32 p.dst, .int .i64 d0]) (.agg #[.int .i64 p.proto, .int .u32 p.src, .int .i64 s0, .int .u32 p.dst, .int .i64 d0])).run Try.prog w = .ok (.bool true) w := fun w => by have := tupq_eql ⟨p.proto, p.src, s0, p.dst, d0⟩ ⟨p.proto, p.src, s0, p.dst, d0⟩ w; rw [decide_eq_true rfl] at this; exact this
  have b17 : (p.proto == 17) = false := by simpa using hpr.2
  have b1 : (p.proto == 1) = false := by simpa using hpr.1
  have h8 : 8 ≤ p.bl := (of_zero25 e0).2.1
  obtain ⟨r, hr⟩ : ∃ r, rw2 q ⟨p.proto, p.src, s0, p.dst, d0⟩ = r := ⟨_, rfl⟩
  have R2 := Lib.hid (show r.bl = p.bl by rw [← hr]; exact q2)
  rw [hr] at HB2 HOR HBY
  clear hs h0 hP hw o4 o5 o6 o7 o8 hT hT0 e0 hR g0 hR2 hby hk hpr hr q1 q2 hq
  go_enter Try.func6, Try.ntmps6
  go_upto_region 10 with (first | (go_at_call 18; refine (awake25_any _).mono ?_; rintro e w' ⟨rfl, ⟨osj, dj, rfl⟩⟩) | (go_at_call 19; refine (HSH.out _).mono ?_; rintro e w' ⟨rfl, ⟨osj, dj, rfl⟩⟩) | (go_at_call 20; (with_reducible refine (HOF.out _ (HP.out.on (by (first | ((repeat (first | with_reducible exact Junk.refl _ | with_reducible exact Junk.app _ _ _ _ _ | with_reducible apply Junk.alloc | with_reducible apply Junk.junk | with_reducible apply Junk.drew | with_reducible apply Junk.drewN)); done) | ((try simp only [World.junk_junk, Array.append_assoc]); (repeat (first | with_reducible exact Junk.refl _ | with_reducible exact Junk.app _ _ _ _ _ | with_reducible exact Junk.app2 _ _ _ _ _ _ | with_reducible exact Junk.app3 _ _ _ _ _ _ _ | with_reducible exact Junk.app4 _ _ _ _ _ _ _ _ | with_reducible exact Junk.app5 _ _ _ _ _ _ _ _ _ | with_reducible apply Junk.alloc | with_reducible apply Junk.junk | with_reducible apply Junk.drew | with_reducible apply Junk.drewN))))))).mono ?_); rintro e w' ⟨rfl, hj⟩; have hj2 := (show ∀ W, Junk W w' → Junk (((w.alloc (.cells #[.int .i64 p.tos, .int .i64 p.id, .bool p.df, .bool p.mf, .int .i64 p.off, .int .i64 p.ttl, .int .i64 p.proto, .int .u32 p.src, .int .u32 p.dst, .slice oo p.ol oc, .slice ob p.bl bc] 43)).alloc (.cells #[.int .i64 tp, .int .u32 ts, .int .i64 sp, .int .u32 td, .int .i64 dp] 28))) W → Junk (((w.alloc (.cells #[.int .i64 p.tos, .int .i64 p.id, .bool p.df, .bool p.mf, .int .i64 p.off, .int .i64 p.ttl, .int .i64 p.proto, .int .u32 p.src, .int .u32 p.dst, .slice oo p.ol oc, .slice ob p.bl bc] 43)).alloc (.cells #[.int .i64 tp, .int .u32 ts, .int .i64 sp, .int .u32 td, .int .i64 dp] 28))) w' from fun _ a b => b.trans a) _ hj (by (first | ((repeat (first | with_reducible exact Junk.refl _ | with_reducible exact Junk.app _ _ _ _ _ | with_reducible apply Junk.alloc | with_reducible apply Junk.junk | with_reducible apply Junk.drew | with_reducible apply Junk.drewN)); done) | ((try simp only [World.junk_junk, Array.append_assoc]); (repeat (first | with_reducible exact Junk.refl _ | with_reducible exact Junk.app _ _ _ _ _ | with_reducible exact Junk.app2 _ _ _ _ _ _ | with_reducible exact Junk.app3 _ _ _ _ _ _ _ | with_reducible exact Junk.app4 _ _ _ _ _ _ _ _ | with_reducible exact Junk.app5 _ _ _ _ _ _ _ _ _ | with_reducible apply Junk.alloc | with_reducible apply Junk.junk | with_reducible apply Junk.drew | with_reducible apply Junk.drewN))))); clear hj; obtain ⟨os1, d1, rfl⟩ := hj2) | (go_at_call 21; (with_reducible refine (HBO.out _ (HP.out.on (by (first | ((repeat (first | with_reducible exact Junk.refl _ | with_reducible exact Junk.app _ _ _ _ _ | with_reducible apply Junk.alloc | with_reducible apply Junk.junk | with_reducible apply Junk.drew | with_reducible apply Junk.drewN)); done) | ((try simp only [World.junk_junk, Array.append_assoc]); (repeat (first | with_reducible exact Junk.refl _ | with_reducible exact Junk.app _ _ _ _ _ | with_reducible exact Junk.app2 _ _ _ _ _ _ | with_reducible exact Junk.app3 _ _ _ _ _ _ _ | with_reducible exact Junk.app4 _ _ _ _ _ _ _ _ | with_reducible exact Junk.app5 _ _ _ _ _ _ _ _ _ | with_reducible apply Junk.alloc | with_reducible apply Junk.junk | with_reducible apply Junk.drew | with_reducible apply Junk.drewN))))))).mono ?_); rintro e w' ⟨oo2, ob2, oc2, bc2, rfl, ⟨os2, d2, rfl⟩, hp2⟩; have HP2 := Lib.hid hp2; clear hp2) | (go_at_call 21; (with_reducible refine (HB2.out oo2 ob2 oc2 bc2 _ (HP2.out.on (by (first | ((repeat (first | with_reducible exact Junk.refl _ | with_reducible exact Junk.app _ _ _ _ _ | with_reducible apply Junk.alloc | with_reducible apply Junk.junk | with_reducible apply Junk.drew | with_reducible apply Junk.drewN)); done) | ((try simp only [World.junk_junk, Array.append_assoc]); (repeat (first | with_reducible exact Junk.refl _ | with_reducible exact Junk.app _ _ _ _ _ | with_reducible exact Junk.app2 _ _ _ _ _ _ | with_reducible exact Junk.app3 _ _ _ _ _ _ _ | with_reducible exact Junk.app4 _ _ _ _ _ _ _ _ | with_reducible exact Junk.app5 _ _ _ _ _ _ _ _ _ | with_reducible apply Junk.alloc | with_reducible apply Junk.junk | with_reducible apply Junk.drew | with_reducible apply Junk.drewN))))))).mono ?_); rintro e w' ⟨oo3, ob3, oc3, bc3, rfl, ⟨os3, d3, rfl⟩, hp3⟩; have HP3 := Lib.hid hp3; clear hp3))
  go_wp2
  have HCS : CsH [(w.heap.size, 7, .int .u32 p.src), (w.heap.size, 8, .int .u32 p.dst), (w.heap.size, 10, .slice ob p.bl bc), ((w.heap.size + 1 + 1 + os1.size), 0, .int .i64 p.proto), ((w.heap.size + 1 + 1 + os1.size), 1, .int .u32 p.src), ((w.heap.size + 1 + 1 + os1.size), 2, .int .i64 s0), ((w.heap.size + 1 + 1 + os1.size), 3, .int .u32 p.dst), ((w.heap.size + 1 + 1 + os1.size), 4, .int .i64 d0), ((w.heap.size + 1 + 1 + os1.size + 1 + os2.size + 1 + os3.size), 0, .int .i64 p.tos), ((w.heap.size + 1 + 1 + os1.size + 1 + os2.size + 1 + os3.size), 1, .int .i64 p.id), ((w.heap.size + 1 + 1 + os1.size + 1 + os2.size + 1 + os3.size), 2, .bool p.df), ((w.heap.size + 1 + 1 + os1.size + 1 + os2.size + 1 + os3.size), 3, .bool p.mf), ((w.heap.size + 1 + 1 + os1.size + 1 + os2.size + 1 + os3.size), 4, .int .i64 p.off), ((w.heap.size + 1 + 1 + os1.size + 1 + os2.size + 1 + os3.size), 5, .int .i64 p.ttl), ((w.heap.size + 1 + 1 + os1.size + 1 + os2.size + 1 + os3.size), 6, .int .i64 p.proto), ((w.heap.size + 1 + 1 + os1.size + 1 + os2.size + 1 + os3.size), 7, .int .u32 p.src), ((w.heap.size + 1 + 1 + os1.size + 1 + os2.size + 1 + os3.size), 8, .int .u32 p.dst), ((w.heap.size + 1 + 1 + os1.size + 1 + os2.size + 1 + os3.size), 9, .slice oo3 p.ol oc3), ((w.heap.size + 1 + 1 + os1.size + 1 + os2.size + 1 + os3.size), 10, .slice ob3 p.bl bc3)] ((((((((((w.alloc (.cells #[.int .i64 p.tos, .int .i64 p.id, .bool p.df, .bool p.mf, .int .i64 p.off, .int .i64 p.ttl, .int .i64 p.proto, .int .u32 p.src, .int .u32 p.dst, .slice oo p.ol oc, .slice ob p.bl bc] 43)).alloc (.cells #[.int .i64 tp, .int .u32 ts, .int .i64 sp, .int .u32 td, .int .i64 dp] 28))).junk os1 d1).alloc (.cells #[.int .i64 p.proto, .int .u32 p.src, .int .i64 s0, .int .u32 p.dst, .int .i64 d0] 28)).junk os2 d2).alloc (.cells #[.int .i64 p.tos, .int .i64 p.id, .bool p.df, .bool p.mf, .int .i64 p.off, .int .i64 p.ttl, .int .i64 p.proto, .int .u32 ts, .int .u32 td, .slice oo2 p.ol oc2, .slice ob2 p.bl bc2] 43)).junk os3 d3).alloc (.cells #[.int .i64 p.tos, .int .i64 p.id, .bool p.df, .bool p.mf, .int .i64 p.off, .int .i64 p.ttl, .int .i64 p.proto, .int .u32 p.src, .int .u32 p.dst, .slice oo3 p.ol oc3, .slice ob3 p.bl bc3] 43))) := by
    repeat (refine CsH.cons.2 ⟨⟨(by simp; try omega), (by go_simp), (by go_simp)⟩, ?_⟩)
    exact CsH.nil _
  have HJV := Lib.hid (show Junk w ((((((((((w.alloc (.cells #[.int .i64 p.tos, .int .i64 p.id, .bool p.df, .bool p.mf, .int .i64 p.off, .int .i64 p.ttl, .int .i64 p.proto, .int .u32 p.src, .int .u32 p.dst, .slice oo p.ol oc, .slice ob p.bl bc] 43)).alloc (.cells #[.int .i64 tp, .int .u32 ts, .int .i64 sp, .int .u32 td, .int .i64 dp] 28))).junk os1 d1).alloc (.cells #[.int .i64 p.proto, .int .u32 p.src, .int .i64 s0, .int .u32 p.dst, .int .i64 d0] 28)).junk os2 d2).alloc (.cells #[.int .i64 p.tos, .int .i64 p.id, .bool p.df, .bool p.mf, .int .i64 p.off, .int .i64 p.ttl, .int .i64 p.proto, .int .u32 ts, .int .u32 td, .slice oo2 p.ol oc2, .slice ob2 p.bl bc2] 43)).junk os3 d3).alloc (.cells #[.int .i64 p.tos, .int .i64 p.id, .bool p.df, .bool p.mf, .int .i64 p.off, .int .i64 p.ttl, .int .i64 p.proto, .int .u32 p.src, .int .u32 p.dst, .slice oo3 p.ol oc3, .slice ob3 p.bl bc3] 43))) by (first | ((repeat (first | with_reducible exact Junk.refl _ | with_reducible exact Junk.app _ _ _ _ _ | with_reducible apply Junk.alloc | with_reducible apply Junk.junk | with_reducible apply Junk.drew | with_reducible apply Junk.drewN)); done) | ((try simp only [World.junk_junk, Array.append_assoc]); (repeat (first | with_reducible exact Junk.refl _ | with_reducible exact Junk.app _ _ _ _ _ | with_reducible exact Junk.app2 _ _ _ _ _ _ | with_reducible exact Junk.app3 _ _ _ _ _ _ _ | with_reducible exact Junk.app4 _ _ _ _ _ _ _ _ | with_reducible exact Junk.app5 _ _ _ _ _ _ _ _ _ | with_reducible apply Junk.alloc | with_reducible apply Junk.junk | with_reducible apply Junk.drew | with_reducible apply Junk.drewN)))))
  have HY1 := Lib.hid (HP.out.body.on (show Junk _ ((((((((((w.alloc (.cells #[.int .i64 p.tos, .int .i64 p.id, .bool p.df, .bool p.mf, .int .i64 p.off, .int .i64 p.ttl, .int .i64 p.proto, .int .u32 p.src, .int .u32 p.dst, .slice oo p.ol oc, .slice ob p.bl bc] 43)).alloc (.cells #[.int .i64 tp, .int .u32 ts, .int .i64 sp, .int .u32 td, .int .i64 dp] 28))).junk os1 d1).alloc (.cells #[.int .i64 p.proto, .int .u32 p.src, .int .i64 s0, .int .u32 p.dst, .int .i64 d0] 28)).junk os2 d2).alloc (.cells #[.int .i64 p.tos, .int .i64 p.id, .bool p.df, .bool p.mf, .int .i64 p.off, .int .i64 p.ttl, .int .i64 p.proto, .int .u32 ts, .int .u32 td, .slice oo2 p.ol oc2, .slice ob2 p.bl bc2] 43)).junk os3 d3).alloc (.cells #[.int .i64 p.tos, .int .i64 p.id, .bool p.df, .bool p.mf, .int .i64 p.off, .int .i64 p.ttl, .int .i64 p.proto, .int .u32 p.src, .int .u32 p.dst, .slice oo3 p.ol oc3, .slice ob3 p.bl bc3] 43))) by (first | ((repeat (first | with_reducible exact Junk.refl _ | with_reducible exact Junk.app _ _ _ _ _ | with_reducible apply Junk.alloc | with_reducible apply Junk.junk | with_reducible apply Junk.drew | with_reducible apply Junk.drewN)); done) | ((try simp only [World.junk_junk, Array.append_assoc]); (repeat (first | with_reducible exact Junk.refl _ | with_reducible exact Junk.app _ _ _ _ _ | with_reducible exact Junk.app2 _ _ _ _ _ _ | with_reducible exact Junk.app3 _ _ _ _ _ _ _ | with_reducible exact Junk.app4 _ _ _ _ _ _ _ _ | with_reducible exact Junk.app5 _ _ _ _ _ _ _ _ _ | with_reducible apply Junk.alloc | with_reducible apply Junk.junk | with_reducible apply Junk.drew | with_reducible apply Junk.drewN))))))
  have HP5 := Lib.hid (HP3.out.on (show Junk _ ((((((((((w.alloc (.cells #[.int .i64 p.tos, .int .i64 p.id, .bool p.df, .bool p.mf, .int .i64 p.off, .int .i64 p.ttl, .int .i64 p.proto, .int .u32 p.src, .int .u32 p.dst, .slice oo p.ol oc, .slice ob p.bl bc] 43)).alloc (.cells #[.int .i64 tp, .int .u32 ts, .int .i64 sp, .int .u32 td, .int .i64 dp] 28))).junk os1 d1).alloc (.cells #[.int .i64 p.proto, .int .u32 p.src, .int .i64 s0, .int .u32 p.dst, .int .i64 d0] 28)).junk os2 d2).alloc (.cells #[.int .i64 p.tos, .int .i64 p.id, .bool p.df, .bool p.mf, .int .i64 p.off, .int .i64 p.ttl, .int .i64 p.proto, .int .u32 ts, .int .u32 td, .slice oo2 p.ol oc2, .slice ob2 p.bl bc2] 43)).junk os3 d3).alloc (.cells #[.int .i64 p.tos, .int .i64 p.id, .bool p.df, .bool p.mf, .int .i64 p.off, .int .i64 p.ttl, .int .i64 p.proto, .int .u32 p.src, .int .u32 p.dst, .slice oo3 p.ol oc3, .slice ob3 p.bl bc3] 43))) by (first | ((repeat (first | with_reducible exact Junk.refl _ | with_reducible exact Junk.app _ _ _ _ _ | with_reducible apply Junk.alloc | with_reducible apply Junk.junk | with_reducible apply Junk.drew | with_reducible apply Junk.drewN)); done) | ((try simp only [World.junk_junk, Array.append_assoc]); (repeat (first | with_reducible exact Junk.refl _ | with_reducible exact Junk.app _ _ _ _ _ | with_reducible exact Junk.app2 _ _ _ _ _ _ | with_reducible exact Junk.app3 _ _ _ _ _ _ _ | with_reducible exact Junk.app4 _ _ _ _ _ _ _ _ | with_reducible exact Junk.app5 _ _ _ _ _ _ _ _ _ | with_reducible apply Junk.alloc | with_reducible apply Junk.junk | with_reducible apply Junk.drew | with_reducible apply Junk.drewN))))))
  have hy2 := HP5.out.body
  rw [R2.out] at hy2
  have HY2 := Lib.hid hy2
  clear hy2 HBO HB2 HOF HSH HP HP2 HP3
  generalize (((((((((w.alloc (.cells #[.int .i64 p.tos, .int .i64 p.id, .bool p.df, .bool p.mf, .int .i64 p.off, .int .i64 p.ttl, .int .i64 p.proto, .int .u32 p.src, .int .u32 p.dst, .slice oo p.ol oc, .slice ob p.bl bc] 43)).alloc (.cells #[.int .i64 tp, .int .u32 ts, .int .i64 sp, .int .u32 td, .int .i64 dp] 28))).junk os1 d1).alloc (.cells #[.int .i64 p.proto, .int .u32 p.src, .int .i64 s0, .int .u32 p.dst, .int .i64 d0] 28)).junk os2 d2).alloc (.cells #[.int .i64 p.tos, .int .i64 p.id, .bool p.df, .bool p.mf, .int .i64 p.off, .int .i64 p.ttl, .int .i64 p.proto, .int .u32 ts, .int .u32 td, .slice oo2 p.ol oc2, .slice ob2 p.bl bc2] 43)).junk os3 d3).alloc (.cells #[.int .i64 p.tos, .int .i64 p.id, .bool p.df, .bool p.mf, .int .i64 p.off, .int .i64 p.ttl, .int .i64 p.proto, .int .u32 p.src, .int .u32 p.dst, .slice oo3 p.ol oc3, .slice ob3 p.bl bc3] 43)) = V at HCS HJV HY1 HY2 HP5 ⊢
  generalize hbr : (w.heap.size + 1 + 1 + os1.size + 1 + os2.size + 1 + os3.size) = br at HCS ⊢
  generalize hbo : (w.heap.size + 1 + 1 + os1.size) = bo at HCS ⊢
  clear hbr hbo
  generalize w.heap.size = bp at HCS ⊢
  obtain ⟨sp, mp7, _⟩ := HCS (bp, 7, .int .u32 p.src) (by simp)
  obtain ⟨_, mp8, _⟩ := HCS (bp, 8, .int .u32 p.dst) (by simp)
  obtain ⟨_, mp10, _⟩ := HCS (bp, 10, .slice ob p.bl bc) (by simp)
  obtain ⟨so, mo0, _⟩ := HCS (bo, 0, .int .i64 p.proto) (by simp)
  obtain ⟨_, mo1, _⟩ := HCS (bo, 1, .int .u32 p.src) (by simp)
  obtain ⟨_, mo2, _⟩ := HCS (bo, 2, .int .i64 s0) (by simp)
  obtain ⟨_, mo3, _⟩ := HCS (bo, 3, .int .u32 p.dst) (by simp)
  obtain ⟨_, mo4, _⟩ := HCS (bo, 4, .int .i64 d0) (by simp)
  obtain ⟨sq, mq0, _⟩ := HCS (br, 0, .int .i64 p.tos) (by simp)
  obtain ⟨_, mq1, _⟩ := HCS (br, 1, .int .i64 p.id) (by simp)
  obtain ⟨_, mq2, _⟩ := HCS (br, 2, .bool p.df) (by simp)
  obtain ⟨_, mq3, _⟩ := HCS (br, 3, .bool p.mf) (by simp)
  obtain ⟨_, mq4, _⟩ := HCS (br, 4, .int .i64 p.off) (by simp)
  obtain ⟨_, mq5, _⟩ := HCS (br, 5, .int .i64 p.ttl) (by simp)
  obtain ⟨_, mq6, _⟩ := HCS (br, 6, .int .i64 p.proto) (by simp)
  obtain ⟨_, mq7, _⟩ := HCS (br, 7, .int .u32 p.src) (by simp)
  obtain ⟨_, mq8, _⟩ := HCS (br, 8, .int .u32 p.dst) (by simp)
  obtain ⟨_, mq9, _⟩ := HCS (br, 9, .slice oo3 p.ol oc3) (by simp)
  obtain ⟨_, mq10, _⟩ := HCS (br, 10, .slice ob3 p.bl bc3) (by simp)
  clear HCS
  obtain ⟨bb, bo2, rfl, hbb, _⟩ := HY1.out.at_ 0 (by omega)
  obtain ⟨bb2, bo3, rfl, hbb2, _⟩ := HY2.out.at_ 0 (by omega)
  go_loopw [12] (fun i wr => ∃ k : Nat, k ≤ p.bl ∧ i = .int .i64 k ∧ Junk V wr) (fun i _ => p.bl - (intOf i).toNat)
  case atStart => exact ⟨0, by omega, rfl, Junk.refl _⟩
  case round =>
    obtain ⟨k, hk, rfl, ⟨os, d, rfl⟩⟩ := hrel
    by_cases hlt : k < p.bl
    · obtain ⟨b1, off1, he1, _, hc1⟩ := HY1.out.at_ k hlt
      obtain ⟨b2, off2, he2, _, hc2⟩ := HY2.out.at_ k hlt
      cases he1
      cases he2
      have l1 : (k : Int) < (p.bl : Int) := by omega
      have w1 := wrapk_i64 ((k : Int) + 1) (by omega) (by omega)
      by_cases k1 : k = 16
      · have c1 : ((k : Int) != 16) = false := by simp; omega
        clear k1
        go_wp2
        refine wp_region_junk (by kernel_rfl) (by kernel_rfl) ?_; (repeat (go_big_quiet_step (first | fail))); refine wpQuiet_nil ?_; rintro _ ⟨⟨osq, dq⟩, rfl⟩
        go_wp2
        exact ⟨⟨k + 1, by omega, by go_num, by (first | ((repeat (first | with_reducible exact Junk.refl _ | with_reducible exact Junk.app _ _ _ _ _ | with_reducible apply Junk.alloc | with_reducible apply Junk.junk | with_reducible apply Junk.drew | with_reducible apply Junk.drewN)); done) | ((try simp only [World.junk_junk, Array.append_assoc]); (repeat (first | with_reducible exact Junk.refl _ | with_reducible exact Junk.app _ _ _ _ _ | with_reducible exact Junk.app2 _ _ _ _ _ _ | with_reducible exact Junk.app3 _ _ _ _ _ _ _ | with_reducible exact Junk.app4 _ _ _ _ _ _ _ _ | with_reducible exact Junk.app5 _ _ _ _ _ _ _ _ _ | with_reducible apply Junk.alloc | with_reducible apply Junk.junk | with_reducible apply Junk.drew | with_reducible apply Junk.drewN))))⟩, by simp [intOf]; omega⟩
      · have c1 : ((k : Int) != 16) = true := by simp; omega
        by_cases k2 : k = 16 + 1
        · have c2 : ((k : Int) != 17) = false := by simp; omega
          clear k1 k2
          go_wp2
          refine wp_region_junk (by kernel_rfl) (by kernel_rfl) ?_; (repeat (go_big_quiet_step (first | fail))); refine wpQuiet_nil ?_; rintro _ ⟨⟨osq, dq⟩, rfl⟩
          go_wp2
          exact ⟨⟨k + 1, by omega, by go_num, by (first | ((repeat (first | with_reducible exact Junk.refl _ | with_reducible exact Junk.app _ _ _ _ _ | with_reducible apply Junk.alloc | with_reducible apply Junk.junk | with_reducible apply Junk.drew | with_reducible apply Junk.drewN)); done) | ((try simp only [World.junk_junk, Array.append_assoc]); (repeat (first | with_reducible exact Junk.refl _ | with_reducible exact Junk.app _ _ _ _ _ | with_reducible exact Junk.app2 _ _ _ _ _ _ | with_reducible exact Junk.app3 _ _ _ _ _ _ _ | with_reducible exact Junk.app4 _ _ _ _ _ _ _ _ | with_reducible exact Junk.app5 _ _ _ _ _ _ _ _ _ | with_reducible apply Junk.alloc | with_reducible apply Junk.junk | with_reducible apply Junk.drew | with_reducible apply Junk.drewN))))⟩, by simp [intOf]; omega⟩
        · have c2 : ((k : Int) != 17) = true := by simp; omega
          have hxy : (p.body k != r.body k) = false := by rw [HBY.out k hlt k1 k2]; simp
          clear k1 k2
          go_wp2
          refine wp_region_junk (by kernel_rfl) (by kernel_rfl) ?_; (repeat (go_big_quiet_step (first | fail))); refine wpQuiet_nil ?_; rintro _ ⟨⟨osq, dq⟩, rfl⟩
          go_wp2
          exact ⟨⟨k + 1, by omega, by go_num, by (first | ((repeat (first | with_reducible exact Junk.refl _ | with_reducible exact Junk.app _ _ _ _ _ | with_reducible apply Junk.alloc | with_reducible apply Junk.junk | with_reducible apply Junk.drew | with_reducible apply Junk.drewN)); done) | ((try simp only [World.junk_junk, Array.append_assoc]); (repeat (first | with_reducible exact Junk.refl _ | with_reducible exact Junk.app _ _ _ _ _ | with_reducible exact Junk.app2 _ _ _ _ _ _ | with_reducible exact Junk.app3 _ _ _ _ _ _ _ | with_reducible exact Junk.app4 _ _ _ _ _ _ _ _ | with_reducible exact Junk.app5 _ _ _ _ _ _ _ _ _ | with_reducible apply Junk.alloc | with_reducible apply Junk.junk | with_reducible apply Junk.drew | with_reducible apply Junk.drewN))))⟩, by simp [intOf]; omega⟩
    · have l1 : ¬ (k : Int) < (p.bl : Int) := by omega
      go_wp2_with (first | (go_at_call 20; (with_reducible refine (HOR.out _ _ _ _ _ (HP5.out.on (by (first | ((repeat (first | with_reducible exact Junk.refl _ | with_reducible exact Junk.app _ _ _ _ _ | with_reducible apply Junk.alloc | with_reducible apply Junk.junk | with_reducible apply Junk.drew | with_reducible apply Junk.drewN)); done) | ((try simp only [World.junk_junk, Array.append_assoc]); (repeat (first | with_reducible exact Junk.refl _ | with_reducible exact Junk.app _ _ _ _ _ | with_reducible exact Junk.app2 _ _ _ _ _ _ | with_reducible exact Junk.app3 _ _ _ _ _ _ _ | with_reducible exact Junk.app4 _ _ _ _ _ _ _ _ | with_reducible exact Junk.app5 _ _ _ _ _ _ _ _ _ | with_reducible apply Junk.alloc | with_reducible apply Junk.junk | with_reducible apply Junk.drew | with_reducible apply Junk.drewN))))))).mono ?_); rintro e w' ⟨rfl, ⟨osj, dj, rfl⟩⟩))
      all_goals (go_ret; exact ⟨ret_bool rfl, HJV.out.trans (by (first | ((repeat (first | with_reducible exact Junk.refl _ | with_reducible exact Junk.app _ _ _ _ _ | with_reducible apply Junk.alloc | with_reducible apply Junk.junk | with_reducible apply Junk.drew | with_reducible apply Junk.drewN)); done) | ((try simp only [World.junk_junk, Array.append_assoc]); (repeat (first | with_reducible exact Junk.refl _ | with_reducible exact Junk.app _ _ _ _ _ | with_reducible exact Junk.app2 _ _ _ _ _ _ | with_reducible exact Junk.app3 _ _ _ _ _ _ _ | with_reducible exact Junk.app4 _ _ _ _ _ _ _ _ | with_reducible exact Junk.app5 _ _ _ _ _ _ _ _ _ | with_reducible apply Junk.alloc | with_reducible apply Junk.junk | with_reducible apply Junk.drew | with_reducible apply Junk.drewN)))))⟩)
set_option maxHeartbeats 8000000 in
theorem rewriteBack_u (p : Ip) (oo ob : Option Addr) (oc bc : Nat) (tp ts sp td dp : Int) (w : World) (hP : IpAt w p oo oc ob bc) (hts : 0 ≤ ts ∧ ts ≤ 4294967295) (htd : 0 ≤ td ∧ td ≤ 4294967295) (hs : shortB p = true) (h0 : rw2Err p ⟨tp, ts, sp, td, dp⟩ = 0) (hpr : p.proto = 17) : Calls Try.prog 6 #[.agg #[.int .i64 p.tos, .int .i64 p.id, .bool p.df, .bool p.mf, .int .i64 p.off, .int .i64 p.ttl, .int .i64 p.proto, .int .u32 p.src, .int .u32 p.dst, .slice oo p.ol oc, .slice ob p.bl bc], .agg #[.int .i64 tp, .int .u32 ts, .int .i64 sp, .int .u32 td, .int .i64 dp]] w fun e w' => e = .returned (.bool true) ∧ Junk w w' := by
  have HP := Lib.hid hP
  obtain ⟨s1, s2⟩ := shortB_true hs
  have HSH := Lib.hid (fun w1 => show Calls Try.prog 19 #[.agg #[.int .i64 p.tos, .int .i64 p.id, .bool p.df, .bool p.mf, .int .i64 p.off, .int .i64 p.ttl, .int .i64 p.proto, .int .u32 p.src, .int .u32 p.dst, .slice oo p.ol oc, .slice ob p.bl bc]] w1 fun e w' => e = .returned (.bool true) ∧ Junk w1 w' by rw [← hs]; exact short_any p oo ob oc bc w1)
  have hw := hP.w
  obtain ⟨e0, -, hR⟩ := rw2_ok h0 hw hts htd
  obtain ⟨o1, o2, o3, o4, o5, o6, o7, o8⟩ := own_may e0 hw
  obtain ⟨⟨t0, t1, s0, t3, d0⟩, hT⟩ : ∃ t, p.tup = t := ⟨_, rfl⟩
  have hT0 := hT
  rw [hT] at o1 o2 o3 o4 o5 o6 o7 o8
  obtain rfl : t0 = p.proto := o1
  obtain rfl : t1 = p.src := o2
  obtain rfl : t3 = p.dst := o3
  obtain ⟨q, hq⟩ : ∃ q, rw2 p ⟨tp, ts, sp, td, dp⟩ = q := ⟨_, rfl⟩
  have q1 : q.proto = p.proto := by rw [← hq]; rfl
  have q2 : q.bl = p.bl := by rw [← hq]; rfl
  rw [hq] at hR
  have g0 : rw2Err q ⟨p.proto, p.src, s0, p.dst, d0⟩ = 0 := rw2_of hR.err hR.w q1 o4 hw.src o5 o6
  obtain ⟨-, -, hR2⟩ := rw2_ok g0 hR.w hw.src hw.dst
  have hby := back_bytes hR hR2 q1 q2 (show (rw2 q _).bl = p.bl from q2) (of_zero25 e0).2.1 hw o7 o8
  have hk : rwSum p.proto = 6 := by rw [hpr]; rfl
  rw [hk] at hby
  have HBY := Lib.hid hby
  have HOF := Lib.hid (fun w1 (hp : IpAt w1 p oo oc ob bc) => show Calls Try.prog 20 #[.agg #[.int .i64 p.tos, .int .i64 p.id, .bool p.df, .bool p.mf, .int .i64 p.off, .int .i64 p.ttl, .int .i64 p.proto, .int .u32 p.src, .int .u32 p.dst, .slice oo p.ol oc, .slice ob p.bl bc]] w1 fun e w' => e = .returned (.tuple #[.agg #[.int .i64 p.proto, .int .u32 p.src, .int .i64 s0, .int .u32 p.dst, .int .i64 d0], .int .i64 0]) ∧ Junk w1 w' by
    have := ipb_of p oo ob oc bc w1 hp s2
    rw [hT0, e0] at this
    exact this)
  have HBO := Lib.hid (fun w1 (hp : IpAt w1 p oo oc ob bc) => show Calls Try.prog 21 #[.agg #[.int .i64 p.tos, .int .i64 p.id, .bool p.df, .bool p.mf, .int .i64 p.off, .int .i64 p.ttl, .int .i64 p.proto, .int .u32 p.src, .int .u32 p.dst, .slice oo p.ol oc, .slice ob p.bl bc], .agg #[.int .i64 tp, .int .u32 ts, .int .i64 sp, .int .u32 td, .int .i64 dp]] w1 fun e w' => ∃ (oo2 ob2 : Option Addr) (oc2 bc2 : Nat), e = .returned (.tuple #[.agg #[.int .i64 p.tos, .int .i64 p.id, .bool p.df, .bool p.mf, .int .i64 p.off, .int .i64 p.ttl, .int .i64 p.proto, .int .u32 ts, .int .u32 td, .slice oo2 p.ol oc2, .slice ob2 p.bl bc2], .int .i64 0]) ∧ Junk w1 w' ∧ IpAt w' q oo2 oc2 ob2 bc2 from
    (rboth_any p oo ob oc bc tp ts sp td dp w1 hp (by omega) (by omega) hts htd).mono fun e w' h => by rw [← hq]; exact h.ok h0)
  have HB2 := Lib.hid (fun oo2 ob2 oc2 bc2 w1 (hp : IpAt w1 q oo2 oc2 ob2 bc2) => show Calls Try.prog 21 #[.agg #[.int .i64 p.tos, .int .i64 p.id, .bool p.df, .bool p.mf, .int .i64 p.off, .int .i64 p.ttl, .int .i64 p.proto, .int .u32 ts, .int .u32 td, .slice oo2 p.ol oc2, .slice ob2 p.bl bc2], .agg #[.int .i64 p.proto, .int .u32 p.src, .int .i64 s0, .int .u32 p.dst, .int .i64 d0]] w1 fun e w' => ∃ (oo3 ob3 : Option Addr) (oc3 bc3 : Nat), e = .returned (.tuple #[.agg #[.int .i64 p.tos, .int .i64 p.id, .bool p.df, .bool p.mf, .int .i64 p.off, .int .i64 p.ttl, .int .i64 p.proto, .int .u32 p.src, .int .u32 p.dst, .slice oo3 p.ol oc3, .slice ob3 p.bl bc3], .int .i64 0]) ∧ Junk w1 w' ∧ IpAt w' (rw2 q ⟨p.proto, p.src, s0, p.dst, d0⟩) oo3 oc3 ob3 bc3 by
    have e : ∀ (x : Ip), x = rw2 p ⟨tp, ts, sp, td, dp⟩ → IpAt w1 x oo2 oc2 ob2 bc2 → rw2Err x ⟨p.proto, p.src, s0, p.dst, d0⟩ = 0 → Calls Try.prog 21 #[.agg #[.int .i64 p.tos, .int .i64 p.id, .bool p.df, .bool p.mf, .int .i64 p.off, .int .i64 p.ttl, .int .i64 p.proto, .int .u32 ts, .int .u32 td, .slice oo2 p.ol oc2, .slice ob2 p.bl bc2], .agg #[.int .i64 p.proto, .int .u32 p.src, .int .i64 s0, .int .u32 p.dst, .int .i64 d0]] w1 fun e w' => ∃ (oo3 ob3 : Option Addr) (oc3 bc3 : Nat), e = .returned (.tuple #[.agg #[.int .i64 p.tos, .int .i64 p.id, .bool p.df, .bool p.mf, .int .i64 p.off, .int .i64 p.ttl, .int .i64 p.proto, .int .u32 p.src, .int .u32 p.dst, .slice oo3 p.ol oc3, .slice ob3 p.bl bc3], .int .i64 0]) ∧ Junk w1 w' ∧ IpAt w' (rw2 x ⟨p.proto, p.src, s0, p.dst, d0⟩) oo3 oc3 ob3 bc3 := fun x hx hp hg => by
      subst hx
      exact (rboth_any _ oo2 ob2 oc2 bc2 p.proto p.src s0 p.dst d0 w1 hp (by show p.bl ≤ _; omega) (by show p.ol ≤ _; omega) hw.src hw.dst).mono fun e w' h => h.ok hg
    exact e q hq.symm hp g0)
  have HOR := Lib.hid (fun oo3 ob3 oc3 bc3 w1 (hp : IpAt w1 (rw2 q ⟨p.proto, p.src, s0, p.dst, d0⟩) oo3 oc3 ob3 bc3) => show Calls Try.prog 20 #[.agg #[.int .i64 p.tos, .int .i64 p.id, .bool p.df, .bool p.mf, .int .i64 p.off, .int .i64 p.ttl, .int .i64 p.proto, .int .u32 p.src, .int .u32 p.dst, .slice oo3 p.ol oc3, .slice ob3 p.bl bc3]] w1 fun e w' => e = .returned (.tuple #[.agg #[.int .i64 p.proto, .int .u32 p.src, .int .i64 s0, .int .u32 p.dst, .int .i64 d0], .int .i64 0]) ∧ Junk w1 w' by
    have e : ∀ (x : Ip), x = rw2 p ⟨tp, ts, sp, td, dp⟩ → ∀ z, rw2 x ⟨p.proto, p.src, s0, p.dst, d0⟩ = z → z.tup = ⟨p.proto, p.src, s0, p.dst, d0⟩ → z.err = 0 → IpAt w1 z oo3 oc3 ob3 bc3 → Calls Try.prog 20 #[.agg #[.int .i64 p.tos, .int .i64 p.id, .bool p.df, .bool p.mf, .int .i64 p.off, .int .i64 p.ttl, .int .i64 p.proto, .int .u32 p.src, .int .u32 p.dst, .slice oo3 p.ol oc3, .slice ob3 p.bl bc3]] w1 fun e w' => e = .returned (.tuple #[.agg #[.int .i64 p.proto, .int .u32 p.src, .int .i64 s0, .int .u32 p.dst, .int .i64 d0], .int .i64 0]) ∧ Junk w1 w' := fun x hx z hz z1 z2 hp => by
      subst hx
      subst hz
      have := ipb_of _ oo3 ob3 oc3 bc3 w1 hp s2
      rw [z1, z2] at this
      exact this
    exact e q hq.symm _ rfl hR2.tup hR2.err hp)
  have hg := tupq_guard
  have hq1 : ∀ w, (binOp .eql 28 (.agg #[.int .i64 p.proto, .int .u32 p.src, .int .i64 s0, .int .u32 p.dst, .int .i64 d0]) (.agg #[.int .i64 p.proto, .int .u32 p.src, .int .i64 s0, .int .u32 p.dst, .int .i64 d0])).run Try.prog w = .ok (.bool true) w := fun w => by have := tupq_eql ⟨p.proto, p.src, s0, p.dst, d0⟩ ⟨p.proto, p.src, s0, p.dst, d0⟩ w; rw [decide_eq_true rfl] at this; exact this
  have b17 : (p.proto == 17) = true := by simpa using hpr
  have b1 : (p.proto == 1) = false := by rw [hpr]; rfl
  have h8 : 8 ≤ p.bl := (of_zero25 e0).2.1
  obtain ⟨r, hr⟩ : ∃ r, rw2 q ⟨p.proto, p.src, s0, p.dst, d0⟩ = r := ⟨_, rfl⟩
  have R2 := Lib.hid (show r.bl = p.bl by rw [← hr]; exact q2)
  rw [hr] at HB2 HOR HBY
  clear hs h0 hP hw o4 o5 o6 o7 o8 hT hT0 e0 hR g0 hR2 hby hk hpr hr q1 q2 hq
  go_enter Try.func6, Try.ntmps6
  go_upto_region 10 with (first | (go_at_call 18; refine (awake25_any _).mono ?_; rintro e w' ⟨rfl, ⟨osj, dj, rfl⟩⟩) | (go_at_call 19; refine (HSH.out _).mono ?_; rintro e w' ⟨rfl, ⟨osj, dj, rfl⟩⟩) | (go_at_call 20; (with_reducible refine (HOF.out _ (HP.out.on (by (first | ((repeat (first | with_reducible exact Junk.refl _ | with_reducible exact Junk.app _ _ _ _ _ | with_reducible apply Junk.alloc | with_reducible apply Junk.junk | with_reducible apply Junk.drew | with_reducible apply Junk.drewN)); done) | ((try simp only [World.junk_junk, Array.append_assoc]); (repeat (first | with_reducible exact Junk.refl _ | with_reducible exact Junk.app _ _ _ _ _ | with_reducible exact Junk.app2 _ _ _ _ _ _ | with_reducible exact Junk.app3 _ _ _ _ _ _ _ | with_reducible exact Junk.app4 _ _ _ _ _ _ _ _ | with_reducible exact Junk.app5 _ _ _ _ _ _ _ _ _ | with_reducible apply Junk.alloc | with_reducible apply Junk.junk | with_reducible apply Junk.drew | with_reducible apply Junk.drewN))))))).mono ?_); rintro e w' ⟨rfl, hj⟩; have hj2 := (show ∀ W, Junk W w' → Junk (((w.alloc (.cells #[.int .i64 p.tos, .int .i64 p.id, .bool p.df, .bool p.mf, .int .i64 p.off, .int .i64 p.ttl, .int .i64 p.proto, .int .u32 p.src, .int .u32 p.dst, .slice oo p.ol oc, .slice ob p.bl bc] 43)).alloc (.cells #[.int .i64 tp, .int .u32 ts, .int .i64 sp, .int .u32 td, .int .i64 dp] 28))) W → Junk (((w.alloc (.cells #[.int .i64 p.tos, .int .i64 p.id, .bool p.df, .bool p.mf, .int .i64 p.off, .int .i64 p.ttl, .int .i64 p.proto, .int .u32 p.src, .int .u32 p.dst, .slice oo p.ol oc, .slice ob p.bl bc] 43)).alloc (.cells #[.int .i64 tp, .int .u32 ts, .int .i64 sp, .int .u32 td, .int .i64 dp] 28))) w' from fun _ a b => b.trans a) _ hj (by (first | ((repeat (first | with_reducible exact Junk.refl _ | with_reducible exact Junk.app _ _ _ _ _ | with_reducible apply Junk.alloc | with_reducible apply Junk.junk | with_reducible apply Junk.drew | with_reducible apply Junk.drewN)); done) | ((try simp only [World.junk_junk, Array.append_assoc]); (repeat (first | with_reducible exact Junk.refl _ | with_reducible exact Junk.app _ _ _ _ _ | with_reducible exact Junk.app2 _ _ _ _ _ _ | with_reducible exact Junk.app3 _ _ _ _ _ _ _ | with_reducible exact Junk.app4 _ _ _ _ _ _ _ _ | with_reducible exact Junk.app5 _ _ _ _ _ _ _ _ _ | with_reducible apply Junk.alloc | with_reducible apply Junk.junk | with_reducible apply Junk.drew | with_reducible apply Junk.drewN))))); clear hj; obtain ⟨os1, d1, rfl⟩ := hj2) | (go_at_call 21; (with_reducible refine (HBO.out _ (HP.out.on (by (first | ((repeat (first | with_reducible exact Junk.refl _ | with_reducible exact Junk.app _ _ _ _ _ | with_reducible apply Junk.alloc | with_reducible apply Junk.junk | with_reducible apply Junk.drew | with_reducible apply Junk.drewN)); done) | ((try simp only [World.junk_junk, Array.append_assoc]); (repeat (first | with_reducible exact Junk.refl _ | with_reducible exact Junk.app _ _ _ _ _ | with_reducible exact Junk.app2 _ _ _ _ _ _ | with_reducible exact Junk.app3 _ _ _ _ _ _ _ | with_reducible exact Junk.app4 _ _ _ _ _ _ _ _ | with_reducible exact Junk.app5 _ _ _ _ _ _ _ _ _ | with_reducible apply Junk.alloc | with_reducible apply Junk.junk | with_reducible apply Junk.drew | with_reducible apply Junk.drewN))))))).mono ?_); rintro e w' ⟨oo2, ob2, oc2, bc2, rfl, ⟨os2, d2, rfl⟩, hp2⟩; have HP2 := Lib.hid hp2; clear hp2) | (go_at_call 21; (with_reducible refine (HB2.out oo2 ob2 oc2 bc2 _ (HP2.out.on (by (first | ((repeat (first | with_reducible exact Junk.refl _ | with_reducible exact Junk.app _ _ _ _ _ | with_reducible apply Junk.alloc | with_reducible apply Junk.junk | with_reducible apply Junk.drew | with_reducible apply Junk.drewN)); done) | ((try simp only [World.junk_junk, Array.append_assoc]); (repeat (first | with_reducible exact Junk.refl _ | with_reducible exact Junk.app _ _ _ _ _ | with_reducible exact Junk.app2 _ _ _ _ _ _ | with_reducible exact Junk.app3 _ _ _ _ _ _ _ | with_reducible exact Junk.app4 _ _ _ _ _ _ _ _ | with_reducible exact Junk.app5 _ _ _ _ _ _ _ _ _ | with_reducible apply Junk.alloc | with_reducible apply Junk.junk | with_reducible apply Junk.drew | with_reducible apply Junk.drewN))))))).mono ?_); rintro e w' ⟨oo3, ob3, oc3, bc3, rfl, ⟨os3, d3, rfl⟩, hp3⟩; have HP3 := Lib.hid hp3; clear hp3))
  go_wp2
  have HCS : CsH [(w.heap.size, 7, .int .u32 p.src), (w.heap.size, 8, .int .u32 p.dst), (w.heap.size, 10, .slice ob p.bl bc), ((w.heap.size + 1 + 1 + os1.size), 0, .int .i64 p.proto), ((w.heap.size + 1 + 1 + os1.size), 1, .int .u32 p.src), ((w.heap.size + 1 + 1 + os1.size), 2, .int .i64 s0), ((w.heap.size + 1 + 1 + os1.size), 3, .int .u32 p.dst), ((w.heap.size + 1 + 1 + os1.size), 4, .int .i64 d0), ((w.heap.size + 1 + 1 + os1.size + 1 + os2.size + 1 + os3.size), 0, .int .i64 p.tos), ((w.heap.size + 1 + 1 + os1.size + 1 + os2.size + 1 + os3.size), 1, .int .i64 p.id), ((w.heap.size + 1 + 1 + os1.size + 1 + os2.size + 1 + os3.size), 2, .bool p.df), ((w.heap.size + 1 + 1 + os1.size + 1 + os2.size + 1 + os3.size), 3, .bool p.mf), ((w.heap.size + 1 + 1 + os1.size + 1 + os2.size + 1 + os3.size), 4, .int .i64 p.off), ((w.heap.size + 1 + 1 + os1.size + 1 + os2.size + 1 + os3.size), 5, .int .i64 p.ttl), ((w.heap.size + 1 + 1 + os1.size + 1 + os2.size + 1 + os3.size), 6, .int .i64 p.proto), ((w.heap.size + 1 + 1 + os1.size + 1 + os2.size + 1 + os3.size), 7, .int .u32 p.src), ((w.heap.size + 1 + 1 + os1.size + 1 + os2.size + 1 + os3.size), 8, .int .u32 p.dst), ((w.heap.size + 1 + 1 + os1.size + 1 + os2.size + 1 + os3.size), 9, .slice oo3 p.ol oc3), ((w.heap.size + 1 + 1 + os1.size + 1 + os2.size + 1 + os3.size), 10, .slice ob3 p.bl bc3)] ((((((((((w.alloc (.cells #[.int .i64 p.tos, .int .i64 p.id, .bool p.df, .bool p.mf, .int .i64 p.off, .int .i64 p.ttl, .int .i64 p.proto, .int .u32 p.src, .int .u32 p.dst, .slice oo p.ol oc, .slice ob p.bl bc] 43)).alloc (.cells #[.int .i64 tp, .int .u32 ts, .int .i64 sp, .int .u32 td, .int .i64 dp] 28))).junk os1 d1).alloc (.cells #[.int .i64 p.proto, .int .u32 p.src, .int .i64 s0, .int .u32 p.dst, .int .i64 d0] 28)).junk os2 d2).alloc (.cells #[.int .i64 p.tos, .int .i64 p.id, .bool p.df, .bool p.mf, .int .i64 p.off, .int .i64 p.ttl, .int .i64 p.proto, .int .u32 ts, .int .u32 td, .slice oo2 p.ol oc2, .slice ob2 p.bl bc2] 43)).junk os3 d3).alloc (.cells #[.int .i64 p.tos, .int .i64 p.id, .bool p.df, .bool p.mf, .int .i64 p.off, .int .i64 p.ttl, .int .i64 p.proto, .int .u32 p.src, .int .u32 p.dst, .slice oo3 p.ol oc3, .slice ob3 p.bl bc3] 43))) := by
    repeat (refine CsH.cons.2 ⟨⟨(by simp; try omega), (by go_simp), (by go_simp)⟩, ?_⟩)
    exact CsH.nil _
  have HJV := Lib.hid (show Junk w ((((((((((w.alloc (.cells #[.int .i64 p.tos, .int .i64 p.id, .bool p.df, .bool p.mf, .int .i64 p.off, .int .i64 p.ttl, .int .i64 p.proto, .int .u32 p.src, .int .u32 p.dst, .slice oo p.ol oc, .slice ob p.bl bc] 43)).alloc (.cells #[.int .i64 tp, .int .u32 ts, .int .i64 sp, .int .u32 td, .int .i64 dp] 28))).junk os1 d1).alloc (.cells #[.int .i64 p.proto, .int .u32 p.src, .int .i64 s0, .int .u32 p.dst, .int .i64 d0] 28)).junk os2 d2).alloc (.cells #[.int .i64 p.tos, .int .i64 p.id, .bool p.df, .bool p.mf, .int .i64 p.off, .int .i64 p.ttl, .int .i64 p.proto, .int .u32 ts, .int .u32 td, .slice oo2 p.ol oc2, .slice ob2 p.bl bc2] 43)).junk os3 d3).alloc (.cells #[.int .i64 p.tos, .int .i64 p.id, .bool p.df, .bool p.mf, .int .i64 p.off, .int .i64 p.ttl, .int .i64 p.proto, .int .u32 p.src, .int .u32 p.dst, .slice oo3 p.ol oc3, .slice ob3 p.bl bc3] 43))) by (first | ((repeat (first | with_reducible exact Junk.refl _ | with_reducible exact Junk.app _ _ _ _ _ | with_reducible apply Junk.alloc | with_reducible apply Junk.junk | with_reducible apply Junk.drew | with_reducible apply Junk.drewN)); done) | ((try simp only [World.junk_junk, Array.append_assoc]); (repeat (first | with_reducible exact Junk.refl _ | with_reducible exact Junk.app _ _ _ _ _ | with_reducible exact Junk.app2 _ _ _ _ _ _ | with_reducible exact Junk.app3 _ _ _ _ _ _ _ | with_reducible exact Junk.app4 _ _ _ _ _ _ _ _ | with_reducible exact Junk.app5 _ _ _ _ _ _ _ _ _ | with_reducible apply Junk.alloc | with_reducible apply Junk.junk | with_reducible apply Junk.drew | with_reducible apply Junk.drewN)))))
  have HY1 := Lib.hid (HP.out.body.on (show Junk _ ((((((((((w.alloc (.cells #[.int .i64 p.tos, .int .i64 p.id, .bool p.df, .bool p.mf, .int .i64 p.off, .int .i64 p.ttl, .int .i64 p.proto, .int .u32 p.src, .int .u32 p.dst, .slice oo p.ol oc, .slice ob p.bl bc] 43)).alloc (.cells #[.int .i64 tp, .int .u32 ts, .int .i64 sp, .int .u32 td, .int .i64 dp] 28))).junk os1 d1).alloc (.cells #[.int .i64 p.proto, .int .u32 p.src, .int .i64 s0, .int .u32 p.dst, .int .i64 d0] 28)).junk os2 d2).alloc (.cells #[.int .i64 p.tos, .int .i64 p.id, .bool p.df, .bool p.mf, .int .i64 p.off, .int .i64 p.ttl, .int .i64 p.proto, .int .u32 ts, .int .u32 td, .slice oo2 p.ol oc2, .slice ob2 p.bl bc2] 43)).junk os3 d3).alloc (.cells #[.int .i64 p.tos, .int .i64 p.id, .bool p.df, .bool p.mf, .int .i64 p.off, .int .i64 p.ttl, .int .i64 p.proto, .int .u32 p.src, .int .u32 p.dst, .slice oo3 p.ol oc3, .slice ob3 p.bl bc3] 43))) by (first | ((repeat (first | with_reducible exact Junk.refl _ | with_reducible exact Junk.app _ _ _ _ _ | with_reducible apply Junk.alloc | with_reducible apply Junk.junk | with_reducible apply Junk.drew | with_reducible apply Junk.drewN)); done) | ((try simp only [World.junk_junk, Array.append_assoc]); (repeat (first | with_reducible exact Junk.refl _ | with_reducible exact Junk.app _ _ _ _ _ | with_reducible exact Junk.app2 _ _ _ _ _ _ | with_reducible exact Junk.app3 _ _ _ _ _ _ _ | with_reducible exact Junk.app4 _ _ _ _ _ _ _ _ | with_reducible exact Junk.app5 _ _ _ _ _ _ _ _ _ | with_reducible apply Junk.alloc | with_reducible apply Junk.junk | with_reducible apply Junk.drew | with_reducible apply Junk.drewN))))))
  have HP5 := Lib.hid (HP3.out.on (show Junk _ ((((((((((w.alloc (.cells #[.int .i64 p.tos, .int .i64 p.id, .bool p.df, .bool p.mf, .int .i64 p.off, .int .i64 p.ttl, .int .i64 p.proto, .int .u32 p.src, .int .u32 p.dst, .slice oo p.ol oc, .slice ob p.bl bc] 43)).alloc (.cells #[.int .i64 tp, .int .u32 ts, .int .i64 sp, .int .u32 td, .int .i64 dp] 28))).junk os1 d1).alloc (.cells #[.int .i64 p.proto, .int .u32 p.src, .int .i64 s0, .int .u32 p.dst, .int .i64 d0] 28)).junk os2 d2).alloc (.cells #[.int .i64 p.tos, .int .i64 p.id, .bool p.df, .bool p.mf, .int .i64 p.off, .int .i64 p.ttl, .int .i64 p.proto, .int .u32 ts, .int .u32 td, .slice oo2 p.ol oc2, .slice ob2 p.bl bc2] 43)).junk os3 d3).alloc (.cells #[.int .i64 p.tos, .int .i64 p.id, .bool p.df, .bool p.mf, .int .i64 p.off, .int .i64 p.ttl, .int .i64 p.proto, .int .u32 p.src, .int .u32 p.dst, .slice oo3 p.ol oc3, .slice ob3 p.bl bc3] 43))) by (first | ((repeat (first | with_reducible exact Junk.refl _ | with_reducible exact Junk.app _ _ _ _ _ | with_reducible apply Junk.alloc | with_reducible apply Junk.junk | with_reducible apply Junk.drew | with_reducible apply Junk.drewN)); done) | ((try simp only [World.junk_junk, Array.append_assoc]); (repeat (first | with_reducible exact Junk.refl _ | with_reducible exact Junk.app _ _ _ _ _ | with_reducible exact Junk.app2 _ _ _ _ _ _ | with_reducible exact Junk.app3 _ _ _ _ _ _ _ | with_reducible exact Junk.app4 _ _ _ _ _ _ _ _ | with_reducible exact Junk.app5 _ _ _ _ _ _ _ _ _ | with_reducible apply Junk.alloc | with_reducible apply Junk.junk | with_reducible apply Junk.drew | with_reducible apply Junk.drewN))))))
  have hy2 := HP5.out.body
  rw [R2.out] at hy2
  have HY2 := Lib.hid hy2
  clear hy2 HBO HB2 HOF HSH HP HP2 HP3
  generalize (((((((((w.alloc (.cells #[.int .i64 p.tos, .int .i64 p.id, .bool p.df, .bool p.mf, .int .i64 p.off, .int .i64 p.ttl, .int .i64 p.proto, .int .u32 p.src, .int .u32 p.dst, .slice oo p.ol oc, .slice ob p.bl bc] 43)).alloc (.cells #[.int .i64 tp, .int .u32 ts, .int .i64 sp, .int .u32 td, .int .i64 dp] 28))).junk os1 d1).alloc (.cells #[.int .i64 p.proto, .int .u32 p.src, .int .i64 s0, .int .u32 p.dst, .int .i64 d0] 28)).junk os2 d2).alloc (.cells #[.int .i64 p.tos, .int .i64 p.id, .bool p.df, .bool p.mf, .int .i64 p.off, .int .i64 p.ttl, .int .i64 p.proto, .int .u32 ts, .int .u32 td, .slice oo2 p.ol oc2, .slice ob2 p.bl bc2] 43)).junk os3 d3).alloc (.cells #[.int .i64 p.tos, .int .i64 p.id, .bool p.df, .bool p.mf, .int .i64 p.off, .int .i64 p.ttl, .int .i64 p.proto, .int .u32 p.src, .int .u32 p.dst, .slice oo3 p.ol oc3, .slice ob3 p.bl bc3] 43)) = V at HCS HJV HY1 HY2 HP5 ⊢
  generalize hbr : (w.heap.size + 1 + 1 + os1.size + 1 + os2.size + 1 + os3.size) = br at HCS ⊢
  generalize hbo : (w.heap.size + 1 + 1 + os1.size) = bo at HCS ⊢
  clear hbr hbo
  generalize w.heap.size = bp at HCS ⊢
  obtain ⟨sp, mp7, _⟩ := HCS (bp, 7, .int .u32 p.src) (by simp)
  obtain ⟨_, mp8, _⟩ := HCS (bp, 8, .int .u32 p.dst) (by simp)
  obtain ⟨_, mp10, _⟩ := HCS (bp, 10, .slice ob p.bl bc) (by simp)
  obtain ⟨so, mo0, _⟩ := HCS (bo, 0, .int .i64 p.proto) (by simp)
  obtain ⟨_, mo1, _⟩ := HCS (bo, 1, .int .u32 p.src) (by simp)
  obtain ⟨_, mo2, _⟩ := HCS (bo, 2, .int .i64 s0) (by simp)
  obtain ⟨_, mo3, _⟩ := HCS (bo, 3, .int .u32 p.dst) (by simp)
  obtain ⟨_, mo4, _⟩ := HCS (bo, 4, .int .i64 d0) (by simp)
  obtain ⟨sq, mq0, _⟩ := HCS (br, 0, .int .i64 p.tos) (by simp)
  obtain ⟨_, mq1, _⟩ := HCS (br, 1, .int .i64 p.id) (by simp)
  obtain ⟨_, mq2, _⟩ := HCS (br, 2, .bool p.df) (by simp)
  obtain ⟨_, mq3, _⟩ := HCS (br, 3, .bool p.mf) (by simp)
  obtain ⟨_, mq4, _⟩ := HCS (br, 4, .int .i64 p.off) (by simp)
  obtain ⟨_, mq5, _⟩ := HCS (br, 5, .int .i64 p.ttl) (by simp)
  obtain ⟨_, mq6, _⟩ := HCS (br, 6, .int .i64 p.proto) (by simp)
  obtain ⟨_, mq7, _⟩ := HCS (br, 7, .int .u32 p.src) (by simp)
  obtain ⟨_, mq8, _⟩ := HCS (br, 8, .int .u32 p.dst) (by simp)
  obtain ⟨_, mq9, _⟩ := HCS (br, 9, .slice oo3 p.ol oc3) (by simp)
  obtain ⟨_, mq10, _⟩ := HCS (br, 10, .slice ob3 p.bl bc3) (by simp)
  clear HCS
  obtain ⟨bb, bo2, rfl, hbb, _⟩ := HY1.out.at_ 0 (by omega)
  obtain ⟨bb2, bo3, rfl, hbb2, _⟩ := HY2.out.at_ 0 (by omega)
  go_loopw [12] (fun i wr => ∃ k : Nat, k ≤ p.bl ∧ i = .int .i64 k ∧ Junk V wr) (fun i _ => p.bl - (intOf i).toNat)
  case atStart => exact ⟨0, by omega, rfl, Junk.refl _⟩
  case round =>
    obtain ⟨k, hk, rfl, ⟨os, d, rfl⟩⟩ := hrel
    by_cases hlt : k < p.bl
    · obtain ⟨b1, off1, he1, _, hc1⟩ := HY1.out.at_ k hlt
      obtain ⟨b2, off2, he2, _, hc2⟩ := HY2.out.at_ k hlt
      cases he1
      cases he2
      have l1 : (k : Int) < (p.bl : Int) := by omega
      have w1 := wrapk_i64 ((k : Int) + 1) (by omega) (by omega)
      by_cases k1 : k = 6
      · have c1 : ((k : Int) != 6) = false := by simp; omega
        clear k1
        go_wp2
        refine wp_region_junk (by kernel_rfl) (by kernel_rfl) ?_; (repeat (go_big_quiet_step (first | fail))); refine wpQuiet_nil ?_; rintro _ ⟨⟨osq, dq⟩, rfl⟩
        go_wp2
        exact ⟨⟨k + 1, by omega, by go_num, by (first | ((repeat (first | with_reducible exact Junk.refl _ | with_reducible exact Junk.app _ _ _ _ _ | with_reducible apply Junk.alloc | with_reducible apply Junk.junk | with_reducible apply Junk.drew | with_reducible apply Junk.drewN)); done) | ((try simp only [World.junk_junk, Array.append_assoc]); (repeat (first | with_reducible exact Junk.refl _ | with_reducible exact Junk.app _ _ _ _ _ | with_reducible exact Junk.app2 _ _ _ _ _ _ | with_reducible exact Junk.app3 _ _ _ _ _ _ _ | with_reducible exact Junk.app4 _ _ _ _ _ _ _ _ | with_reducible exact Junk.app5 _ _ _ _ _ _ _ _ _ | with_reducible apply Junk.alloc | with_reducible apply Junk.junk | with_reducible apply Junk.drew | with_reducible apply Junk.drewN))))⟩, by simp [intOf]; omega⟩
      · have c1 : ((k : Int) != 6) = true := by simp; omega
        by_cases k2 : k = 6 + 1
        · have c2 : ((k : Int) != 7) = false := by simp; omega
          clear k1 k2
          go_wp2
          refine wp_region_junk (by kernel_rfl) (by kernel_rfl) ?_; (repeat (go_big_quiet_step (first | fail))); refine wpQuiet_nil ?_; rintro _ ⟨⟨osq, dq⟩, rfl⟩
          go_wp2
          exact ⟨⟨k + 1, by omega, by go_num, by (first | ((repeat (first | with_reducible exact Junk.refl _ | with_reducible exact Junk.app _ _ _ _ _ | with_reducible apply Junk.alloc | with_reducible apply Junk.junk | with_reducible apply Junk.drew | with_reducible apply Junk.drewN)); done) | ((try simp only [World.junk_junk, Array.append_assoc]); (repeat (first | with_reducible exact Junk.refl _ | with_reducible exact Junk.app _ _ _ _ _ | with_reducible exact Junk.app2 _ _ _ _ _ _ | with_reducible exact Junk.app3 _ _ _ _ _ _ _ | with_reducible exact Junk.app4 _ _ _ _ _ _ _ _ | with_reducible exact Junk.app5 _ _ _ _ _ _ _ _ _ | with_reducible apply Junk.alloc | with_reducible apply Junk.junk | with_reducible apply Junk.drew | with_reducible apply Junk.drewN))))⟩, by simp [intOf]; omega⟩
        · have c2 : ((k : Int) != 7) = true := by simp; omega
          have hxy : (p.body k != r.body k) = false := by rw [HBY.out k hlt k1 k2]; simp
          clear k1 k2
          go_wp2
          refine wp_region_junk (by kernel_rfl) (by kernel_rfl) ?_; (repeat (go_big_quiet_step (first | fail))); refine wpQuiet_nil ?_; rintro _ ⟨⟨osq, dq⟩, rfl⟩
          go_wp2
          exact ⟨⟨k + 1, by omega, by go_num, by (first | ((repeat (first | with_reducible exact Junk.refl _ | with_reducible exact Junk.app _ _ _ _ _ | with_reducible apply Junk.alloc | with_reducible apply Junk.junk | with_reducible apply Junk.drew | with_reducible apply Junk.drewN)); done) | ((try simp only [World.junk_junk, Array.append_assoc]); (repeat (first | with_reducible exact Junk.refl _ | with_reducible exact Junk.app _ _ _ _ _ | with_reducible exact Junk.app2 _ _ _ _ _ _ | with_reducible exact Junk.app3 _ _ _ _ _ _ _ | with_reducible exact Junk.app4 _ _ _ _ _ _ _ _ | with_reducible exact Junk.app5 _ _ _ _ _ _ _ _ _ | with_reducible apply Junk.alloc | with_reducible apply Junk.junk | with_reducible apply Junk.drew | with_reducible apply Junk.drewN))))⟩, by simp [intOf]; omega⟩
    · have l1 : ¬ (k : Int) < (p.bl : Int) := by omega
      go_wp2_with (first | (go_at_call 20; (with_reducible refine (HOR.out _ _ _ _ _ (HP5.out.on (by (first | ((repeat (first | with_reducible exact Junk.refl _ | with_reducible exact Junk.app _ _ _ _ _ | with_reducible apply Junk.alloc | with_reducible apply Junk.junk | with_reducible apply Junk.drew | with_reducible apply Junk.drewN)); done) | ((try simp only [World.junk_junk, Array.append_assoc]); (repeat (first | with_reducible exact Junk.refl _ | with_reducible exact Junk.app _ _ _ _ _ | with_reducible exact Junk.app2 _ _ _ _ _ _ | with_reducible exact Junk.app3 _ _ _ _ _ _ _ | with_reducible exact Junk.app4 _ _ _ _ _ _ _ _ | with_reducible exact Junk.app5 _ _ _ _ _ _ _ _ _ | with_reducible apply Junk.alloc | with_reducible apply Junk.junk | with_reducible apply Junk.drew | with_reducible apply Junk.drewN))))))).mono ?_); rintro e w' ⟨rfl, ⟨osj, dj, rfl⟩⟩))
      all_goals (go_ret; exact ⟨ret_bool rfl, HJV.out.trans (by (first | ((repeat (first | with_reducible exact Junk.refl _ | with_reducible exact Junk.app _ _ _ _ _ | with_reducible apply Junk.alloc | with_reducible apply Junk.junk | with_reducible apply Junk.drew | with_reducible apply Junk.drewN)); done) | ((try simp only [World.junk_junk, Array.append_assoc]); (repeat (first | with_reducible exact Junk.refl _ | with_reducible exact Junk.app _ _ _ _ _ | with_reducible exact Junk.app2 _ _ _ _ _ _ | with_reducible exact Junk.app3 _ _ _ _ _ _ _ | with_reducible exact Junk.app4 _ _ _ _ _ _ _ _ | with_reducible exact Junk.app5 _ _ _ _ _ _ _ _ _ | with_reducible apply Junk.alloc | with_reducible apply Junk.junk | with_reducible apply Junk.drew | with_reducible apply Junk.drewN)))))⟩)
set_option maxHeartbeats 8000000 in
theorem rewriteBack_i (p : Ip) (oo ob : Option Addr) (oc bc : Nat) (tp ts sp td dp : Int) (w : World) (hP : IpAt w p oo oc ob bc) (hts : 0 ≤ ts ∧ ts ≤ 4294967295) (htd : 0 ≤ td ∧ td ≤ 4294967295) (hs : shortB p = true) (h0 : rw2Err p ⟨tp, ts, sp, td, dp⟩ = 0) (hpr : p.proto = 1) : Calls Try.prog 6 #[.agg #[.int .i64 p.tos, .int .i64 p.id, .bool p.df, .bool p.mf, .int .i64 p.off, .int .i64 p.ttl, .int .i64 p.proto, .int .u32 p.src, .int .u32 p.dst, .slice oo p.ol oc, .slice ob p.bl bc], .agg #[.int .i64 tp, .int .u32 ts, .int .i64 sp, .int .u32 td, .int .i64 dp]] w fun e w' => e = .returned (.bool true) ∧ Junk w w' := by
  have HP := Lib.hid hP
  obtain ⟨s1, s2⟩ := shortB_true hs
  have HSH := Lib.hid (fun w1 => show Calls Try.prog 19 #[.agg #[.int .i64 p.tos, .int .i64 p.id, .bool p.df, .bool p.mf, .int .i64 p.off, .int .i64 p.ttl, .int .i64 p.proto, .int .u32 p.src, .int .u32 p.dst, .slice oo p.ol oc, .slice ob p.bl bc]] w1 fun e w' => e = .returned (.bool true) ∧ Junk w1 w' by rw [← hs]; exact short_any p oo ob oc bc w1)
  have hw := hP.w
  obtain ⟨e0, -, hR⟩ := rw2_ok h0 hw hts htd
  obtain ⟨o1, o2, o3, o4, o5, o6, o7, o8⟩ := own_may e0 hw
  obtain ⟨⟨t0, t1, s0, t3, d0⟩, hT⟩ : ∃ t, p.tup = t := ⟨_, rfl⟩
  have hT0 := hT
  rw [hT] at o1 o2 o3 o4 o5 o6 o7 o8
  obtain rfl : t0 = p.proto := o1
  obtain rfl : t1 = p.src := o2
  obtain rfl : t3 = p.dst := o3
  obtain ⟨q, hq⟩ : ∃ q, rw2 p ⟨tp, ts, sp, td, dp⟩ = q := ⟨_, rfl⟩
  have q1 : q.proto = p.proto := by rw [← hq]; rfl
  have q2 : q.bl = p.bl := by rw [← hq]; rfl
  rw [hq] at hR
  have g0 : rw2Err q ⟨p.proto, p.src, s0, p.dst, d0⟩ = 0 := rw2_of hR.err hR.w q1 o4 hw.src o5 o6
  obtain ⟨-, -, hR2⟩ := rw2_ok g0 hR.w hw.src hw.dst
  have hby := back_bytes hR hR2 q1 q2 (show (rw2 q _).bl = p.bl from q2) (of_zero25 e0).2.1 hw o7 o8
  have hk : rwSum p.proto = 2 := by rw [hpr]; rfl
  rw [hk] at hby
  have HBY := Lib.hid hby
  have HOF := Lib.hid (fun w1 (hp : IpAt w1 p oo oc ob bc) => show Calls Try.prog 20 #[.agg #[.int .i64 p.tos, .int .i64 p.id, .bool p.df, .bool p.mf, .int .i64 p.off, .int .i64 p.ttl, .int .i64 p.proto, .int .u32 p.src, .int .u32 p.dst, .slice oo p.ol oc, .slice ob p.bl bc]] w1 fun e w' => e = .returned (.tuple #[.agg #[.int .i64 p.proto, .int .u32 p.src, .int .i64 s0, .int .u32 p.dst, .int .i64 d0], .int .i64 0]) ∧ Junk w1 w' by
    have := ipb_of p oo ob oc bc w1 hp s2
    rw [hT0, e0] at this
    exact this)
  have HBO := Lib.hid (fun w1 (hp : IpAt w1 p oo oc ob bc) => show Calls Try.prog 21 #[.agg #[.int .i64 p.tos, .int .i64 p.id, .bool p.df, .bool p.mf, .int .i64 p.off, .int .i64 p.ttl, .int .i64 p.proto, .int .u32 p.src, .int .u32 p.dst, .slice oo p.ol oc, .slice ob p.bl bc], .agg #[.int .i64 tp, .int .u32 ts, .int .i64 sp, .int .u32 td, .int .i64 dp]] w1 fun e w' => ∃ (oo2 ob2 : Option Addr) (oc2 bc2 : Nat), e = .returned (.tuple #[.agg #[.int .i64 p.tos, .int .i64 p.id, .bool p.df, .bool p.mf, .int .i64 p.off, .int .i64 p.ttl, .int .i64 p.proto, .int .u32 ts, .int .u32 td, .slice oo2 p.ol oc2, .slice ob2 p.bl bc2], .int .i64 0]) ∧ Junk w1 w' ∧ IpAt w' q oo2 oc2 ob2 bc2 from
    (rboth_any p oo ob oc bc tp ts sp td dp w1 hp (by omega) (by omega) hts htd).mono fun e w' h => by rw [← hq]; exact h.ok h0)
  have HB2 := Lib.hid (fun oo2 ob2 oc2 bc2 w1 (hp : IpAt w1 q oo2 oc2 ob2 bc2) => show Calls Try.prog 21 #[.agg #[.int .i64 p.tos, .int .i64 p.id, .bool p.df, .bool p.mf, .int .i64 p.off, .int .i64 p.ttl, .int .i64 p.proto, .int .u32 ts, .int .u32 td, .slice oo2 p.ol oc2, .slice ob2 p.bl bc2], .agg #[.int .i64 p.proto, .int .u32 p.src, .int .i64 s0, .int .u32 p.dst, .int .i64 d0]] w1 fun e w' => ∃ (oo3 ob3 : Option Addr) (oc3 bc3 : Nat), e = .returned (.tuple #[.agg #[.int .i64 p.tos, .int .i64 p.id, .bool p.df, .bool p.mf, .int .i64 p.off, .int .i64 p.ttl, .int .i64 p.proto, .int .u32 p.src, .int .u32 p.dst, .slice oo3 p.ol oc3, .slice ob3 p.bl bc3], .int .i64 0]) ∧ Junk w1 w' ∧ IpAt w' (rw2 q ⟨p.proto, p.src, s0, p.dst, d0⟩) oo3 oc3 ob3 bc3 by
    have e : ∀ (x : Ip), x = rw2 p ⟨tp, ts, sp, td, dp⟩ → IpAt w1 x oo2 oc2 ob2 bc2 → rw2Err x ⟨p.proto, p.src, s0, p.dst, d0⟩ = 0 → Calls Try.prog 21 #[.agg #[.int .i64 p.tos, .int .i64 p.id, .bool p.df, .bool p.mf, .int .i64 p.off, .int .i64 p.ttl, .int .i64 p.proto, .int .u32 ts, .int .u32 td, .slice oo2 p.ol oc2, .slice ob2 p.bl bc2], .agg #[.int .i64 p.proto, .int .u32 p.src, .int .i64 s0, .int .u32 p.dst, .int .i64 d0]] w1 fun e w' => ∃ (oo3 ob3 : Option Addr) (oc3 bc3 : Nat), e = .returned (.tuple #[.agg #[.int .i64 p.tos, .int .i64 p.id, .bool p.df, .bool p.mf, .int .i64 p.off, .int .i64 p.ttl, .int .i64 p.proto, .int .u32 p.src, .int .u32 p.dst, .slice oo3 p.ol oc3, .slice ob3 p.bl bc3], .int .i64 0]) ∧ Junk w1 w' ∧ IpAt w' (rw2 x ⟨p.proto, p.src, s0, p.dst, d0⟩) oo3 oc3 ob3 bc3 := fun x hx hp hg => by
      subst hx
      exact (rboth_any _ oo2 ob2 oc2 bc2 p.proto p.src s0 p.dst d0 w1 hp (by show p.bl ≤ _; omega) (by show p.ol ≤ _; omega) hw.src hw.dst).mono fun e w' h => h.ok hg
    exact e q hq.symm hp g0)
  have HOR := Lib.hid (fun oo3 ob3 oc3 bc3 w1 (hp : IpAt w1 (rw2 q ⟨p.proto, p.src, s0, p.dst, d0⟩) oo3 oc3 ob3 bc3) => show Calls Try.prog 20 #[.agg #[.int .i64 p.tos, .int .i64 p.id, .bool p.df, .bool p.mf, .int .i64 p.off, .int .i64 p.ttl, .int .i64 p.proto, .int .u32 p.src, .int .u32 p.dst, .slice oo3 p.ol oc3, .slice ob3 p.bl bc3]] w1 fun e w' => e = .returned (.tuple #[.agg #[.int .i64 p.proto, .int .u32 p.src, .int .i64 s0, .int .u32 p.dst, .int .i64 d0], .int .i64 0]) ∧ Junk w1 w' by
    have e : ∀ (x : Ip), x = rw2 p ⟨tp, ts, sp, td, dp⟩ → ∀ z, rw2 x ⟨p.proto, p.src, s0, p.dst, d0⟩ = z → z.tup = ⟨p.proto, p.src, s0, p.dst, d0⟩ → z.err = 0 → IpAt w1 z oo3 oc3 ob3 bc3 → Calls Try.prog 20 #[.agg #[.int .i64 p.tos, .int .i64 p.id, .bool p.df, .bool p.mf, .int .i64 p.off, .int .i64 p.ttl, .int .i64 p.proto, .int .u32 p.src, .int .u32 p.dst, .slice oo3 p.ol oc3, .slice ob3 p.bl bc3]] w1 fun e w' => e = .returned (.tuple #[.agg #[.int .i64 p.proto, .int .u32 p.src, .int .i64 s0, .int .u32 p.dst, .int .i64 d0], .int .i64 0]) ∧ Junk w1 w' := fun x hx z hz z1 z2 hp => by
      subst hx
      subst hz
      have := ipb_of _ oo3 ob3 oc3 bc3 w1 hp s2
      rw [z1, z2] at this
      exact this
    exact e q hq.symm _ rfl hR2.tup hR2.err hp)
  have hg := tupq_guard
  have hq1 : ∀ w, (binOp .eql 28 (.agg #[.int .i64 p.proto, .int .u32 p.src, .int .i64 s0, .int .u32 p.dst, .int .i64 d0]) (.agg #[.int .i64 p.proto, .int .u32 p.src, .int .i64 s0, .int .u32 p.dst, .int .i64 d0])).run Try.prog w = .ok (.bool true) w := fun w => by have := tupq_eql ⟨p.proto, p.src, s0, p.dst, d0⟩ ⟨p.proto, p.src, s0, p.dst, d0⟩ w; rw [decide_eq_true rfl] at this; exact this
  have b17 : (p.proto == 17) = false := by rw [hpr]; rfl
  have b1 : (p.proto == 1) = true := by simpa using hpr
  have h8 : 8 ≤ p.bl := (of_zero25 e0).2.1
  obtain ⟨r, hr⟩ : ∃ r, rw2 q ⟨p.proto, p.src, s0, p.dst, d0⟩ = r := ⟨_, rfl⟩
  have R2 := Lib.hid (show r.bl = p.bl by rw [← hr]; exact q2)
  rw [hr] at HB2 HOR HBY
  clear hs h0 hP hw o4 o5 o6 o7 o8 hT hT0 e0 hR g0 hR2 hby hk hpr hr q1 q2 hq
  go_enter Try.func6, Try.ntmps6
  go_upto_region 10 with (first | (go_at_call 18; refine (awake25_any _).mono ?_; rintro e w' ⟨rfl, ⟨osj, dj, rfl⟩⟩) | (go_at_call 19; refine (HSH.out _).mono ?_; rintro e w' ⟨rfl, ⟨osj, dj, rfl⟩⟩) | (go_at_call 20; (with_reducible refine (HOF.out _ (HP.out.on (by (first | ((repeat (first | with_reducible exact Junk.refl _ | with_reducible exact Junk.app _ _ _ _ _ | with_reducible apply Junk.alloc | with_reducible apply Junk.junk | with_reducible apply Junk.drew | with_reducible apply Junk.drewN)); done) | ((try simp only [World.junk_junk, Array.append_assoc]); (repeat (first | with_reducible exact Junk.refl _ | with_reducible exact Junk.app _ _ _ _ _ | with_reducible exact Junk.app2 _ _ _ _ _ _ | with_reducible exact Junk.app3 _ _ _ _ _ _ _ | with_reducible exact Junk.app4 _ _ _ _ _ _ _ _ | with_reducible exact Junk.app5 _ _ _ _ _ _ _ _ _ | with_reducible apply Junk.alloc | with_reducible apply Junk.junk | with_reducible apply Junk.drew | with_reducible apply Junk.drewN))))))).mono ?_); rintro e w' ⟨rfl, hj⟩; have hj2 := (show ∀ W, Junk W w' → Junk (((w.alloc (.cells #[.int .i64 p.tos, .int .i64 p.id, .bool p.df, .bool p.mf, .int .i64 p.off, .int .i64 p.ttl, .int .i64 p.proto, .int .u32 p.src, .int .u32 p.dst, .slice oo p.ol oc, .slice ob p.bl bc] 43)).alloc (.cells #[.int .i64 tp, .int .u32 ts, .int .i64 sp, .int .u32 td, .int .i64 dp] 28))) W → Junk (((w.alloc (.cells #[.int .i64 p.tos, .int .i64 p.id, .bool p.df, .bool p.mf, .int .i64 p.off, .int .i64 p.ttl, .int .i64 p.proto, .int .u32 p.src, .int .u32 p.dst, .slice oo p.ol oc, .slice ob p.bl bc] 43)).alloc (.cells #[.int .i64 tp, .int .u32 ts, .int .i64 sp, .int .u32 td, .int .i64 dp] 28))) w' from fun _ a b => b.trans a) _ hj (by (first | ((repeat (first | with_reducible exact Junk.refl _ | with_reducible exact Junk.app _ _ _ _ _ | with_reducible apply Junk.alloc | with_reducible apply Junk.junk | with_reducible apply Junk.drew | with_reducible apply Junk.drewN)); done) | ((try simp only [World.junk_junk, Array.append_assoc]); (repeat (first | with_reducible exact Junk.refl _ | with_reducible exact Junk.app _ _ _ _ _ | with_reducible exact Junk.app2 _ _ _ _ _ _ | with_reducible exact Junk.app3 _ _ _ _ _ _ _ | with_reducible exact Junk.app4 _ _ _ _ _ _ _ _ | with_reducible exact Junk.app5 _ _ _ _ _ _ _ _ _ | with_reducible apply Junk.alloc | with_reducible apply Junk.junk | with_reducible apply Junk.drew | with_reducible apply Junk.drewN))))); clear hj; obtain ⟨os1, d1, rfl⟩ := hj2) | (go_at_call 21; (with_reducible refine (HBO.out _ (HP.out.on (by (first | ((repeat (first | with_reducible exact Junk.refl _ | with_reducible exact Junk.app _ _ _ _ _ | with_reducible apply Junk.alloc | with_reducible apply Junk.junk | with_reducible apply Junk.drew | with_reducible apply Junk.drewN)); done) | ((try simp only [World.junk_junk, Array.append_assoc]); (repeat (first | with_reducible exact Junk.refl _ | with_reducible exact Junk.app _ _ _ _ _ | with_reducible exact Junk.app2 _ _ _ _ _ _ | with_reducible exact Junk.app3 _ _ _ _ _ _ _ | with_reducible exact Junk.app4 _ _ _ _ _ _ _ _ | with_reducible exact Junk.app5 _ _ _ _ _ _ _ _ _ | with_reducible apply Junk.alloc | with_reducible apply Junk.junk | with_reducible apply Junk.drew | with_reducible apply Junk.drewN))))))).mono ?_); rintro e w' ⟨oo2, ob2, oc2, bc2, rfl, ⟨os2, d2, rfl⟩, hp2⟩; have HP2 := Lib.hid hp2; clear hp2) | (go_at_call 21; (with_reducible refine (HB2.out oo2 ob2 oc2 bc2 _ (HP2.out.on (by (first | ((repeat (first | with_reducible exact Junk.refl _ | with_reducible exact Junk.app _ _ _ _ _ | with_reducible apply Junk.alloc | with_reducible apply Junk.junk | with_reducible apply Junk.drew | with_reducible apply Junk.drewN)); done) | ((try simp only [World.junk_junk, Array.append_assoc]); (repeat (first | with_reducible exact Junk.refl _ | with_reducible exact Junk.app _ _ _ _ _ | with_reducible exact Junk.app2 _ _ _ _ _ _ | with_reducible exact Junk.app3 _ _ _ _ _ _ _ | with_reducible exact Junk.app4 _ _ _ _ _ _ _ _ | with_reducible exact Junk.app5 _ _ _ _ _ _ _ _ _ | with_reducible apply Junk.alloc | with_reducible apply Junk.junk | with_reducible apply Junk.drew | with_reducible apply Junk.drewN))))))).mono ?_); rintro e w' ⟨oo3, ob3, oc3, bc3, rfl, ⟨os3, d3, rfl⟩, hp3⟩; have HP3 := Lib.hid hp3; clear hp3))
  go_wp2
  have HCS : CsH [(w.heap.size, 7, .int .u32 p.src), (w.heap.size, 8, .int .u32 p.dst), (w.heap.size, 10, .slice ob p.bl bc), ((w.heap.size + 1 + 1 + os1.size), 0, .int .i64 p.proto), ((w.heap.size + 1 + 1 + os1.size), 1, .int .u32 p.src), ((w.heap.size + 1 + 1 + os1.size), 2, .int .i64 s0), ((w.heap.size + 1 + 1 + os1.size), 3, .int .u32 p.dst), ((w.heap.size + 1 + 1 + os1.size), 4, .int .i64 d0), ((w.heap.size + 1 + 1 + os1.size + 1 + os2.size + 1 + os3.size), 0, .int .i64 p.tos), ((w.heap.size + 1 + 1 + os1.size + 1 + os2.size + 1 + os3.size), 1, .int .i64 p.id), ((w.heap.size + 1 + 1 + os1.size + 1 + os2.size + 1 + os3.size), 2, .bool p.df), ((w.heap.size + 1 + 1 + os1.size + 1 + os2.size + 1 + os3.size), 3, .bool p.mf), ((w.heap.size + 1 + 1 + os1.size + 1 + os2.size + 1 + os3.size), 4, .int .i64 p.off), ((w.heap.size + 1 + 1 + os1.size + 1 + os2.size + 1 + os3.size), 5, .int .i64 p.ttl), ((w.heap.size + 1 + 1 + os1.size + 1 + os2.size + 1 + os3.size), 6, .int .i64 p.proto), ((w.heap.size + 1 + 1 + os1.size + 1 + os2.size + 1 + os3.size), 7, .int .u32 p.src), ((w.heap.size + 1 + 1 + os1.size + 1 + os2.size + 1 + os3.size), 8, .int .u32 p.dst), ((w.heap.size + 1 + 1 + os1.size + 1 + os2.size + 1 + os3.size), 9, .slice oo3 p.ol oc3), ((w.heap.size + 1 + 1 + os1.size + 1 + os2.size + 1 + os3.size), 10, .slice ob3 p.bl bc3)] ((((((((((w.alloc (.cells #[.int .i64 p.tos, .int .i64 p.id, .bool p.df, .bool p.mf, .int .i64 p.off, .int .i64 p.ttl, .int .i64 p.proto, .int .u32 p.src, .int .u32 p.dst, .slice oo p.ol oc, .slice ob p.bl bc] 43)).alloc (.cells #[.int .i64 tp, .int .u32 ts, .int .i64 sp, .int .u32 td, .int .i64 dp] 28))).junk os1 d1).alloc (.cells #[.int .i64 p.proto, .int .u32 p.src, .int .i64 s0, .int .u32 p.dst, .int .i64 d0] 28)).junk os2 d2).alloc (.cells #[.int .i64 p.tos, .int .i64 p.id, .bool p.df, .bool p.mf, .int .i64 p.off, .int .i64 p.ttl, .int .i64 p.proto, .int .u32 ts, .int .u32 td, .slice oo2 p.ol oc2, .slice ob2 p.bl bc2] 43)).junk os3 d3).alloc (.cells #[.int .i64 p.tos, .int .i64 p.id, .bool p.df, .bool p.mf, .int .i64 p.off, .int .i64 p.ttl, .int .i64 p.proto, .int .u32 p.src, .int .u32 p.dst, .slice oo3 p.ol oc3, .slice ob3 p.bl bc3] 43))) := by
    repeat (refine CsH.cons.2 ⟨⟨(by simp; try omega), (by go_simp), (by go_simp)⟩, ?_⟩)
    exact CsH.nil _
  have HJV := Lib.hid (show Junk w ((((((((((w.alloc (.cells #[.int .i64 p.tos, .int .i64 p.id, .bool p.df, .bool p.mf, .int .i64 p.off, .int .i64 p.ttl, .int .i64 p.proto, .int .u32 p.src, .int .u32 p.dst, .slice oo p.ol oc, .slice ob p.bl bc] 43)).alloc (.cells #[.int .i64 tp, .int .u32 ts, .int .i64 sp, .int .u32 td, .int .i64 dp] 28))).junk os1 d1).alloc (.cells #[.int .i64 p.proto, .int .u32 p.src, .int .i64 s0, .int .u32 p.dst, .int .i64 d0] 28)).junk os2 d2).alloc (.cells #[.int .i64 p.tos, .int .i64 p.id, .bool p.df, .bool p.mf, .int .i64 p.off, .int .i64 p.ttl, .int .i64 p.proto, .int .u32 ts, .int .u32 td, .slice oo2 p.ol oc2, .slice ob2 p.bl bc2] 43)).junk os3 d3).alloc (.cells #[.int .i64 p.tos, .int .i64 p.id, .bool p.df, .bool p.mf, .int .i64 p.off, .int .i64 p.ttl, .int .i64 p.proto, .int .u32 p.src, .int .u32 p.dst, .slice oo3 p.ol oc3, .slice ob3 p.bl bc3] 43))) by (first | ((repeat (first | with_reducible exact Junk.refl _ | with_reducible exact Junk.app _ _ _ _ _ | with_reducible apply Junk.alloc | with_reducible apply Junk.junk | with_reducible apply Junk.drew | with_reducible apply Junk.drewN)); done) | ((try simp only [World.junk_junk, Array.append_assoc]); (repeat (first | with_reducible exact Junk.refl _ | with_reducible exact Junk.app _ _ _ _ _ | with_reducible exact Junk.app2 _ _ _ _ _ _ | with_reducible exact Junk.app3 _ _ _ _ _ _ _ | with_reducible exact Junk.app4 _ _ _ _ _ _ _ _ | with_reducible exact Junk.app5 _ _ _ _ _ _ _ _ _ | with_reducible apply Junk.alloc | with_reducible apply Junk.junk | with_reducible apply Junk.drew | with_reducible apply Junk.drewN)))))
  have HY1 := Lib.hid (HP.out.body.on (show Junk _ ((((((((((w.alloc (.cells #[.int .i64 p.tos, .int .i64 p.id, .bool p.df, .bool p.mf, .int .i64 p.off, .int .i64 p.ttl, .int .i64 p.proto, .int .u32 p.src, .int .u32 p.dst, .slice oo p.ol oc, .slice ob p.bl bc] 43)).alloc (.cells #[.int .i64 tp, .int .u32 ts, .int .i64 sp, .int .u32 td, .int .i64 dp] 28))).junk os1 d1).alloc (.cells #[.int .i64 p.proto, .int .u32 p.src, .int .i64 s0, .int .u32 p.dst, .int .i64 d0] 28)).junk os2 d2).alloc (.cells #[.int .i64 p.tos, .int .i64 p.id, .bool p.df, .bool p.mf, .int .i64 p.off, .int .i64 p.ttl, .int .i64 p.proto, .int .u32 ts, .int .u32 td, .slice oo2 p.ol oc2, .slice ob2 p.bl bc2] 43)).junk os3 d3).alloc (.cells #[.int .i64 p.tos, .int .i64 p.id, .bool p.df, .bool p.mf, .int .i64 p.off, .int .i64 p.ttl, .int .i64 p.proto, .int .u32 p.src, .int .u32 p.dst, .slice oo3 p.ol oc3, .slice ob3 p.bl bc3] 43))) by (first | ((repeat (first | with_reducible exact Junk.refl _ | with_reducible exact Junk.app _ _ _ _ _ | with_reducible apply Junk.alloc | with_reducible apply Junk.junk | with_reducible apply Junk.drew | with_reducible apply Junk.drewN)); done) | ((try simp only [World.junk_junk, Array.append_assoc]); (repeat (first | with_reducible exact Junk.refl _ | with_reducible exact Junk.app _ _ _ _ _ | with_reducible exact Junk.app2 _ _ _ _ _ _ | with_reducible exact Junk.app3 _ _ _ _ _ _ _ | with_reducible exact Junk.app4 _ _ _ _ _ _ _ _ | with_reducible exact Junk.app5 _ _ _ _ _ _ _ _ _ | with_reducible apply Junk.alloc | with_reducible apply Junk.junk | with_reducible apply Junk.drew | with_reducible apply Junk.drewN))))))
  have HP5 := Lib.hid (HP3.out.on (show Junk _ ((((((((((w.alloc (.cells #[.int .i64 p.tos, .int .i64 p.id, .bool p.df, .bool p.mf, .int .i64 p.off, .int .i64 p.ttl, .int .i64 p.proto, .int .u32 p.src, .int .u32 p.dst, .slice oo p.ol oc, .slice ob p.bl bc] 43)).alloc (.cells #[.int .i64 tp, .int .u32 ts, .int .i64 sp, .int .u32 td, .int .i64 dp] 28))).junk os1 d1).alloc (.cells #[.int .i64 p.proto, .int .u32 p.src, .int .i64 s0, .int .u32 p.dst, .int .i64 d0] 28)).junk os2 d2).alloc (.cells #[.int .i64 p.tos, .int .i64 p.id, .bool p.df, .bool p.mf, .int .i64 p.off, .int .i64 p.ttl, .int .i64 p.proto, .int .u32 ts, .int .u32 td, .slice oo2 p.ol oc2, .slice ob2 p.bl bc2] 43)).junk os3 d3).alloc (.cells #[.int .i64 p.tos, .int .i64 p.id, .bool p.df, .bool p.mf, .int .i64 p.off, .int .i64 p.ttl, .int .i64 p.proto, .int .u32 p.src, .int .u32 p.dst, .slice oo3 p.ol oc3, .slice ob3 p.bl bc3] 43))) by (first | ((repeat (first | with_reducible exact Junk.refl _ | with_reducible exact Junk.app _ _ _ _ _ | with_reducible apply Junk.alloc | with_reducible apply Junk.junk | with_reducible apply Junk.drew | with_reducible apply Junk.drewN)); done) | ((try simp only [World.junk_junk, Array.append_assoc]); (repeat (first | with_reducible exact Junk.refl _ | with_reducible exact Junk.app _ _ _ _ _ | with_reducible exact Junk.app2 _ _ _ _ _ _ | with_reducible exact Junk.app3 _ _ _ _ _ _ _ | with_reducible exact Junk.app4 _ _ _ _ _ _ _ _ | with_reducible exact Junk.app5 _ _ _ _ _ _ _ _ _ | with_reducible apply Junk.alloc | with_reducible apply Junk.junk | with_reducible apply Junk.drew | with_reducible apply Junk.drewN))))))
  have hy2 := HP5.out.body
  rw [R2.out] at hy2
  have HY2 := Lib.hid hy2
  clear hy2 HBO HB2 HOF HSH HP HP2 HP3
  generalize (((((((((w.alloc (.cells #[.int .i64 p.tos, .int .i64 p.id, .bool p.df, .bool p.mf, .int .i64 p.off, .int .i64 p.ttl, .int .i64 p.proto, .int .u32 p.src, .int .u32 p.dst, .slice oo p.ol oc, .slice ob p.bl bc] 43)).alloc (.cells #[.int .i64 tp, .int .u32 ts, .int .i64 sp, .int .u32 td, .int .i64 dp] 28))).junk os1 d1).alloc (.cells #[.int .i64 p.proto, .int .u32 p.src, .int .i64 s0, .int .u32 p.dst, .int .i64 d0] 28)).junk os2 d2).alloc (.cells #[.int .i64 p.tos, .int .i64 p.id, .bool p.df, .bool p.mf, .int .i64 p.off, .int .i64 p.ttl, .int .i64 p.proto, .int .u32 ts, .int .u32 td, .slice oo2 p.ol oc2, .slice ob2 p.bl bc2] 43)).junk os3 d3).alloc (.cells #[.int .i64 p.tos, .int .i64 p.id, .bool p.df, .bool p.mf, .int .i64 p.off, .int .i64 p.ttl, .int .i64 p.proto, .int .u32 p.src, .int .u32 p.dst, .slice oo3 p.ol oc3, .slice ob3 p.bl bc3] 43)) = V at HCS HJV HY1 HY2 HP5 ⊢
  generalize hbr : (w.heap.size + 1 + 1 + os1.size + 1 + os2.size + 1 + os3.size) = br at HCS ⊢
  generalize hbo : (w.heap.size + 1 + 1 + os1.size) = bo at HCS ⊢
  clear hbr hbo
  generalize w.heap.size = bp at HCS ⊢
  obtain ⟨sp, mp7, _⟩ := HCS (bp, 7, .int .u32 p.src) (by simp)
  obtain ⟨_, mp8, _⟩ := HCS (bp, 8, .int .u32 p.dst) (by simp)
  obtain ⟨_, mp10, _⟩ := HCS (bp, 10, .slice ob p.bl bc) (by simp)
  obtain ⟨so, mo0, _⟩ := HCS (bo, 0, .int .i64 p.proto) (by simp)
  obtain ⟨_, mo1, _⟩ := HCS (bo, 1, .int .u32 p.src) (by simp)
  obtain ⟨_, mo2, _⟩ := HCS (bo, 2, .int .i64 s0) (by simp)
  obtain ⟨_, mo3, _⟩ := HCS (bo, 3, .int .u32 p.dst) (by simp)
  obtain ⟨_, mo4, _⟩ := HCS (bo, 4, .int .i64 d0) (by simp)
  obtain ⟨sq, mq0, _⟩ := HCS (br, 0, .int .i64 p.tos) (by simp)
  obtain ⟨_, mq1, _⟩ := HCS (br, 1, .int .i64 p.id) (by simp)
  obtain ⟨_, mq2, _⟩ := HCS (br, 2, .bool p.df) (by simp)
  obtain ⟨_, mq3, _⟩ := HCS (br, 3, .bool p.mf) (by simp)
  obtain ⟨_, mq4, _⟩ := HCS (br, 4, .int .i64 p.off) (by simp)
  obtain ⟨_, mq5, _⟩ := HCS (br, 5, .int .i64 p.ttl) (by simp)
  obtain ⟨_, mq6, _⟩ := HCS (br, 6, .int .i64 p.proto) (by simp)
  obtain ⟨_, mq7, _⟩ := HCS (br, 7, .int .u32 p.src) (by simp)
  obtain ⟨_, mq8, _⟩ := HCS (br, 8, .int .u32 p.dst) (by simp)
  obtain ⟨_, mq9, _⟩ := HCS (br, 9, .slice oo3 p.ol oc3) (by simp)
  obtain ⟨_, mq10, _⟩ := HCS (br, 10, .slice ob3 p.bl bc3) (by simp)
  clear HCS
  obtain ⟨bb, bo2, rfl, hbb, _⟩ := HY1.out.at_ 0 (by omega)
  obtain ⟨bb2, bo3, rfl, hbb2, _⟩ := HY2.out.at_ 0 (by omega)
  go_loopw [12] (fun i wr => ∃ k : Nat, k ≤ p.bl ∧ i = .int .i64 k ∧ Junk V wr) (fun i _ => p.bl - (intOf i).toNat)
  case atStart => exact ⟨0, by omega, rfl, Junk.refl _⟩
  case round =>
    obtain ⟨k, hk, rfl, ⟨os, d, rfl⟩⟩ := hrel
    by_cases hlt : k < p.bl
    · obtain ⟨b1, off1, he1, _, hc1⟩ := HY1.out.at_ k hlt
      obtain ⟨b2, off2, he2, _, hc2⟩ := HY2.out.at_ k hlt
      cases he1
      cases he2
      have l1 : (k : Int) < (p.bl : Int) := by omega
      have w1 := wrapk_i64 ((k : Int) + 1) (by omega) (by omega)
      by_cases k1 : k = 2
      · have c1 : ((k : Int) != 2) = false := by simp; omega
        clear k1
        go_wp2
        refine wp_region_junk (by kernel_rfl) (by kernel_rfl) ?_; (repeat (go_big_quiet_step (first | fail))); refine wpQuiet_nil ?_; rintro _ ⟨⟨osq, dq⟩, rfl⟩
        go_wp2
        exact ⟨⟨k + 1, by omega, by go_num, by (first | ((repeat (first | with_reducible exact Junk.refl _ | with_reducible exact Junk.app _ _ _ _ _ | with_reducible apply Junk.alloc | with_reducible apply Junk.junk | with_reducible apply Junk.drew | with_reducible apply Junk.drewN)); done) | ((try simp only [World.junk_junk, Array.append_assoc]); (repeat (first | with_reducible exact Junk.refl _ | with_reducible exact Junk.app _ _ _ _ _ | with_reducible exact Junk.app2 _ _ _ _ _ _ | with_reducible exact Junk.app3 _ _ _ _ _ _ _ | with_reducible exact Junk.app4 _ _ _ _ _ _ _ _ | with_reducible exact Junk.app5 _ _ _ _ _ _ _ _ _ | with_reducible apply Junk.alloc | with_reducible apply Junk.junk | with_reducible apply Junk.drew | with_reducible apply Junk.drewN))))⟩, by simp [intOf]; omega⟩
      · have c1 : ((k : Int) != 2) = true := by simp; omega
        by_cases k2 : k = 2 + 1
        · have c2 : ((k : Int) != 3) = false := by simp; omega
          clear k1 k2
          go_wp2
          refine wp_region_junk (by kernel_rfl) (by kernel_rfl) ?_; (repeat (go_big_quiet_step (first | fail))); refine wpQuiet_nil ?_; rintro _ ⟨⟨osq, dq⟩, rfl⟩
          go_wp2
          exact ⟨⟨k + 1, by omega, by go_num, by (first | ((repeat (first | with_reducible exact Junk.refl _ | with_reducible exact Junk.app _ _ _ _ _ | with_reducible apply Junk.alloc | with_reducible apply Junk.junk | with_reducible apply Junk.drew | with_reducible apply Junk.drewN)); done) | ((try simp only [World.junk_junk, Array.append_assoc]); (repeat (first | with_reducible exact Junk.refl _ | with_reducible exact Junk.app _ _ _ _ _ | with_reducible exact Junk.app2 _ _ _ _ _ _ | with_reducible exact Junk.app3 _ _ _ _ _ _ _ | with_reducible exact Junk.app4 _ _ _ _ _ _ _ _ | with_reducible exact Junk.app5 _ _ _ _ _ _ _ _ _ | with_reducible apply Junk.alloc | with_reducible apply Junk.junk | with_reducible apply Junk.drew | with_reducible apply Junk.drewN))))⟩, by simp [intOf]; omega⟩
        · have c2 : ((k : Int) != 3) = true := by simp; omega
          have hxy : (p.body k != r.body k) = false := by rw [HBY.out k hlt k1 k2]; simp
          clear k1 k2
          go_wp2
          refine wp_region_junk (by kernel_rfl) (by kernel_rfl) ?_; (repeat (go_big_quiet_step (first | fail))); refine wpQuiet_nil ?_; rintro _ ⟨⟨osq, dq⟩, rfl⟩
          go_wp2
          exact ⟨⟨k + 1, by omega, by go_num, by (first | ((repeat (first | with_reducible exact Junk.refl _ | with_reducible exact Junk.app _ _ _ _ _ | with_reducible apply Junk.alloc | with_reducible apply Junk.junk | with_reducible apply Junk.drew | with_reducible apply Junk.drewN)); done) | ((try simp only [World.junk_junk, Array.append_assoc]); (repeat (first | with_reducible exact Junk.refl _ | with_reducible exact Junk.app _ _ _ _ _ | with_reducible exact Junk.app2 _ _ _ _ _ _ | with_reducible exact Junk.app3 _ _ _ _ _ _ _ | with_reducible exact Junk.app4 _ _ _ _ _ _ _ _ | with_reducible exact Junk.app5 _ _ _ _ _ _ _ _ _ | with_reducible apply Junk.alloc | with_reducible apply Junk.junk | with_reducible apply Junk.drew | with_reducible apply Junk.drewN))))⟩, by simp [intOf]; omega⟩
    · have l1 : ¬ (k : Int) < (p.bl : Int) := by omega
      go_wp2_with (first | (go_at_call 20; (with_reducible refine (HOR.out _ _ _ _ _ (HP5.out.on (by (first | ((repeat (first | with_reducible exact Junk.refl _ | with_reducible exact Junk.app _ _ _ _ _ | with_reducible apply Junk.alloc | with_reducible apply Junk.junk | with_reducible apply Junk.drew | with_reducible apply Junk.drewN)); done) | ((try simp only [World.junk_junk, Array.append_assoc]); (repeat (first | with_reducible exact Junk.refl _ | with_reducible exact Junk.app _ _ _ _ _ | with_reducible exact Junk.app2 _ _ _ _ _ _ | with_reducible exact Junk.app3 _ _ _ _ _ _ _ | with_reducible exact Junk.app4 _ _ _ _ _ _ _ _ | with_reducible exact Junk.app5 _ _ _ _ _ _ _ _ _ | with_reducible apply Junk.alloc | with_reducible apply Junk.junk | with_reducible apply Junk.drew | with_reducible apply Junk.drewN))))))).mono ?_); rintro e w' ⟨rfl, ⟨osj, dj, rfl⟩⟩))
      all_goals (go_ret; exact ⟨ret_bool rfl, HJV.out.trans (by (first | ((repeat (first | with_reducible exact Junk.refl _ | with_reducible exact Junk.app _ _ _ _ _ | with_reducible apply Junk.alloc | with_reducible apply Junk.junk | with_reducible apply Junk.drew | with_reducible apply Junk.drewN)); done) | ((try simp only [World.junk_junk, Array.append_assoc]); (repeat (first | with_reducible exact Junk.refl _ | with_reducible exact Junk.app _ _ _ _ _ | with_reducible exact Junk.app2 _ _ _ _ _ _ | with_reducible exact Junk.app3 _ _ _ _ _ _ _ | with_reducible exact Junk.app4 _ _ _ _ _ _ _ _ | with_reducible exact Junk.app5 _ _ _ _ _ _ _ _ _ | with_reducible apply Junk.alloc | with_reducible apply Junk.junk | with_reducible apply Junk.drew | with_reducible apply Junk.drewN)))))⟩)
theorem rewriteBack_walk (p : Ip) (oo ob : Option Addr) (oc bc : Nat) (tp ts sp td dp : Int) (w : World) (hP : IpAt w p oo oc ob bc) (hts : 0 ≤ ts ∧ ts ≤ 4294967295) (htd : 0 ≤ td ∧ td ≤ 4294967295) : Calls Try.prog 6 #[.agg #[.int .i64 p.tos, .int .i64 p.id, .bool p.df, .bool p.mf, .int .i64 p.off, .int .i64 p.ttl, .int .i64 p.proto, .int .u32 p.src, .int .u32 p.dst, .slice oo p.ol oc, .slice ob p.bl bc], .agg #[.int .i64 tp, .int .u32 ts, .int .i64 sp, .int .u32 td, .int .i64 dp]] w fun e w' => e = .returned (.bool true) ∧ Junk w w' := by
  by_cases h : shortB p = true ∧ rw2Err p ⟨tp, ts, sp, td, dp⟩ = 0
  · by_cases h1 : p.proto = 1
    · exact rewriteBack_i p oo ob oc bc tp ts sp td dp w hP hts htd h.1 h.2 h1
    · by_cases h17 : p.proto = 17
      · exact rewriteBack_u p oo ob oc bc tp ts sp td dp w hP hts htd h.1 h.2 h17
      · exact rewriteBack_t p oo ob oc bc tp ts sp td dp w hP hts htd h.1 h.2 ⟨h1, h17⟩
  · exact rewriteBack_no p oo ob oc bc tp ts sp td dp w hP hts htd h

theorem rewriteBack_core (W : World) (base : Nat) (v0 v1 : Value) (a0 : Arg Try.prog W base 43 v0) (a1 : Arg Try.prog W base 28 v1) :
    Calls Try.prog 6 #[v0, v1] W fun e W' => e = .returned (.bool true) ∧ Junk W W' := by
  obtain ⟨cs_p, rfl, h_p⟩ := a0.struct Try.underlying43
  obtain ⟨hl_p, hf_p⟩ := h_p.fields1 Try.underlying43 (by kernel_rfl) (n := 11) (by kernel_rfl)
  obtain ⟨p_TOS, lp0, e_p0⟩ : ∃ x l, cs_p = x :: l := by cases cs_p with | nil => simp at hl_p | cons x l => exact ⟨x, l, rfl⟩
  subst e_p0
  obtain ⟨p_ID, lp1, e_p1⟩ : ∃ x l, lp0 = x :: l := by cases lp0 with | nil => simp at hl_p | cons x l => exact ⟨x, l, rfl⟩
  subst e_p1
  obtain ⟨p_DF, lp2, e_p2⟩ : ∃ x l, lp1 = x :: l := by cases lp1 with | nil => simp at hl_p | cons x l => exact ⟨x, l, rfl⟩
  subst e_p2
  obtain ⟨p_MF, lp3, e_p3⟩ : ∃ x l, lp2 = x :: l := by cases lp2 with | nil => simp at hl_p | cons x l => exact ⟨x, l, rfl⟩
  subst e_p3
  obtain ⟨p_Off, lp4, e_p4⟩ : ∃ x l, lp3 = x :: l := by cases lp3 with | nil => simp at hl_p | cons x l => exact ⟨x, l, rfl⟩
  subst e_p4
  obtain ⟨p_TTL, lp5, e_p5⟩ : ∃ x l, lp4 = x :: l := by cases lp4 with | nil => simp at hl_p | cons x l => exact ⟨x, l, rfl⟩
  subst e_p5
  obtain ⟨p_Proto, lp6, e_p6⟩ : ∃ x l, lp5 = x :: l := by cases lp5 with | nil => simp at hl_p | cons x l => exact ⟨x, l, rfl⟩
  subst e_p6
  obtain ⟨p_Src, lp7, e_p7⟩ : ∃ x l, lp6 = x :: l := by cases lp6 with | nil => simp at hl_p | cons x l => exact ⟨x, l, rfl⟩
  subst e_p7
  obtain ⟨p_Dst, lp8, e_p8⟩ : ∃ x l, lp7 = x :: l := by cases lp7 with | nil => simp at hl_p | cons x l => exact ⟨x, l, rfl⟩
  subst e_p8
  obtain ⟨p_Opts, lp9, e_p9⟩ : ∃ x l, lp8 = x :: l := by cases lp8 with | nil => simp at hl_p | cons x l => exact ⟨x, l, rfl⟩
  subst e_p9
  obtain ⟨p_Body, lp10, e_p10⟩ : ∃ x l, lp9 = x :: l := by cases lp9 with | nil => simp at hl_p | cons x l => exact ⟨x, l, rfl⟩
  subst e_p10
  obtain rfl : lp10 = [] := by simpa using hl_p
  have f_p0 : Cells Try.prog W 3 [p_TOS] := hf_p 0 _ rfl
  have f_p1 : Cells Try.prog W 3 [p_ID] := hf_p 1 _ rfl
  have f_p2 : Cells Try.prog W 4 [p_DF] := hf_p 2 _ rfl
  have f_p3 : Cells Try.prog W 4 [p_MF] := hf_p 3 _ rfl
  have f_p4 : Cells Try.prog W 3 [p_Off] := hf_p 4 _ rfl
  have f_p5 : Cells Try.prog W 3 [p_TTL] := hf_p 5 _ rfl
  have f_p6 : Cells Try.prog W 3 [p_Proto] := hf_p 6 _ rfl
  have f_p7 : Cells Try.prog W 22 [p_Src] := hf_p 7 _ rfl
  have f_p8 : Cells Try.prog W 22 [p_Dst] := hf_p 8 _ rfl
  have f_p9 : Cells Try.prog W 23 [p_Opts] := hf_p 9 _ rfl
  have f_p10 : Cells Try.prog W 23 [p_Body] := hf_p 10 _ rfl
  clear hf_p hl_p
  obtain ⟨p_TOS, e_p_TOS, w_p_TOS⟩ := f_p0.int Try.underlying3; cases e_p_TOS
  obtain ⟨p_ID, e_p_ID, w_p_ID⟩ := f_p1.int Try.underlying3; cases e_p_ID
  obtain ⟨p_DF, e_p_DF⟩ := f_p2.bool Try.underlying4; cases e_p_DF
  obtain ⟨p_MF, e_p_MF⟩ := f_p3.bool Try.underlying4; cases e_p_MF
  obtain ⟨p_Off, e_p_Off, w_p_Off⟩ := f_p4.int Try.underlying3; cases e_p_Off
  obtain ⟨p_TTL, e_p_TTL, w_p_TTL⟩ := f_p5.int Try.underlying3; cases e_p_TTL
  obtain ⟨p_Proto, e_p_Proto, w_p_Proto⟩ := f_p6.int Try.underlying3; cases e_p_Proto
  obtain ⟨p_Src, e_p_Src, w_p_Src⟩ := f_p7.int Try.underlying22; cases e_p_Src
  obtain ⟨p_Dst, e_p_Dst, w_p_Dst⟩ := f_p8.int Try.underlying22; cases e_p_Dst
  obtain ⟨p_Opts_a, p_Opts_l, p_Opts_c, p_Opts, e_p_Opts, lc_p_Opts, cm_p_Opts, S_p_Opts, w_p_Opts⟩ := f_p9.ints Try.underlying23 Try.underlying5 (by kernel_rfl); cases e_p_Opts
  obtain ⟨p_Body_a, p_Body_l, p_Body_c, p_Body, e_p_Body, lc_p_Body, cm_p_Body, S_p_Body, w_p_Body⟩ := f_p10.ints Try.underlying23 Try.underlying5 (by kernel_rfl); cases e_p_Body
  obtain ⟨cs_t, rfl, h_t⟩ := a1.struct Try.underlying28
  obtain ⟨hl_t, hf_t⟩ := h_t.fields1 Try.underlying28 (by kernel_rfl) (n := 5) (by kernel_rfl)
  obtain ⟨t_Proto, lt0, e_t0⟩ : ∃ x l, cs_t = x :: l := by cases cs_t with | nil => simp at hl_t | cons x l => exact ⟨x, l, rfl⟩
  subst e_t0
  obtain ⟨t_Src, lt1, e_t1⟩ : ∃ x l, lt0 = x :: l := by cases lt0 with | nil => simp at hl_t | cons x l => exact ⟨x, l, rfl⟩
  subst e_t1
  obtain ⟨t_Sport, lt2, e_t2⟩ : ∃ x l, lt1 = x :: l := by cases lt1 with | nil => simp at hl_t | cons x l => exact ⟨x, l, rfl⟩
  subst e_t2
  obtain ⟨t_Dst, lt3, e_t3⟩ : ∃ x l, lt2 = x :: l := by cases lt2 with | nil => simp at hl_t | cons x l => exact ⟨x, l, rfl⟩
  subst e_t3
  obtain ⟨t_Dport, lt4, e_t4⟩ : ∃ x l, lt3 = x :: l := by cases lt3 with | nil => simp at hl_t | cons x l => exact ⟨x, l, rfl⟩
  subst e_t4
  obtain rfl : lt4 = [] := by simpa using hl_t
  have f_t0 : Cells Try.prog W 3 [t_Proto] := hf_t 0 _ rfl
  have f_t1 : Cells Try.prog W 22 [t_Src] := hf_t 1 _ rfl
  have f_t2 : Cells Try.prog W 3 [t_Sport] := hf_t 2 _ rfl
  have f_t3 : Cells Try.prog W 22 [t_Dst] := hf_t 3 _ rfl
  have f_t4 : Cells Try.prog W 3 [t_Dport] := hf_t 4 _ rfl
  clear hf_t hl_t
  obtain ⟨t_Proto, e_t_Proto, w_t_Proto⟩ := f_t0.int Try.underlying3; cases e_t_Proto
  obtain ⟨t_Src, e_t_Src, w_t_Src⟩ := f_t1.int Try.underlying22; cases e_t_Src
  obtain ⟨t_Sport, e_t_Sport, w_t_Sport⟩ := f_t2.int Try.underlying3; cases e_t_Sport
  obtain ⟨t_Dst, e_t_Dst, w_t_Dst⟩ := f_t3.int Try.underlying22; cases e_t_Dst
  obtain ⟨t_Dport, e_t_Dport, w_t_Dport⟩ := f_t4.int Try.underlying3; cases e_t_Dport
  have hlm : maxLen = 9223372036854775807 := rfl
  exact rewriteBack_walk ⟨p_TOS, p_ID, p_DF, p_MF, p_Off, p_TTL, p_Proto, p_Src, p_Dst, p_Opts_l, p_Opts, p_Body_l, p_Body⟩ p_Opts_a p_Body_a p_Opts_c p_Body_c t_Proto t_Src t_Sport t_Dst t_Dport W
    ⟨⟨S_p_Opts, fun i hi => bounds_u8 (w_p_Opts i hi), Cells.nil_slice Try.underlying23 f_p9, lc_p_Opts, cm_p_Opts⟩, ⟨S_p_Body, fun i hi => bounds_u8 (w_p_Body i hi), Cells.nil_slice Try.underlying23 f_p10, lc_p_Body, cm_p_Body⟩, bounds_u32 w_p_Src, bounds_u32 w_p_Dst⟩ (bounds_u32 w_t_Src) (bounds_u32 w_t_Dst)
set_option maxRecDepth 100000 in
theorem rewriteBack_lifted (os : Os) (started : os.Started) (H : Type) (enc : TypeId × Value → H) :
    ReturnsInHanded {} Try.checked os 6 .any (Rows.rewriteBackSpec.pre6 enc Try.prog Try.f6 Rows.rewriteBackRow.domain false) (Rows.rewriteBackSpec.post enc Try.prog Try.f6 false true false false) := by
  refine returnsInHanded_of_change (C := Try.checked) (by kernel_rfl) started (by kernel_rfl) Try.func6
    (ChangeSpec.witness6 (enc := enc) (C := Try.checked) false ⟨#[], #[.agg #[.int .i64 0, .int .i64 0, .bool false, .bool false, .int .i64 0, .int .i64 0, .int .i64 0, .int .u32 0, .int .u32 0, .slice none 0 0, .slice none 0 0], .agg #[.int .i64 0, .int .u32 0, .int .i64 0, .int .u32 0, .int .i64 0]], []⟩ 8 (by kernel_rfl) (by kernel_rfl) (by kernel_rfl) (by kernel_rfl)) ?_
  intro W base args ds gs before hval hW _ _
  obtain ⟨p, q, hA, _, _, _, _⟩ := id hW
  have hargs : Args Try.prog W base Try.f6.params.toList args.toList := args_of (fun j t v h1 h2 => hval j t v (by simpa using h1) (by simpa using h2)) hA
  rw [Try.params6] at hargs
  obtain ⟨v0, l0, e0, a0, r0⟩ := args_cons hargs
  obtain ⟨v1, l1, e1, a1, r1⟩ := args_cons r0
  have hn := args_nil r1
  have he : args = #[v0, v1] := by
    apply Array.ext'
    simp only [e0, e1, hn]
  subst he
  exact (rewriteBack_core W base v0 v1 a0 a1).mono fun e W' ⟨he, hj⟩ => ⟨_, he, post_true (tb := 4) (by kernel_rfl) (by kernel_rfl) rfl (by kernel_rfl) rfl hW (fun hg hl => by
    subst hg
    match ds, hl with
    | [_, _], _ => exact ⟨rfl, rfl, rfl⟩) hj⟩
theorem rewriteBack_holds : Rows.RewriteBackSaid :=
  OpenClaim.holds_of_wide 6 Try.f6 rfl rfl rfl rfl rfl rfl rfl ⟨rfl, rfl, rfl, rfl, rfl⟩ rfl rfl rfl rfl rfl (by kernel_rfl) Try.func6 (by kernel_rfl)
    (of_decide_eq_true (by kernel_rfl)) (by unfold Func.isWrapper; rw [if_neg (of_decide_eq_false (by kernel_rfl))]; exact ⟨rfl, rfl⟩)
    (fun os started H enc _ => rewriteBack_lifted os started H enc)

end Go.Proofs.Ytnefphinmjeacaa
