/- The law RewriteOwn: a packet that is turned to its own names is as it was but for its check sum; two turns of one side are the second one, but for it. -/
import Derived.Test.YtnefphinmjeacaaReM
import Derived.Test.YtnefphinmjeacaaLift2
set_option linter.unusedVariables false
set_option maxRecDepth 100000
set_option linter.unusedSimpArgs false
namespace Go.Proofs.Ytnefphinmjeacaa
open Go.RowKit
theorem ip_of (p : Ip) (oo ob : Option Addr) (oc bc : Nat) (w : World) (hP : IpAt w p oo oc ob bc) (hl : p.bl ≤ 3000) : Calls Try.prog 20 #[.agg #[.int .i64 p.tos, .int .i64 p.id, .bool p.df, .bool p.mf, .int .i64 p.off, .int .i64 p.ttl, .int .i64 p.proto, .int .u32 p.src, .int .u32 p.dst, .slice oo p.ol oc, .slice ob p.bl bc]] w fun e w' => e = .returned (.tuple #[.agg #[.int .i64 p.tup.proto, .int .u32 p.tup.src, .int .i64 p.tup.sport, .int .u32 p.tup.dst, .int .i64 p.tup.dport], .int .i64 p.err]) ∧ Junk w w' :=
  tup_of_any _ _ _ _ _ p.mf p.off p.proto p.src p.dst ob p.bl bc p.body w hP.src hP.dst (by omega) hP.body
set_option maxHeartbeats 4000000 in
theorem rewriteOwn_no (p : Ip) (oo ob : Option Addr) (oc bc : Nat) (a b x y : Int) (w : World) (hP : IpAt w p oo oc ob bc) (ha : 0 ≤ a ∧ a ≤ 4294967295) (hb : 0 ≤ b ∧ b ≤ 4294967295) (hx : 0 ≤ x ∧ x ≤ 65535) (hy : 0 ≤ y ∧ y ≤ 65535) (hn : ¬ (shortB p = true ∧ p.err = 0)) : Calls Try.prog 7 #[.agg #[.int .i64 p.tos, .int .i64 p.id, .bool p.df, .bool p.mf, .int .i64 p.off, .int .i64 p.ttl, .int .i64 p.proto, .int .u32 p.src, .int .u32 p.dst, .slice oo p.ol oc, .slice ob p.bl bc], .int .u32 a, .int .u32 b, .int .u16 x, .int .u16 y] w fun e w' => e = .returned (.bool true) ∧ Junk w w' := by
  have HP := Lib.hid hP
  cases hs : shortB p with
  | false =>
    have HSH := Lib.hid (fun w1 => show Calls Try.prog 19 #[.agg #[.int .i64 p.tos, .int .i64 p.id, .bool p.df, .bool p.mf, .int .i64 p.off, .int .i64 p.ttl, .int .i64 p.proto, .int .u32 p.src, .int .u32 p.dst, .slice oo p.ol oc, .slice ob p.bl bc]] w1 fun e w' => e = .returned (.bool false) ∧ Junk w1 w' by rw [← hs]; exact short_any p oo ob oc bc w1)
    clear hn hs hP
    go_enter Try.func7, Try.ntmps7
    go_wp2_with (first | (go_at_call 18; refine (awake25_any _).mono ?_; rintro e w' ⟨rfl, ⟨osj, dj, rfl⟩⟩) | (go_at_call 19; refine (HSH.out _).mono ?_; rintro e w' ⟨rfl, ⟨osj, dj, rfl⟩⟩))
    all_goals (go_ret; exact ⟨ret_bool rfl, by (first | ((repeat (first | with_reducible exact Junk.refl _ | with_reducible exact Junk.app _ _ _ _ _ | with_reducible apply Junk.alloc | with_reducible apply Junk.junk | with_reducible apply Junk.drew | with_reducible apply Junk.drewN)); done) | ((try simp only [World.junk_junk, Array.append_assoc]); (repeat (first | with_reducible exact Junk.refl _ | with_reducible exact Junk.app _ _ _ _ _ | with_reducible exact Junk.app2 _ _ _ _ _ _ | with_reducible exact Junk.app3 _ _ _ _ _ _ _ | with_reducible exact Junk.app4 _ _ _ _ _ _ _ _ | with_reducible exact Junk.app5 _ _ _ _ _ _ _ _ _ | with_reducible apply Junk.alloc | with_reducible apply Junk.junk | with_reducible apply Junk.drew | with_reducible apply Junk.drewN))))⟩)
  | true =>
    obtain ⟨s1, s2⟩ := shortB_true hs
    have HSH := Lib.hid (fun w1 => show Calls Try.prog 19 #[.agg #[.int .i64 p.tos, .int .i64 p.id, .bool p.df, .bool p.mf, .int .i64 p.off, .int .i64 p.ttl, .int .i64 p.proto, .int .u32 p.src, .int .u32 p.dst, .slice oo p.ol oc, .slice ob p.bl bc]] w1 fun e w' => e = .returned (.bool true) ∧ Junk w1 w' by rw [← hs]; exact short_any p oo ob oc bc w1)
    have h0 : p.err ≠ 0 := fun h => hn ⟨hs, h⟩
    have HOF := Lib.hid (fun w1 (hp : IpAt w1 p oo oc ob bc) => ip_of p oo ob oc bc w1 hp s2)
    obtain ⟨E, hE⟩ : ∃ E, p.err = E := ⟨_, rfl⟩
    obtain ⟨⟨t0, t1, t2, t3, t4⟩, hT⟩ : ∃ t, p.tup = t := ⟨_, rfl⟩
    rw [hE] at HOF h0
    rw [hT] at HOF
    have hne : (E != 0) = true := by simpa using h0
    clear hn hs hP h0 hE hT
    go_enter Try.func7, Try.ntmps7
    go_wp2_with (first | (go_at_call 18; refine (awake25_any _).mono ?_; rintro e w' ⟨rfl, ⟨osj, dj, rfl⟩⟩) | (go_at_call 19; refine (HSH.out _).mono ?_; rintro e w' ⟨rfl, ⟨osj, dj, rfl⟩⟩) | (go_at_call 20; (with_reducible refine (HOF.out _ (HP.out.on (by (first | ((repeat (first | with_reducible exact Junk.refl _ | with_reducible exact Junk.app _ _ _ _ _ | with_reducible apply Junk.alloc | with_reducible apply Junk.junk | with_reducible apply Junk.drew | with_reducible apply Junk.drewN)); done) | ((try simp only [World.junk_junk, Array.append_assoc]); (repeat (first | with_reducible exact Junk.refl _ | with_reducible exact Junk.app _ _ _ _ _ | with_reducible exact Junk.app2 _ _ _ _ _ _ | with_reducible exact Junk.app3 _ _ _ _ _ _ _ | with_reducible exact Junk.app4 _ _ _ _ _ _ _ _ | with_reducible exact Junk.app5 _ _ _ _ _ _ _ _ _ | with_reducible apply Junk.alloc | with_reducible apply Junk.junk | with_reducible apply Junk.drew | with_reducible apply Junk.drewN))))))).mono ?_); rintro e w' ⟨rfl, ⟨osj, dj, rfl⟩⟩))
    all_goals (go_ret; exact ⟨ret_bool rfl, by (first | ((repeat (first | with_reducible exact Junk.refl _ | with_reducible exact Junk.app _ _ _ _ _ | with_reducible apply Junk.alloc | with_reducible apply Junk.junk | with_reducible apply Junk.drew | with_reducible apply Junk.drewN)); done) | ((try simp only [World.junk_junk, Array.append_assoc]); (repeat (first | with_reducible exact Junk.refl _ | with_reducible exact Junk.app _ _ _ _ _ | with_reducible exact Junk.app2 _ _ _ _ _ _ | with_reducible exact Junk.app3 _ _ _ _ _ _ _ | with_reducible exact Junk.app4 _ _ _ _ _ _ _ _ | with_reducible exact Junk.app5 _ _ _ _ _ _ _ _ _ | with_reducible apply Junk.alloc | with_reducible apply Junk.junk | with_reducible apply Junk.drew | with_reducible apply Junk.drewN))))⟩)
set_option maxHeartbeats 8000000 in
theorem rewriteOwn_ok (p : Ip) (oo ob : Option Addr) (oc bc : Nat) (a b x y : Int) (w : World) (hP : IpAt w p oo oc ob bc) (ha : 0 ≤ a ∧ a ≤ 4294967295) (hb : 0 ≤ b ∧ b ≤ 4294967295) (hx : 0 ≤ x ∧ x ≤ 65535) (hy : 0 ≤ y ∧ y ≤ 65535) (hs : shortB p = true) (h0 : p.err = 0) : Calls Try.prog 7 #[.agg #[.int .i64 p.tos, .int .i64 p.id, .bool p.df, .bool p.mf, .int .i64 p.off, .int .i64 p.ttl, .int .i64 p.proto, .int .u32 p.src, .int .u32 p.dst, .slice oo p.ol oc, .slice ob p.bl bc], .int .u32 a, .int .u32 b, .int .u16 x, .int .u16 y] w fun e w' => e = .returned (.bool true) ∧ Junk w w' := by
  have HP := Lib.hid hP
  obtain ⟨s1, s2⟩ := shortB_true hs
  have HSH := Lib.hid (fun w1 => show Calls Try.prog 19 #[.agg #[.int .i64 p.tos, .int .i64 p.id, .bool p.df, .bool p.mf, .int .i64 p.off, .int .i64 p.ttl, .int .i64 p.proto, .int .u32 p.src, .int .u32 p.dst, .slice oo p.ol oc, .slice ob p.bl bc]] w1 fun e w' => e = .returned (.bool true) ∧ Junk w1 w' by rw [← hs]; exact short_any p oo ob oc bc w1)
  have hw := hP.w
  obtain ⟨o1, o2, o3, o4, o5, o6, _, _⟩ := own_may h0 hw
  obtain ⟨⟨t0, t1, s0, t3, d0⟩, hT⟩ : ∃ t, p.tup = t := ⟨_, rfl⟩
  have hT0 := hT
  rw [hT] at o1 o2 o3 o4 o5 o6
  obtain rfl : t0 = p.proto := o1
  obtain rfl : t1 = p.src := o2
  obtain rfl : t3 = p.dst := o3
  -- the packet turned to its own names
  have q0 : rw2Err p ⟨p.proto, p.src, s0, p.dst, d0⟩ = 0 := rw2_of h0 hw rfl o4 hw.src o5 o6
  obtain ⟨_, _, hR⟩ := rw2_ok q0 hw hw.src hw.dst
  -- one, two, direct
  have a1 := rwS_err h0 hw ha hx
  have a2 := rwS_w h0 hw ha hx
  have a3 := rwS_tup h0 hw ha hx
  have b1 := rwS_err a1 a2 hb hy
  have b3 := rwS_tup a1 a2 hb hy
  have c1 := rwS_err h0 hw hb hy
  have c3 := rwS_tup h0 hw hb hy
  obtain ⟨d1, hd1⟩ : ∃ d1, (if p.proto = 1 then y else prD p.proto p.body) = d1 := ⟨_, rfl⟩
  have b4 : (rwS (rwS p a x) b y).tup = ⟨p.proto, b, y, p.dst, d1⟩ := by
    rw [b3]
    refine tup_ext25 rfl rfl rfl rfl ?_
    show (if p.proto = 1 then y else prD p.proto (rwS p a x).body) = d1
    rw [← hd1]
    by_cases h1 : p.proto = 1
    · rw [if_pos h1, if_pos h1]
    · rw [if_neg h1, if_neg h1]
      have := congrArg Tup.dport a3
      rw [tup_ok a1] at this
      simp only [if_neg h1] at this
      exact this
  rw [hd1] at c3
  have HBO := Lib.hid (fun w1 (hp : IpAt w1 p oo oc ob bc) => show Calls Try.prog 21 #[.agg #[.int .i64 p.tos, .int .i64 p.id, .bool p.df, .bool p.mf, .int .i64 p.off, .int .i64 p.ttl, .int .i64 p.proto, .int .u32 p.src, .int .u32 p.dst, .slice oo p.ol oc, .slice ob p.bl bc], .agg #[.int .i64 p.proto, .int .u32 p.src, .int .i64 s0, .int .u32 p.dst, .int .i64 d0]] w1 fun e w' => ∃ (oo2 ob2 : Option Addr) (oc2 bc2 : Nat), e = .returned (.tuple #[.agg #[.int .i64 p.tos, .int .i64 p.id, .bool p.df, .bool p.mf, .int .i64 p.off, .int .i64 p.ttl, .int .i64 p.proto, .int .u32 p.src, .int .u32 p.dst, .slice oo2 p.ol oc2, .slice ob2 p.bl bc2], .int .i64 0]) ∧ Junk w1 w' ∧ IpAt w' (rw2 p ⟨p.proto, p.src, s0, p.dst, d0⟩) oo2 oc2 ob2 bc2 from
    (rboth_any p oo ob oc bc p.proto p.src s0 p.dst d0 w1 hp (by omega) (by omega) hp.src hp.dst).mono fun e w' h => h.ok q0)
  have HOF := Lib.hid (fun w1 (hp : IpAt w1 p oo oc ob bc) => show Calls Try.prog 20 #[.agg #[.int .i64 p.tos, .int .i64 p.id, .bool p.df, .bool p.mf, .int .i64 p.off, .int .i64 p.ttl, .int .i64 p.proto, .int .u32 p.src, .int .u32 p.dst, .slice oo p.ol oc, .slice ob p.bl bc]] w1 fun e w' => e = .returned (.tuple #[.agg #[.int .i64 p.proto, .int .u32 p.src, .int .i64 s0, .int .u32 p.dst, .int .i64 d0], .int .i64 0]) ∧ Junk w1 w' by
    have := ip_of p oo ob oc bc w1 hp s2
    rw [hT0, h0] at this
    exact this)
  have HOQ := Lib.hid (fun oo2 ob2 oc2 bc2 w1 (hp : IpAt w1 (rw2 p ⟨p.proto, p.src, s0, p.dst, d0⟩) oo2 oc2 ob2 bc2) => show Calls Try.prog 20 #[.agg #[.int .i64 p.tos, .int .i64 p.id, .bool p.df, .bool p.mf, .int .i64 p.off, .int .i64 p.ttl, .int .i64 p.proto, .int .u32 p.src, .int .u32 p.dst, .slice oo2 p.ol oc2, .slice ob2 p.bl bc2]] w1 fun e w' => e = .returned (.tuple #[.agg #[.int .i64 p.proto, .int .u32 p.src, .int .i64 s0, .int .u32 p.dst, .int .i64 d0], .int .i64 0]) ∧ Junk w1 w' by
    have := ip_of _ oo2 ob2 oc2 bc2 w1 hp s2
    rw [hR.tup, hR.err] at this
    exact this)
  have HSA := Lib.hid (fun w1 (hp : IpAt w1 p oo oc ob bc) => show Calls Try.prog 22 #[.agg #[.int .i64 p.tos, .int .i64 p.id, .bool p.df, .bool p.mf, .int .i64 p.off, .int .i64 p.ttl, .int .i64 p.proto, .int .u32 p.src, .int .u32 p.dst, .slice oo p.ol oc, .slice ob p.bl bc], .int .u32 a, .int .i64 x] w1 fun e w' => ∃ (oo3 ob3 : Option Addr) (oc3 bc3 : Nat), e = .returned (.tuple #[.agg #[.int .i64 p.tos, .int .i64 p.id, .bool p.df, .bool p.mf, .int .i64 p.off, .int .i64 p.ttl, .int .i64 p.proto, .int .u32 a, .int .u32 p.dst, .slice oo3 p.ol oc3, .slice ob3 p.bl bc3], .int .i64 0]) ∧ Junk w1 w' ∧ IpAt w' (rwS p a x) oo3 oc3 ob3 bc3 from
    (rsrc_any p oo ob oc bc a x w1 hp (by omega) (by omega) ha).mono fun e w' h => h.ok (rwErr_of h0 hx))
  have HSB := Lib.hid (fun oo3 ob3 oc3 bc3 w1 (hp : IpAt w1 (rwS p a x) oo3 oc3 ob3 bc3) => show Calls Try.prog 22 #[.agg #[.int .i64 p.tos, .int .i64 p.id, .bool p.df, .bool p.mf, .int .i64 p.off, .int .i64 p.ttl, .int .i64 p.proto, .int .u32 a, .int .u32 p.dst, .slice oo3 p.ol oc3, .slice ob3 p.bl bc3], .int .u32 b, .int .i64 y] w1 fun e w' => ∃ (oo4 ob4 : Option Addr) (oc4 bc4 : Nat), e = .returned (.tuple #[.agg #[.int .i64 p.tos, .int .i64 p.id, .bool p.df, .bool p.mf, .int .i64 p.off, .int .i64 p.ttl, .int .i64 p.proto, .int .u32 b, .int .u32 p.dst, .slice oo4 p.ol oc4, .slice ob4 p.bl bc4], .int .i64 0]) ∧ Junk w1 w' ∧ IpAt w' (rwS (rwS p a x) b y) oo4 oc4 ob4 bc4 from
    (rsrc_any _ oo3 ob3 oc3 bc3 b y w1 hp (by show p.bl ≤ _; omega) (by show p.ol ≤ _; omega) hb).mono fun e w' h => h.ok (rwErr_of a1 hy))
  have HSC := Lib.hid (fun w1 (hp : IpAt w1 p oo oc ob bc) => show Calls Try.prog 22 #[.agg #[.int .i64 p.tos, .int .i64 p.id, .bool p.df, .bool p.mf, .int .i64 p.off, .int .i64 p.ttl, .int .i64 p.proto, .int .u32 p.src, .int .u32 p.dst, .slice oo p.ol oc, .slice ob p.bl bc], .int .u32 b, .int .i64 y] w1 fun e w' => ∃ (oo5 ob5 : Option Addr) (oc5 bc5 : Nat), e = .returned (.tuple #[.agg #[.int .i64 p.tos, .int .i64 p.id, .bool p.df, .bool p.mf, .int .i64 p.off, .int .i64 p.ttl, .int .i64 p.proto, .int .u32 b, .int .u32 p.dst, .slice oo5 p.ol oc5, .slice ob5 p.bl bc5], .int .i64 0]) ∧ Junk w1 w' ∧ IpAt w' (rwS p b y) oo5 oc5 ob5 bc5 from
    (rsrc_any p oo ob oc bc b y w1 hp (by omega) (by omega) hb).mono fun e w' h => h.ok (rwErr_of h0 hy))
  have HOB := Lib.hid (fun oo4 ob4 oc4 bc4 w1 (hp : IpAt w1 (rwS (rwS p a x) b y) oo4 oc4 ob4 bc4) => show Calls Try.prog 20 #[.agg #[.int .i64 p.tos, .int .i64 p.id, .bool p.df, .bool p.mf, .int .i64 p.off, .int .i64 p.ttl, .int .i64 p.proto, .int .u32 b, .int .u32 p.dst, .slice oo4 p.ol oc4, .slice ob4 p.bl bc4]] w1 fun e w' => e = .returned (.tuple #[.agg #[.int .i64 p.proto, .int .u32 b, .int .i64 y, .int .u32 p.dst, .int .i64 d1], .int .i64 0]) ∧ Junk w1 w' by
    have := ip_of _ oo4 ob4 oc4 bc4 w1 hp s2
    rw [b4, b1] at this
    exact this)
  have HOC := Lib.hid (fun oo5 ob5 oc5 bc5 w1 (hp : IpAt w1 (rwS p b y) oo5 oc5 ob5 bc5) => show Calls Try.prog 20 #[.agg #[.int .i64 p.tos, .int .i64 p.id, .bool p.df, .bool p.mf, .int .i64 p.off, .int .i64 p.ttl, .int .i64 p.proto, .int .u32 b, .int .u32 p.dst, .slice oo5 p.ol oc5, .slice ob5 p.bl bc5]] w1 fun e w' => e = .returned (.tuple #[.agg #[.int .i64 p.proto, .int .u32 b, .int .i64 y, .int .u32 p.dst, .int .i64 d1], .int .i64 0]) ∧ Junk w1 w' by
    have := ip_of _ oo5 ob5 oc5 bc5 w1 hp s2
    rw [c3, c1] at this
    exact this)
  have hg := tupq_guard
  have hq1 : ∀ w, (binOp .eql 28 (.agg #[.int .i64 p.proto, .int .u32 p.src, .int .i64 s0, .int .u32 p.dst, .int .i64 d0]) (.agg #[.int .i64 p.proto, .int .u32 p.src, .int .i64 s0, .int .u32 p.dst, .int .i64 d0])).run Try.prog w = .ok (.bool true) w := fun w => by have := tupq_eql ⟨p.proto, p.src, s0, p.dst, d0⟩ ⟨p.proto, p.src, s0, p.dst, d0⟩ w; rw [decide_eq_true rfl] at this; exact this
  have hq2 : ∀ w, (binOp .eql 28 (.agg #[.int .i64 p.proto, .int .u32 b, .int .i64 y, .int .u32 p.dst, .int .i64 d1]) (.agg #[.int .i64 p.proto, .int .u32 b, .int .i64 y, .int .u32 p.dst, .int .i64 d1])).run Try.prog w = .ok (.bool true) w := fun w => by have := tupq_eql ⟨p.proto, b, y, p.dst, d1⟩ ⟨p.proto, b, y, p.dst, d1⟩ w; rw [decide_eq_true rfl] at this; exact this
  have px := wrapk_i64 x (by omega) (by omega)
  have py := wrapk_i64 y (by omega) (by omega)
  generalize rw2 p ⟨p.proto, p.src, s0, p.dst, d0⟩ = Q2 at HBO HOQ
  generalize rwS (rwS p a x) b y = Q4 at HSB HOB
  generalize rwS p a x = Q3 at HSA HSB
  generalize rwS p b y = Q5 at HSC HOC
  clear hs h0 hP hw o4 o5 o6 hT hT0 q0 hR a1 a2 a3 b1 b3 c1 c3 hd1 b4
  go_enter Try.func7, Try.ntmps7
  go_wp2_with (first
    | (go_at_call 18; refine (awake25_any _).mono ?_; rintro e w' ⟨rfl, ⟨osj, dj, rfl⟩⟩)
    | (go_at_call 19; refine (HSH.out _).mono ?_; rintro e w' ⟨rfl, ⟨osj, dj, rfl⟩⟩)
    | (go_at_call 20; (with_reducible refine (HOF.out _ (HP.out.on (by (first | ((repeat (first | with_reducible exact Junk.refl _ | with_reducible exact Junk.app _ _ _ _ _ | with_reducible apply Junk.alloc | with_reducible apply Junk.junk | with_reducible apply Junk.drew | with_reducible apply Junk.drewN)); done) | ((try simp only [World.junk_junk, Array.append_assoc]); (repeat (first | with_reducible exact Junk.refl _ | with_reducible exact Junk.app _ _ _ _ _ | with_reducible exact Junk.app2 _ _ _ _ _ _ | with_reducible exact Junk.app3 _ _ _ _ _ _ _ | with_reducible exact Junk.app4 _ _ _ _ _ _ _ _ | with_reducible exact Junk.app5 _ _ _ _ _ _ _ _ _ | with_reducible apply Junk.alloc | with_reducible apply Junk.junk | with_reducible apply Junk.drew | with_reducible apply Junk.drewN))))))).mono ?_); rintro e w' ⟨rfl, ⟨osj, dj, rfl⟩⟩)
    | (go_at_call 21; (with_reducible refine (HBO.out _ (HP.out.on (by (first | ((repeat (first | with_reducible exact Junk.refl _ | with_reducible exact Junk.app _ _ _ _ _ | with_reducible apply Junk.alloc | with_reducible apply Junk.junk | with_reducible apply Junk.drew | with_reducible apply Junk.drewN)); done) | ((try simp only [World.junk_junk, Array.append_assoc]); (repeat (first | with_reducible exact Junk.refl _ | with_reducible exact Junk.app _ _ _ _ _ | with_reducible exact Junk.app2 _ _ _ _ _ _ | with_reducible exact Junk.app3 _ _ _ _ _ _ _ | with_reducible exact Junk.app4 _ _ _ _ _ _ _ _ | with_reducible exact Junk.app5 _ _ _ _ _ _ _ _ _ | with_reducible apply Junk.alloc | with_reducible apply Junk.junk | with_reducible apply Junk.drew | with_reducible apply Junk.drewN))))))).mono ?_); rintro e w' ⟨oo2, ob2, oc2, bc2, rfl, ⟨os2, d2, rfl⟩, hp2⟩; have HP2 := Lib.hid hp2; clear hp2)
    | (go_at_call 20; (with_reducible refine (HOQ.out oo2 ob2 oc2 bc2 _ (HP2.out.on (by (first | ((repeat (first | with_reducible exact Junk.refl _ | with_reducible exact Junk.app _ _ _ _ _ | with_reducible apply Junk.alloc | with_reducible apply Junk.junk | with_reducible apply Junk.drew | with_reducible apply Junk.drewN)); done) | ((try simp only [World.junk_junk, Array.append_assoc]); (repeat (first | with_reducible exact Junk.refl _ | with_reducible exact Junk.app _ _ _ _ _ | with_reducible exact Junk.app2 _ _ _ _ _ _ | with_reducible exact Junk.app3 _ _ _ _ _ _ _ | with_reducible exact Junk.app4 _ _ _ _ _ _ _ _ | with_reducible exact Junk.app5 _ _ _ _ _ _ _ _ _ | with_reducible apply Junk.alloc | with_reducible apply Junk.junk | with_reducible apply Junk.drew | with_reducible apply Junk.drewN))))))).mono ?_); rintro e w' ⟨rfl, ⟨osj, dj, rfl⟩⟩)
    | (go_at_call 22; (with_reducible refine (HSA.out _ (HP.out.on (by (first | ((repeat (first | with_reducible exact Junk.refl _ | with_reducible exact Junk.app _ _ _ _ _ | with_reducible apply Junk.alloc | with_reducible apply Junk.junk | with_reducible apply Junk.drew | with_reducible apply Junk.drewN)); done) | ((try simp only [World.junk_junk, Array.append_assoc]); (repeat (first | with_reducible exact Junk.refl _ | with_reducible exact Junk.app _ _ _ _ _ | with_reducible exact Junk.app2 _ _ _ _ _ _ | with_reducible exact Junk.app3 _ _ _ _ _ _ _ | with_reducible exact Junk.app4 _ _ _ _ _ _ _ _ | with_reducible exact Junk.app5 _ _ _ _ _ _ _ _ _ | with_reducible apply Junk.alloc | with_reducible apply Junk.junk | with_reducible apply Junk.drew | with_reducible apply Junk.drewN))))))).mono ?_); rintro e w' ⟨oo3, ob3, oc3, bc3, rfl, ⟨os3, d3, rfl⟩, hp3⟩; have HP3 := Lib.hid hp3; clear hp3)
    | (go_at_call 22; (with_reducible refine (HSB.out oo3 ob3 oc3 bc3 _ (HP3.out.on (by (first | ((repeat (first | with_reducible exact Junk.refl _ | with_reducible exact Junk.app _ _ _ _ _ | with_reducible apply Junk.alloc | with_reducible apply Junk.junk | with_reducible apply Junk.drew | with_reducible apply Junk.drewN)); done) | ((try simp only [World.junk_junk, Array.append_assoc]); (repeat (first | with_reducible exact Junk.refl _ | with_reducible exact Junk.app _ _ _ _ _ | with_reducible exact Junk.app2 _ _ _ _ _ _ | with_reducible exact Junk.app3 _ _ _ _ _ _ _ | with_reducible exact Junk.app4 _ _ _ _ _ _ _ _ | with_reducible exact Junk.app5 _ _ _ _ _ _ _ _ _ | with_reducible apply Junk.alloc | with_reducible apply Junk.junk | with_reducible apply Junk.drew | with_reducible apply Junk.drewN))))))).mono ?_); rintro e w' ⟨oo4, ob4, oc4, bc4, rfl, ⟨os4, d4, rfl⟩, hp4⟩; have HP4 := Lib.hid hp4; clear hp4)
    | (go_at_call 22; (with_reducible refine (HSC.out _ (HP.out.on (by (first | ((repeat (first | with_reducible exact Junk.refl _ | with_reducible exact Junk.app _ _ _ _ _ | with_reducible apply Junk.alloc | with_reducible apply Junk.junk | with_reducible apply Junk.drew | with_reducible apply Junk.drewN)); done) | ((try simp only [World.junk_junk, Array.append_assoc]); (repeat (first | with_reducible exact Junk.refl _ | with_reducible exact Junk.app _ _ _ _ _ | with_reducible exact Junk.app2 _ _ _ _ _ _ | with_reducible exact Junk.app3 _ _ _ _ _ _ _ | with_reducible exact Junk.app4 _ _ _ _ _ _ _ _ | with_reducible exact Junk.app5 _ _ _ _ _ _ _ _ _ | with_reducible apply Junk.alloc | with_reducible apply Junk.junk | with_reducible apply Junk.drew | with_reducible apply Junk.drewN))))))).mono ?_); rintro e w' ⟨oo5, ob5, oc5, bc5, rfl, ⟨os5, d5, rfl⟩, hp5⟩; have HP5 := Lib.hid hp5; clear hp5)
    | (go_at_call 20; (with_reducible refine (HOB.out oo4 ob4 oc4 bc4 _ (HP4.out.on (by (first | ((repeat (first | with_reducible exact Junk.refl _ | with_reducible exact Junk.app _ _ _ _ _ | with_reducible apply Junk.alloc | with_reducible apply Junk.junk | with_reducible apply Junk.drew | with_reducible apply Junk.drewN)); done) | ((try simp only [World.junk_junk, Array.append_assoc]); (repeat (first | with_reducible exact Junk.refl _ | with_reducible exact Junk.app _ _ _ _ _ | with_reducible exact Junk.app2 _ _ _ _ _ _ | with_reducible exact Junk.app3 _ _ _ _ _ _ _ | with_reducible exact Junk.app4 _ _ _ _ _ _ _ _ | with_reducible exact Junk.app5 _ _ _ _ _ _ _ _ _ | with_reducible apply Junk.alloc | with_reducible apply Junk.junk | with_reducible apply Junk.drew | with_reducible apply Junk.drewN))))))).mono ?_); rintro e w' ⟨rfl, ⟨osj, dj, rfl⟩⟩)
    | (go_at_call 20; (with_reducible refine (HOC.out oo5 ob5 oc5 bc5 _ (HP5.out.on (by (first | ((repeat (first | with_reducible exact Junk.refl _ | with_reducible exact Junk.app _ _ _ _ _ | with_reducible apply Junk.alloc | with_reducible apply Junk.junk | with_reducible apply Junk.drew | with_reducible apply Junk.drewN)); done) | ((try simp only [World.junk_junk, Array.append_assoc]); (repeat (first | with_reducible exact Junk.refl _ | with_reducible exact Junk.app _ _ _ _ _ | with_reducible exact Junk.app2 _ _ _ _ _ _ | with_reducible exact Junk.app3 _ _ _ _ _ _ _ | with_reducible exact Junk.app4 _ _ _ _ _ _ _ _ | with_reducible exact Junk.app5 _ _ _ _ _ _ _ _ _ | with_reducible apply Junk.alloc | with_reducible apply Junk.junk | with_reducible apply Junk.drew | with_reducible apply Junk.drewN))))))).mono ?_); rintro e w' ⟨rfl, ⟨osj, dj, rfl⟩⟩))
  all_goals (go_ret; exact ⟨ret_bool rfl, by (first | ((repeat (first | with_reducible exact Junk.refl _ | with_reducible exact Junk.app _ _ _ _ _ | with_reducible apply Junk.alloc | with_reducible apply Junk.junk | with_reducible apply Junk.drew | with_reducible apply Junk.drewN)); done) | ((try simp only [World.junk_junk, Array.append_assoc]); (repeat (first | with_reducible exact Junk.refl _ | with_reducible exact Junk.app _ _ _ _ _ | with_reducible exact Junk.app2 _ _ _ _ _ _ | with_reducible exact Junk.app3 _ _ _ _ _ _ _ | with_reducible exact Junk.app4 _ _ _ _ _ _ _ _ | with_reducible exact Junk.app5 _ _ _ _ _ _ _ _ _ | with_reducible apply Junk.alloc | with_reducible apply Junk.junk | with_reducible apply Junk.drew | with_reducible apply Junk.drewN))))⟩)
theorem rewriteOwn_walk (p : Ip) (oo ob : Option Addr) (oc bc : Nat) (a b x y : Int) (w : World) (hP : IpAt w p oo oc ob bc) (ha : 0 ≤ a ∧ a ≤ 4294967295) (hb : 0 ≤ b ∧ b ≤ 4294967295) (hx : 0 ≤ x ∧ x ≤ 65535) (hy : 0 ≤ y ∧ y ≤ 65535) : Calls Try.prog 7 #[.agg #[.int .i64 p.tos, .int .i64 p.id, .bool p.df, .bool p.mf, .int .i64 p.off, .int .i64 p.ttl, .int .i64 p.proto, .int .u32 p.src, .int .u32 p.dst, .slice oo p.ol oc, .slice ob p.bl bc], .int .u32 a, .int .u32 b, .int .u16 x, .int .u16 y] w fun e w' => e = .returned (.bool true) ∧ Junk w w' := by
  by_cases h : shortB p = true ∧ p.err = 0
  · exact rewriteOwn_ok p oo ob oc bc a b x y w hP ha hb hx hy h.1 h.2
  · exact rewriteOwn_no p oo ob oc bc a b x y w hP ha hb hx hy h

theorem rewriteOwn_core (W : World) (base : Nat) (v0 v1 v2 v3 v4 : Value) (a0 : Arg Try.prog W base 43 v0) (a1 : Arg Try.prog W base 22 v1) (a2 : Arg Try.prog W base 22 v2) (a3 : Arg Try.prog W base 41 v3) (a4 : Arg Try.prog W base 41 v4) :
    Calls Try.prog 7 #[v0, v1, v2, v3, v4] W fun e W' => e = .returned (.bool true) ∧ Junk W W' := by
  obtain ⟨cs_p, rfl, h_p⟩ := a0.struct Try.underlying43
  obtain ⟨hl_p, hf_p⟩ := h_p.fields1 Try.underlying43 (by kernel_rfl) (n := 11) (by kernel_rfl)
  obtain ⟨p_TOS, lp0, e_p0⟩ : ∃ x l, cs_p = x :: l := by cases cs_p with | nil => simp at hl_p | cons x l => exact ⟨x, l, rfl⟩
  subst e_p0
  obtain ⟨p_ID, lp1, e_p1⟩ : ∃ x l, lp0 = x :: l := by cases lp0 with | nil => simp at hl_p | cons x l => exact ⟨x, l, rfl⟩
  subst e_p1
  obtain ⟨p_DF, lp2, e_p2⟩ : ∃ x l, lp1 = x :: l := by cases lp1 with | nil => simp at hl_p | cons x l => exact ⟨x, l, rfl⟩
  subst e_p2
  obtain ⟨p_MF, lp3, e_p3⟩ : ∃ x l, lp2 = x :: l := by cases lp2 with | nil => simp at hl_p | cons x l => exact ⟨x, l, rfl⟩
  subst e_p3
  obtain ⟨p_Off, lp4, e_p4⟩ : ∃ x l, lp3 = x :: l := by cases lp3 with | nil => simp at hl_p | cons x l => exact ⟨x, l, rfl⟩
  subst e_p4
  obtain ⟨p_TTL, lp5, e_p5⟩ : ∃ x l, lp4 = x :: l := by cases lp4 with | nil => simp at hl_p | cons x l => exact ⟨x, l, rfl⟩
  subst e_p5
  obtain ⟨p_Proto, lp6, e_p6⟩ : ∃ x l, lp5 = x :: l := by cases lp5 with | nil => simp at hl_p | cons x l => exact ⟨x, l, rfl⟩
  subst e_p6
  obtain ⟨p_Src, lp7, e_p7⟩ : ∃ x l, lp6 = x :: l := by cases lp6 with | nil => simp at hl_p | cons x l => exact ⟨x, l, rfl⟩
  subst e_p7
  obtain ⟨p_Dst, lp8, e_p8⟩ : ∃ x l, lp7 = x :: l := by cases lp7 with | nil => simp at hl_p | cons x l => exact ⟨x, l, rfl⟩
  subst e_p8
  obtain ⟨p_Opts, lp9, e_p9⟩ : ∃ x l, lp8 = x :: l := by cases lp8 with | nil => simp at hl_p | cons x l => exact ⟨x, l, rfl⟩
  subst e_p9
  obtain ⟨p_Body, lp10, e_p10⟩ : ∃ x l, lp9 = x :: l := by cases lp9 with | nil => simp at hl_p | cons x l => exact ⟨x, l, rfl⟩
  subst e_p10
  obtain rfl : lp10 = [] := by simpa using hl_p
  have f_p0 : Cells Try.prog W 3 [p_TOS] := hf_p 0 _ rfl
  have f_p1 : Cells Try.prog W 3 [p_ID] := hf_p 1 _ rfl
  have f_p2 : Cells Try.prog W 4 [p_DF] := hf_p 2 _ rfl
  have f_p3 : Cells Try.prog W 4 [p_MF] := hf_p 3 _ rfl
  have f_p4 : Cells Try.prog W 3 [p_Off] := hf_p 4 _ rfl
  have f_p5 : Cells Try.prog W 3 [p_TTL] := hf_p 5 _ rfl
  have f_p6 : Cells Try.prog W 3 [p_Proto] := hf_p 6 _ rfl
  have f_p7 : Cells Try.prog W 22 [p_Src] := hf_p 7 _ rfl
  have f_p8 : Cells Try.prog W 22 [p_Dst] := hf_p 8 _ rfl
  have f_p9 : Cells Try.prog W 23 [p_Opts] := hf_p 9 _ rfl
  have f_p10 : Cells Try.prog W 23 [p_Body] := hf_p 10 _ rfl
  clear hf_p hl_p
  obtain ⟨p_TOS, e_p_TOS, w_p_TOS⟩ := f_p0.int Try.underlying3; cases e_p_TOS
  obtain ⟨p_ID, e_p_ID, w_p_ID⟩ := f_p1.int Try.underlying3; cases e_p_ID
  obtain ⟨p_DF, e_p_DF⟩ := f_p2.bool Try.underlying4; cases e_p_DF
  obtain ⟨p_MF, e_p_MF⟩ := f_p3.bool Try.underlying4; cases e_p_MF
  obtain ⟨p_Off, e_p_Off, w_p_Off⟩ := f_p4.int Try.underlying3; cases e_p_Off
  obtain ⟨p_TTL, e_p_TTL, w_p_TTL⟩ := f_p5.int Try.underlying3; cases e_p_TTL
  obtain ⟨p_Proto, e_p_Proto, w_p_Proto⟩ := f_p6.int Try.underlying3; cases e_p_Proto
  obtain ⟨p_Src, e_p_Src, w_p_Src⟩ := f_p7.int Try.underlying22; cases e_p_Src
  obtain ⟨p_Dst, e_p_Dst, w_p_Dst⟩ := f_p8.int Try.underlying22; cases e_p_Dst
  obtain ⟨p_Opts_a, p_Opts_l, p_Opts_c, p_Opts, e_p_Opts, lc_p_Opts, cm_p_Opts, S_p_Opts, w_p_Opts⟩ := f_p9.ints Try.underlying23 Try.underlying5 (by kernel_rfl); cases e_p_Opts
  obtain ⟨p_Body_a, p_Body_l, p_Body_c, p_Body, e_p_Body, lc_p_Body, cm_p_Body, S_p_Body, w_p_Body⟩ := f_p10.ints Try.underlying23 Try.underlying5 (by kernel_rfl); cases e_p_Body
  obtain ⟨a, rfl, w_a⟩ := a1.int Try.underlying22
  obtain ⟨b, rfl, w_b⟩ := a2.int Try.underlying22
  obtain ⟨x, rfl, w_x⟩ := a3.int Try.underlying41
  obtain ⟨y, rfl, w_y⟩ := a4.int Try.underlying41
  have hlm : maxLen = 9223372036854775807 := rfl
  exact rewriteOwn_walk ⟨p_TOS, p_ID, p_DF, p_MF, p_Off, p_TTL, p_Proto, p_Src, p_Dst, p_Opts_l, p_Opts, p_Body_l, p_Body⟩ p_Opts_a p_Body_a p_Opts_c p_Body_c a b x y W
    ⟨⟨S_p_Opts, fun i hi => bounds_u8 (w_p_Opts i hi), Cells.nil_slice Try.underlying23 f_p9, lc_p_Opts, cm_p_Opts⟩, ⟨S_p_Body, fun i hi => bounds_u8 (w_p_Body i hi), Cells.nil_slice Try.underlying23 f_p10, lc_p_Body, cm_p_Body⟩, bounds_u32 w_p_Src, bounds_u32 w_p_Dst⟩ (bounds_u32 w_a) (bounds_u32 w_b) (bounds_u16 w_x) (bounds_u16 w_y)
set_option maxRecDepth 100000 in
theorem rewriteOwn_lifted (os : Os) (started : os.Started) (H : Type) (enc : TypeId × Value → H) :
    ReturnsInHanded {} Try.checked os 7 .any (Rows.rewriteOwnSpec.pre6 enc Try.prog Try.f7 Rows.rewriteOwnRow.domain false) (Rows.rewriteOwnSpec.post enc Try.prog Try.f7 false true false false) := by
  refine returnsInHanded_of_change (C := Try.checked) (by kernel_rfl) started (by kernel_rfl) Try.func7
    (ChangeSpec.witness6 (enc := enc) (C := Try.checked) false ⟨#[], #[.agg #[.int .i64 0, .int .i64 0, .bool false, .bool false, .int .i64 0, .int .i64 0, .int .i64 0, .int .u32 0, .int .u32 0, .slice none 0 0, .slice none 0 0], .int .u32 0, .int .u32 0, .int .u16 0, .int .u16 0], []⟩ 8 (by kernel_rfl) (by kernel_rfl) (by kernel_rfl) (by kernel_rfl)) ?_
  intro W base args ds gs before hval hW _ _
  obtain ⟨p, q, hA, _, _, _, _⟩ := id hW
  have hargs : Args Try.prog W base Try.f7.params.toList args.toList := args_of (fun j t v h1 h2 => hval j t v (by simpa using h1) (by simpa using h2)) hA
  rw [Try.params7] at hargs
  obtain ⟨v0, l0, e0, a0, r0⟩ := args_cons hargs
  obtain ⟨v1, l1, e1, a1, r1⟩ := args_cons r0
  obtain ⟨v2, l2, e2, a2, r2⟩ := args_cons r1
  obtain ⟨v3, l3, e3, a3, r3⟩ := args_cons r2
  obtain ⟨v4, l4, e4, a4, r4⟩ := args_cons r3
  have hn := args_nil r4
  have he : args = #[v0, v1, v2, v3, v4] := by
    apply Array.ext'
    simp only [e0, e1, e2, e3, e4, hn]
  subst he
  exact (rewriteOwn_core W base v0 v1 v2 v3 v4 a0 a1 a2 a3 a4).mono fun e W' ⟨he, hj⟩ => ⟨_, he, post_true (tb := 4) (by kernel_rfl) (by kernel_rfl) rfl (by kernel_rfl) rfl hW (fun hg hl => by
    subst hg
    match ds, hl with
    | [_, _, _, _, _], _ => exact ⟨rfl, rfl, rfl⟩) hj⟩
theorem rewriteOwn_holds : Rows.RewriteOwnSaid :=
  OpenClaim.holds_of_wide 7 Try.f7 rfl rfl rfl rfl rfl rfl rfl ⟨rfl, rfl, rfl, rfl, rfl⟩ rfl rfl rfl rfl rfl (by kernel_rfl) Try.func7 (by kernel_rfl)
    (of_decide_eq_true (by kernel_rfl)) (by unfold Func.isWrapper; rw [if_neg (of_decide_eq_false (by kernel_rfl))]; exact ⟨rfl, rfl⟩)
    (fun os started H enc _ => rewriteOwn_lifted os started H enc)

end Go.Proofs.Ytnefphinmjeacaa
