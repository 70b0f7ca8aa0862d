/- tuple.ports, tuple.Of. -/
import Derived.Test.YtnefphinmjeacaaTupD
import Derived.Test.YtnefphinmjeacaaUdpA
import Derived.Test.YtnefphinmjeacaaTcpK
import Derived.Test.YtnefphinmjeacaaIcmpParse
set_option linter.unusedVariables false
set_option maxRecDepth 100000
set_option linter.unusedSimpArgs false
namespace Go.Proofs.Ytnefphinmjeacaa
open Go.RowKit
abbrev Tup.val (t : Tup) : Value := .agg #[.int .i64 t.proto, .int .u32 t.src, .int .i64 t.sport, .int .u32 t.dst, .int .i64 t.dport]
theorem tup_guard : Try.prog.eqGuardType Try.prog.depth 28 = false := by kernel_rfl
theorem tup_equalIn (x y : Tup) (w : World) : (Op.equalIn 10000 28 x.val y.val).run Try.prog w = .ok (decide (x = y)) w := by
  have u3 := Try.underlying3
  have a3 := Try.isAgg3
  have z3 := Try.sizeOf3
  have u4 := Try.underlying22
  have a4 := Try.isAgg22
  have z4 := Try.sizeOf22
  have hS : Try.prog.underlying 28 = some (.struct (Try.prog.fieldsOf 28)) := by kernel_rfl
  have hp : Try.prog.stoodInHeld 28 = false := by kernel_rfl
  rw [show (10000 : Nat) = 9999 + 1 from rfl, run_equalIn_agg w 9999 28 _ _ hS hp]
  simp only [Program.fieldsOf, Try.underlying28]
  obtain ⟨xp, xi, xn, xo, xt⟩ := x
  obtain ⟨yp, yi, yn, yo, yt⟩ := y
  go_simp
  by_cases h1 : xp = yp <;> by_cases h2 : xi = yi <;> by_cases h3 : xn = yn <;> by_cases h4 : xo = yo <;> by_cases h5 : xt = yt <;> simp [h1, h2, h3, h4, h5]
theorem tup_eql (x y : Tup) (w : World) : (binOp .eql 28 x.val y.val).run Try.prog w = .ok (.bool (decide (x = y))) w := by
  rw [run_eql_struct, tup_equalIn]; rfl
theorem tup_neq (x y : Tup) (w : World) : (binOp .neq 28 x.val y.val).run Try.prog w = .ok (.bool (!decide (x = y))) w := by
  rw [run_neq_struct, tup_equalIn]; rfl
theorem tup_piece_any (c0 c1 c2 c5 c6 c7 c8 c9 c10 : Value) (m : Bool) (off : Int) (w : World) : Calls Try.prog 43 #[.agg #[c0, c1, c2, .bool m, .int .i64 off, c5, c6, c7, c8, c9, c10]] w fun e w' => e = .returned (.bool (m || (off != 0))) ∧ Junk w w' := by
  cases m with
  | true =>
    go_enter Try.func43, Try.ntmps43
    go_wp2
    go_ret
    exact ⟨ret_bool rfl, by ((try simp only [World.junk_junk, Array.append_assoc]); (repeat (first | with_reducible exact Junk.refl _ | with_reducible exact Junk.app _ _ _ _ _ | with_reducible exact Junk.app2 _ _ _ _ _ _ | with_reducible exact Junk.app3 _ _ _ _ _ _ _ | with_reducible exact Junk.app4 _ _ _ _ _ _ _ _ | with_reducible exact Junk.app5 _ _ _ _ _ _ _ _ _ | with_reducible apply Junk.alloc | with_reducible apply Junk.junk | with_reducible apply Junk.drew | with_reducible apply Junk.drewN)))⟩
  | false =>
    go_enter Try.func43, Try.ntmps43
    go_wp2
    go_ret
    exact ⟨ret_bool rfl, by ((try simp only [World.junk_junk, Array.append_assoc]); (repeat (first | with_reducible exact Junk.refl _ | with_reducible exact Junk.app _ _ _ _ _ | with_reducible exact Junk.app2 _ _ _ _ _ _ | with_reducible exact Junk.app3 _ _ _ _ _ _ _ | with_reducible exact Junk.app4 _ _ _ _ _ _ _ _ | with_reducible exact Junk.app5 _ _ _ _ _ _ _ _ _ | with_reducible apply Junk.alloc | with_reducible apply Junk.junk | with_reducible apply Junk.drew | with_reducible apply Junk.drewN)))⟩
theorem icmp_parse_ok {w w' : World} {xs : Nat → Int} {l : Nat} {e : Ending} (h : ParsedM w xs l e w') (h0 : pErr xs l = 0) :
    ∃ ob cb, e = .returned (.tuple #[.agg #[.int .i64 (xs 0), .int .i64 (xs 1), .int .u32 (pRest xs), .slice ob (l - 8) cb], .int .i64 0]) ∧ Junk w w' := by
  obtain ⟨t, c, r, ob, lb, cb, rfl, hj, hb, ⟨_, rfl, rfl, rfl, rfl⟩ | ⟨h1, _⟩⟩ := h
  · exact ⟨ob, cb, by rw [h0], hj⟩
  · exact absurd h0 h1
theorem icmp_parse_bad {w w' : World} {xs : Nat → Int} {l : Nat} {e : Ending} {n : Int} (h : ParsedM w xs l e w') (h0 : pErr xs l = n) (hn : n ≠ 0) :
    e = .returned (.tuple #[.agg #[.int .i64 0, .int .i64 0, .int .u32 0, .slice none 0 0], .int .i64 n]) ∧ Junk w w' := by
  obtain ⟨t, c, r, ob, lb, cb, rfl, hj, hb, ⟨h1, _⟩ | ⟨_, rfl, rfl, rfl, rfl, rfl, rfl⟩⟩ := h
  · exact absurd (h0.symm.trans h1) hn
  · exact ⟨by rw [h0], hj⟩
theorem udp_parse_ok {w w' : World} {E : Int} {xs : Nat → Int} {e : Ending} (h : UdpM w E xs e w') (h0 : E = 0) :
    ∃ (ob : Option Addr) (cb : Nat), e = .returned (.tuple #[.agg #[.int .i64 (xs 0 * 256 + xs 1), .int .i64 (xs 2 * 256 + xs 3), .bool (uChk xs == 0), .slice ob (uSize xs - 8) cb], .int .i64 0]) ∧ Junk w w' ∧ Bts w' ob (uSize xs - 8) cb (fun i => xs (8 + i)) := by
  obtain ⟨hj, ⟨h1, _⟩ | ⟨_, ob, cb, hb, rfl⟩⟩ := h
  · exact absurd h0 h1
  · exact ⟨ob, cb, rfl, hj, hb⟩
theorem udp_parse_bad {w w' : World} {E : Int} {xs : Nat → Int} {e : Ending} (h : UdpM w E xs e w') (h0 : E ≠ 0) :
    e = .returned (.tuple #[.agg #[.int .i64 0, .int .i64 0, .bool false, .slice none 0 0], .int .i64 E]) ∧ Junk w w' := by
  obtain ⟨hj, ⟨_, rfl⟩ | ⟨h1, _⟩⟩ := h
  · exact ⟨rfl, hj⟩
  · exact absurd h1 h0
/-- The ports of a packet, or the first error. -/
def prErr (pr src dst : Int) (xs : Nat → Int) (l : Nat) : Int :=
  if pr = 6 then tcpErr src dst xs l else if pr = 17 then udpErr src dst xs l else if pr = 1 then (if pErr xs l ≠ 0 then pErr xs l else if asksB (xs 0) || answersB (xs 0) then 0 else 9) else 9
def prS (pr : Int) (xs : Nat → Int) : Int := if pr = 1 then pRest xs / 65536 else xs 0 * 256 + xs 1
def prD (pr : Int) (xs : Nat → Int) : Int := if pr = 1 then pRest xs / 65536 else xs 2 * 256 + xs 3
def PortsM (w : World) (E S D : Int) (e : Ending) (w' : World) : Prop :=
  (E = 0 → e = .returned (.tuple #[.int .i64 S, .int .i64 D, .int .i64 0])) ∧ (E ≠ 0 → e = .returned (.tuple #[.int .i64 0, .int .i64 0, .int .i64 E])) ∧ Junk w w'
theorem ports_bad {w w' : World} {E S D n : Int} (h : E = n) (h0 : n ≠ 0) (hj : Junk w w') : PortsM w E S D (.returned (.tuple #[.int .i64 0, .int .i64 0, .int .i64 n])) w' :=
  ⟨fun h1 => absurd (h.symm.trans h1) h0, fun _ => by rw [h], hj⟩
theorem ports_ok {w w' : World} {E S D s d : Int} (h : E = 0) (hs : S = s) (hd : D = d) (hj : Junk w w') : PortsM w E S D (.returned (.tuple #[.int .i64 s, .int .i64 d, .int .i64 0])) w' :=
  ⟨fun _ => by rw [hs, hd], fun h1 => absurd h h1, hj⟩
theorem prest_bd {xs : Nat → Int} (h4 : 0 ≤ xs 4 ∧ xs 4 ≤ 255) (h5 : 0 ≤ xs 5 ∧ xs 5 ≤ 255) (h6 : 0 ≤ xs 6 ∧ xs 6 ≤ 255) (h7 : 0 ≤ xs 7 ∧ xs 7 ≤ 255) : 0 ≤ pRest xs ∧ pRest xs ≤ 4294967295 := by unfold pRest; omega
set_option maxHeartbeats 4000000 in
theorem tup_ports_any (c0 c1 c2 c5 c9 : Value) (m : Bool) (off pr src dst : Int) (ob : Option Addr) (l bc : Nat) (xs : Nat → Int) (w : World) (h1 : 0 ≤ src ∧ src ≤ 4294967295) (h2 : 0 ≤ dst ∧ dst ≤ 4294967295) (hl : l ≤ 100000000) (hB : Bts w ob l bc xs) : Calls Try.prog 44 #[.agg #[c0, c1, c2, .bool m, .int .i64 off, c5, .int .i64 pr, .int .u32 src, .int .u32 dst, c9, .slice ob l bc]] w (PortsM w (prErr pr src dst xs l) (prS pr xs) (prD pr xs)) := by
  have HB := Lib.hid hB
  clear hB
  by_cases h6 : pr = 6
  · subst h6
    by_cases h0 : tcpErr src dst xs l = 0
    · have HE := Lib.hid (show prErr 6 src dst xs l = 0 by unfold prErr; rw [if_pos rfl]; exact h0)
      go_enter Try.func44, Try.ntmps44
      go_wp2_with (first | (go_at_call 24; refine (tparse_any src dst ob l bc xs _ h1 h2 hl (HB.out.on (by ((try simp only [World.junk_junk, Array.append_assoc]); (repeat (first | with_reducible exact Junk.refl _ | with_reducible exact Junk.app _ _ _ _ _ | with_reducible exact Junk.app2 _ _ _ _ _ _ | with_reducible exact Junk.app3 _ _ _ _ _ _ _ | with_reducible exact Junk.app4 _ _ _ _ _ _ _ _ | with_reducible exact Junk.app5 _ _ _ _ _ _ _ _ _ | with_reducible apply Junk.alloc | with_reducible apply Junk.junk | with_reducible apply Junk.drew | with_reducible apply Junk.drewN)))))).mono ?_; intro e w' hp; obtain ⟨F, oo, co, ob2, cb2, rfl, ⟨osj, dj, rfl⟩, _, _⟩ := hp.ok h0; clear hp))
      clear h0
      refine wp_region_junk (by kernel_rfl) (by kernel_rfl) ?_; (repeat (go_big_quiet_step (first | fail))); refine wpQuiet_nil ?_; rintro _ ⟨⟨osq, dq⟩, rfl⟩
      go_wp2
      go_returns
      exact ports_ok HE.out rfl rfl (by ((try simp only [World.junk_junk, Array.append_assoc]); (repeat (first | with_reducible exact Junk.refl _ | with_reducible exact Junk.app _ _ _ _ _ | with_reducible exact Junk.app2 _ _ _ _ _ _ | with_reducible exact Junk.app3 _ _ _ _ _ _ _ | with_reducible exact Junk.app4 _ _ _ _ _ _ _ _ | with_reducible exact Junk.app5 _ _ _ _ _ _ _ _ _ | with_reducible apply Junk.alloc | with_reducible apply Junk.junk | with_reducible apply Junk.drew | with_reducible apply Junk.drewN))))
    · have HE := Lib.hid (show prErr 6 src dst xs l = tcpErr src dst xs l by unfold prErr; rw [if_pos rfl])
      have H0 := Lib.hid h0
      obtain ⟨E, hE⟩ : ∃ E, tcpErr src dst xs l = E := ⟨_, rfl⟩
      have HP := Lib.hid (fun w1 (hb : Bts w1 ob l bc xs) => show Calls Try.prog 24 #[.int .u32 src, .int .u32 dst, .slice ob l bc] w1 fun e w' => e = .returned (.tuple #[.agg #[.int .i64 0, .int .i64 0, .int .u32 0, .int .u32 0, .int .i64 0, .int .i64 0, .int .i64 0, .slice none 0 0, .slice none 0 0], .int .i64 E]) ∧ Junk w1 w' from (tparse_any src dst ob l bc xs w1 h1 h2 hl hb).mono fun e w' hp => by rw [← hE]; exact hp.bad h0)
      rw [hE] at HE h0
      clear H0 hE
      go_enter Try.func44, Try.ntmps44
      go_wp2_with (first | (go_at_call 24; refine (HP.out _ (HB.out.on (by ((try simp only [World.junk_junk, Array.append_assoc]); (repeat (first | with_reducible exact Junk.refl _ | with_reducible exact Junk.app _ _ _ _ _ | with_reducible exact Junk.app2 _ _ _ _ _ _ | with_reducible exact Junk.app3 _ _ _ _ _ _ _ | with_reducible exact Junk.app4 _ _ _ _ _ _ _ _ | with_reducible exact Junk.app5 _ _ _ _ _ _ _ _ _ | with_reducible apply Junk.alloc | with_reducible apply Junk.junk | with_reducible apply Junk.drew | with_reducible apply Junk.drewN)))))).mono ?_; rintro e w' ⟨rfl, ⟨osj, dj, rfl⟩⟩))
      refine wp_region_junk (by kernel_rfl) (by kernel_rfl) ?_; (repeat (go_big_quiet_step (first | fail))); refine wpQuiet_nil ?_; rintro _ ⟨⟨osq, dq⟩, rfl⟩
      go_wp2
      go_returns
      exact ports_bad HE.out h0 (by ((try simp only [World.junk_junk, Array.append_assoc]); (repeat (first | with_reducible exact Junk.refl _ | with_reducible exact Junk.app _ _ _ _ _ | with_reducible exact Junk.app2 _ _ _ _ _ _ | with_reducible exact Junk.app3 _ _ _ _ _ _ _ | with_reducible exact Junk.app4 _ _ _ _ _ _ _ _ | with_reducible exact Junk.app5 _ _ _ _ _ _ _ _ _ | with_reducible apply Junk.alloc | with_reducible apply Junk.junk | with_reducible apply Junk.drew | with_reducible apply Junk.drewN))))
  have h6' : (pr == 6) = false := by simpa using h6
  by_cases h17 : pr = 17
  · subst h17
    by_cases h0 : udpErr src dst xs l = 0
    · have HE := Lib.hid (show prErr 17 src dst xs l = 0 by unfold prErr; rw [if_neg (by decide), if_pos rfl]; exact h0)
      go_enter Try.func44, Try.ntmps44
      go_wp2_with (first | (go_at_call 26; refine (uparse_any src dst ob l bc xs _ h1 h2 hl (HB.out.on (by ((try simp only [World.junk_junk, Array.append_assoc]); (repeat (first | with_reducible exact Junk.refl _ | with_reducible exact Junk.app _ _ _ _ _ | with_reducible exact Junk.app2 _ _ _ _ _ _ | with_reducible exact Junk.app3 _ _ _ _ _ _ _ | with_reducible exact Junk.app4 _ _ _ _ _ _ _ _ | with_reducible exact Junk.app5 _ _ _ _ _ _ _ _ _ | with_reducible apply Junk.alloc | with_reducible apply Junk.junk | with_reducible apply Junk.drew | with_reducible apply Junk.drewN)))))).mono ?_; intro e w' hp; obtain ⟨ob2, cb2, rfl, ⟨osj, dj, rfl⟩, _⟩ := udp_parse_ok hp h0; clear hp))
      clear h0
      refine wp_region_junk (by kernel_rfl) (by kernel_rfl) ?_; (repeat (go_big_quiet_step (first | fail))); refine wpQuiet_nil ?_; rintro _ ⟨⟨osq, dq⟩, rfl⟩
      go_wp2
      go_returns
      exact ports_ok HE.out rfl rfl (by ((try simp only [World.junk_junk, Array.append_assoc]); (repeat (first | with_reducible exact Junk.refl _ | with_reducible exact Junk.app _ _ _ _ _ | with_reducible exact Junk.app2 _ _ _ _ _ _ | with_reducible exact Junk.app3 _ _ _ _ _ _ _ | with_reducible exact Junk.app4 _ _ _ _ _ _ _ _ | with_reducible exact Junk.app5 _ _ _ _ _ _ _ _ _ | with_reducible apply Junk.alloc | with_reducible apply Junk.junk | with_reducible apply Junk.drew | with_reducible apply Junk.drewN))))
    · have HE := Lib.hid (show prErr 17 src dst xs l = udpErr src dst xs l by unfold prErr; rw [if_neg (by decide), if_pos rfl])
      obtain ⟨E, hE⟩ : ∃ E, udpErr src dst xs l = E := ⟨_, rfl⟩
      have HP := Lib.hid (fun w1 (hb : Bts w1 ob l bc xs) => show Calls Try.prog 26 #[.int .u32 src, .int .u32 dst, .slice ob l bc] w1 fun e w' => e = .returned (.tuple #[.agg #[.int .i64 0, .int .i64 0, .bool false, .slice none 0 0], .int .i64 E]) ∧ Junk w1 w' from (uparse_any src dst ob l bc xs w1 h1 h2 hl hb).mono fun e w' hp => by rw [← hE]; exact udp_parse_bad hp h0)
      rw [hE] at HE h0
      clear hE
      go_enter Try.func44, Try.ntmps44
      go_wp2_with (first | (go_at_call 26; refine (HP.out _ (HB.out.on (by ((try simp only [World.junk_junk, Array.append_assoc]); (repeat (first | with_reducible exact Junk.refl _ | with_reducible exact Junk.app _ _ _ _ _ | with_reducible exact Junk.app2 _ _ _ _ _ _ | with_reducible exact Junk.app3 _ _ _ _ _ _ _ | with_reducible exact Junk.app4 _ _ _ _ _ _ _ _ | with_reducible exact Junk.app5 _ _ _ _ _ _ _ _ _ | with_reducible apply Junk.alloc | with_reducible apply Junk.junk | with_reducible apply Junk.drew | with_reducible apply Junk.drewN)))))).mono ?_; rintro e w' ⟨rfl, ⟨osj, dj, rfl⟩⟩))
      refine wp_region_junk (by kernel_rfl) (by kernel_rfl) ?_; (repeat (go_big_quiet_step (first | fail))); refine wpQuiet_nil ?_; rintro _ ⟨⟨osq, dq⟩, rfl⟩
      go_wp2
      go_returns
      exact ports_bad HE.out h0 (by ((try simp only [World.junk_junk, Array.append_assoc]); (repeat (first | with_reducible exact Junk.refl _ | with_reducible exact Junk.app _ _ _ _ _ | with_reducible exact Junk.app2 _ _ _ _ _ _ | with_reducible exact Junk.app3 _ _ _ _ _ _ _ | with_reducible exact Junk.app4 _ _ _ _ _ _ _ _ | with_reducible exact Junk.app5 _ _ _ _ _ _ _ _ _ | with_reducible apply Junk.alloc | with_reducible apply Junk.junk | with_reducible apply Junk.drew | with_reducible apply Junk.drewN))))
  have h17' : (pr == 17) = false := by simpa using h17
  by_cases hi : pr = 1
  case neg =>
    have hi' : (pr == 1) = false := by simpa using hi
    have HE := Lib.hid (show prErr pr src dst xs l = 9 by unfold prErr; rw [if_neg h6, if_neg h17, if_neg hi])
    clear h6 h17 hi
    go_enter Try.func44, Try.ntmps44
    go_wp2
    go_returns
    exact ports_bad HE.out (by decide) (by ((try simp only [World.junk_junk, Array.append_assoc]); (repeat (first | with_reducible exact Junk.refl _ | with_reducible exact Junk.app _ _ _ _ _ | with_reducible exact Junk.app2 _ _ _ _ _ _ | with_reducible exact Junk.app3 _ _ _ _ _ _ _ | with_reducible exact Junk.app4 _ _ _ _ _ _ _ _ | with_reducible exact Junk.app5 _ _ _ _ _ _ _ _ _ | with_reducible apply Junk.alloc | with_reducible apply Junk.junk | with_reducible apply Junk.drew | with_reducible apply Junk.drewN))))
  subst hi
  clear h6 h17 h6' h17'
  by_cases h0 : pErr xs l = 0
  case neg =>
    have HE := Lib.hid (show prErr 1 src dst xs l = pErr xs l by unfold prErr; rw [if_neg (by decide), if_neg (by decide), if_pos rfl, if_pos h0])
    obtain ⟨E, hn⟩ : ∃ E, pErr xs l = E := ⟨_, rfl⟩
    rw [hn] at HE h0
    have HN := Lib.hid hn
    have hne : (E != 0) = true := by simpa using h0
    clear hn
    go_enter Try.func44, Try.ntmps44
    go_wp2_with (first | (go_at_call 76; refine (parse_any ob l bc xs _ hl (HB.out.on (by ((try simp only [World.junk_junk, Array.append_assoc]); (repeat (first | with_reducible exact Junk.refl _ | with_reducible exact Junk.app _ _ _ _ _ | with_reducible exact Junk.app2 _ _ _ _ _ _ | with_reducible exact Junk.app3 _ _ _ _ _ _ _ | with_reducible exact Junk.app4 _ _ _ _ _ _ _ _ | with_reducible exact Junk.app5 _ _ _ _ _ _ _ _ _ | with_reducible apply Junk.alloc | with_reducible apply Junk.junk | with_reducible apply Junk.drew | with_reducible apply Junk.drewN)))))).mono ?_; intro e w' hp; obtain ⟨rfl, ⟨osj, dj, rfl⟩⟩ := icmp_parse_bad hp HN.out h0; clear hp))
    go_returns
    exact ports_bad HE.out h0 (by ((try simp only [World.junk_junk, Array.append_assoc]); (repeat (first | with_reducible exact Junk.refl _ | with_reducible exact Junk.app _ _ _ _ _ | with_reducible exact Junk.app2 _ _ _ _ _ _ | with_reducible exact Junk.app3 _ _ _ _ _ _ _ | with_reducible exact Junk.app4 _ _ _ _ _ _ _ _ | with_reducible exact Junk.app5 _ _ _ _ _ _ _ _ _ | with_reducible apply Junk.alloc | with_reducible apply Junk.junk | with_reducible apply Junk.drew | with_reducible apply Junk.drewN))))
  have hl8 : 8 ≤ l := by
    unfold pErr at h0
    split at h0
    · cases h0
    · omega
  have hrb := prest_bd (HB.out.byte 4 (by omega)) (HB.out.byte 5 (by omega)) (HB.out.byte 6 (by omega)) (HB.out.byte 7 (by omega))
  have HS : prS 1 xs = pRest xs / 65536 := by unfold prS; rw [if_pos rfl]
  have HD : prD 1 xs = pRest xs / 65536 := by unfold prD; rw [if_pos rfl]
  rw [HS, HD]
  have HE0 : prErr 1 src dst xs l = if asksB (xs 0) || answersB (xs 0) then 0 else 9 := by unfold prErr; rw [if_neg (by decide), if_neg (by decide), if_pos rfl, if_neg (by rw [h0]; decide)]
  rw [HE0]
  have HIP := Lib.hid (fun w1 (hb : Bts w1 ob l bc xs) => show Calls Try.prog 76 #[.slice ob l bc] w1 fun e w' => ∃ ob2 cb, e = .returned (.tuple #[.agg #[.int .i64 (xs 0), .int .i64 (xs 1), .int .u32 (pRest xs), .slice ob2 (l - 8) cb], .int .i64 0]) ∧ Junk w1 w' from (parse_any ob l bc xs w1 hl hb).mono fun e w' hp => icmp_parse_ok hp h0)
  clear HS HD HE0 h0
  have hnm : nameI (xs 0) (pRest xs) = if asksB (xs 0) || answersB (xs 0) then pRest xs / 65536 else 0 := rfl
  generalize xs 0 = x0 at HIP hnm ⊢
  generalize xs 1 = x1 at HIP
  generalize pRest xs = R at HIP hrb hnm ⊢
  obtain ⟨NM, hNM⟩ : ∃ n, nameI x0 R = n := ⟨_, rfl⟩
  have HNM := Lib.hid (fun (x1 x3 : Value) w1 => show Calls Try.prog 77 #[.agg #[.int .i64 x0, x1, .int .u32 R, x3]] w1 fun e w' => e = .returned (.int .i64 NM) ∧ Junk w1 w' by rw [← hNM]; exact name_any x0 R x1 x3 w1 hrb)
  rw [hnm] at hNM
  clear hnm
  cases ha : asksB x0 with
  | true =>
    rw [ha] at hNM
    simp only [Bool.true_or, if_true] at hNM ⊢
    have HNE := Lib.hid hNM
    clear hNM
    go_enter Try.func44, Try.ntmps44
    go_wp2_with (first | (go_at_call 76; refine (HIP.out _ (HB.out.on (by ((try simp only [World.junk_junk, Array.append_assoc]); (repeat (first | with_reducible exact Junk.refl _ | with_reducible exact Junk.app _ _ _ _ _ | with_reducible exact Junk.app2 _ _ _ _ _ _ | with_reducible exact Junk.app3 _ _ _ _ _ _ _ | with_reducible exact Junk.app4 _ _ _ _ _ _ _ _ | with_reducible exact Junk.app5 _ _ _ _ _ _ _ _ _ | with_reducible apply Junk.alloc | with_reducible apply Junk.junk | with_reducible apply Junk.drew | with_reducible apply Junk.drewN)))))).mono ?_; rintro e w' ⟨ob2, cb2, rfl, ⟨osj, dj, rfl⟩⟩) | (go_at_call 67; refine (asks_any x0 _ _ _ _).mono ?_; rintro e w' ⟨rfl, ⟨osj, dj, rfl⟩⟩) | (go_at_call 68; refine (answers_any x0 _ _ _ _).mono ?_; rintro e w' ⟨rfl, ⟨osj, dj, rfl⟩⟩))
    refine wp_region_junk (by kernel_rfl) (by kernel_rfl) ?_; (repeat (go_big_quiet_step (first | (go_at_call 77; first | with_reducible exact Calls.junk_of5 (HNM.out _ _ _) | with_reducible exact Calls.junk_of4 (HNM.out _ _ _) | with_reducible exact Calls.junk_of3 (HNM.out _ _ _) | with_reducible exact Calls.junk_of2 (HNM.out _ _ _) | exact Calls.junk_of (HNM.out _ _ _))))); refine wpQuiet_nil ?_; rintro _ ⟨⟨osq, dq⟩, rfl⟩
    go_wp2
    go_returns
    exact ports_ok rfl HNE.out HNE.out (by ((try simp only [World.junk_junk, Array.append_assoc]); (repeat (first | with_reducible exact Junk.refl _ | with_reducible exact Junk.app _ _ _ _ _ | with_reducible exact Junk.app2 _ _ _ _ _ _ | with_reducible exact Junk.app3 _ _ _ _ _ _ _ | with_reducible exact Junk.app4 _ _ _ _ _ _ _ _ | with_reducible exact Junk.app5 _ _ _ _ _ _ _ _ _ | with_reducible apply Junk.alloc | with_reducible apply Junk.junk | with_reducible apply Junk.drew | with_reducible apply Junk.drewN))))
  | false =>
    cases hb : answersB x0 with
    | true =>
      rw [ha, hb] at hNM
      simp only [Bool.false_or, if_true] at hNM ⊢
      have HNE := Lib.hid hNM
      clear hNM
      go_enter Try.func44, Try.ntmps44
      go_wp2_with (first | (go_at_call 76; refine (HIP.out _ (HB.out.on (by ((try simp only [World.junk_junk, Array.append_assoc]); (repeat (first | with_reducible exact Junk.refl _ | with_reducible exact Junk.app _ _ _ _ _ | with_reducible exact Junk.app2 _ _ _ _ _ _ | with_reducible exact Junk.app3 _ _ _ _ _ _ _ | with_reducible exact Junk.app4 _ _ _ _ _ _ _ _ | with_reducible exact Junk.app5 _ _ _ _ _ _ _ _ _ | with_reducible apply Junk.alloc | with_reducible apply Junk.junk | with_reducible apply Junk.drew | with_reducible apply Junk.drewN)))))).mono ?_; rintro e w' ⟨ob2, cb2, rfl, ⟨osj, dj, rfl⟩⟩) | (go_at_call 67; refine (asks_any x0 _ _ _ _).mono ?_; rintro e w' ⟨rfl, ⟨osj, dj, rfl⟩⟩) | (go_at_call 68; refine (answers_any x0 _ _ _ _).mono ?_; rintro e w' ⟨rfl, ⟨osj, dj, rfl⟩⟩))
      refine wp_region_junk (by kernel_rfl) (by kernel_rfl) ?_; (repeat (go_big_quiet_step (first | (go_at_call 77; first | with_reducible exact Calls.junk_of5 (HNM.out _ _ _) | with_reducible exact Calls.junk_of4 (HNM.out _ _ _) | with_reducible exact Calls.junk_of3 (HNM.out _ _ _) | with_reducible exact Calls.junk_of2 (HNM.out _ _ _) | exact Calls.junk_of (HNM.out _ _ _))))); refine wpQuiet_nil ?_; rintro _ ⟨⟨osq, dq⟩, rfl⟩
      go_wp2
      go_returns
      exact ports_ok rfl HNE.out HNE.out (by ((try simp only [World.junk_junk, Array.append_assoc]); (repeat (first | with_reducible exact Junk.refl _ | with_reducible exact Junk.app _ _ _ _ _ | with_reducible exact Junk.app2 _ _ _ _ _ _ | with_reducible exact Junk.app3 _ _ _ _ _ _ _ | with_reducible exact Junk.app4 _ _ _ _ _ _ _ _ | with_reducible exact Junk.app5 _ _ _ _ _ _ _ _ _ | with_reducible apply Junk.alloc | with_reducible apply Junk.junk | with_reducible apply Junk.drew | with_reducible apply Junk.drewN))))
    | false =>
      simp only [Bool.or_false, Bool.false_eq_true, if_false]
      clear hNM
      go_enter Try.func44, Try.ntmps44
      go_wp2_with (first | (go_at_call 76; refine (HIP.out _ (HB.out.on (by ((try simp only [World.junk_junk, Array.append_assoc]); (repeat (first | with_reducible exact Junk.refl _ | with_reducible exact Junk.app _ _ _ _ _ | with_reducible exact Junk.app2 _ _ _ _ _ _ | with_reducible exact Junk.app3 _ _ _ _ _ _ _ | with_reducible exact Junk.app4 _ _ _ _ _ _ _ _ | with_reducible exact Junk.app5 _ _ _ _ _ _ _ _ _ | with_reducible apply Junk.alloc | with_reducible apply Junk.junk | with_reducible apply Junk.drew | with_reducible apply Junk.drewN)))))).mono ?_; rintro e w' ⟨ob2, cb2, rfl, ⟨osj, dj, rfl⟩⟩) | (go_at_call 67; refine (asks_any x0 _ _ _ _).mono ?_; rintro e w' ⟨rfl, ⟨osj, dj, rfl⟩⟩) | (go_at_call 68; refine (answers_any x0 _ _ _ _).mono ?_; rintro e w' ⟨rfl, ⟨osj, dj, rfl⟩⟩))
      go_returns
      exact ports_bad rfl (by decide) (by ((try simp only [World.junk_junk, Array.append_assoc]); (repeat (first | with_reducible exact Junk.refl _ | with_reducible exact Junk.app _ _ _ _ _ | with_reducible exact Junk.app2 _ _ _ _ _ _ | with_reducible exact Junk.app3 _ _ _ _ _ _ _ | with_reducible exact Junk.app4 _ _ _ _ _ _ _ _ | with_reducible exact Junk.app5 _ _ _ _ _ _ _ _ _ | with_reducible apply Junk.alloc | with_reducible apply Junk.junk | with_reducible apply Junk.drew | with_reducible apply Junk.drewN))))
def ofErr (m : Bool) (off pr src dst : Int) (xs : Nat → Int) (l : Nat) : Int := if (m || (off != 0)) = true then 7 else prErr pr src dst xs l
def ofTup (m : Bool) (off pr src dst : Int) (xs : Nat → Int) (l : Nat) : Tup := if ofErr m off pr src dst xs l = 0 then ⟨pr, src, prS pr xs, dst, prD pr xs⟩ else ⟨0, 0, 0, 0, 0⟩
set_option maxHeartbeats 1000000 in
theorem tup_of_any (c0 c1 c2 c5 c9 : Value) (m : Bool) (off pr src dst : Int) (ob : Option Addr) (l bc : Nat) (xs : Nat → Int) (w : World) (h1 : 0 ≤ src ∧ src ≤ 4294967295) (h2 : 0 ≤ dst ∧ dst ≤ 4294967295) (hl : l ≤ 100000000) (hB : Bts w ob l bc xs) : Calls Try.prog 20 #[.agg #[c0, c1, c2, .bool m, .int .i64 off, c5, .int .i64 pr, .int .u32 src, .int .u32 dst, c9, .slice ob l bc]] w fun e w' => e = .returned (.tuple #[(ofTup m off pr src dst xs l).val, .int .i64 (ofErr m off pr src dst xs l)]) ∧ Junk w w' := by
  have HB := Lib.hid hB
  clear hB
  cases hp : (m || (off != 0)) with
  | true =>
    have hE : ofErr m off pr src dst xs l = 7 := by unfold ofErr; rw [if_pos hp]
    have hT : ofTup m off pr src dst xs l = ⟨0, 0, 0, 0, 0⟩ := by unfold ofTup; rw [hE]; rfl
    rw [hE, hT]
    clear hE hT
    have HPC := Lib.hid (fun w1 => show Calls Try.prog 43 #[.agg #[c0, c1, c2, .bool m, .int .i64 off, c5, .int .i64 pr, .int .u32 src, .int .u32 dst, c9, .slice ob l bc]] w1 fun e w' => e = .returned (.bool true) ∧ Junk w1 w' by rw [← hp]; exact tup_piece_any c0 c1 c2 c5 _ _ _ c9 _ m off w1)
    clear hp
    go_enter Try.func20, Try.ntmps20
    go_wp2_with (first | (go_at_call 43; refine (HPC.out _).mono ?_; rintro e w' ⟨rfl, ⟨osj, dj, rfl⟩⟩))
    go_returns
    exact ⟨rfl, by ((try simp only [World.junk_junk, Array.append_assoc]); (repeat (first | with_reducible exact Junk.refl _ | with_reducible exact Junk.app _ _ _ _ _ | with_reducible exact Junk.app2 _ _ _ _ _ _ | with_reducible exact Junk.app3 _ _ _ _ _ _ _ | with_reducible exact Junk.app4 _ _ _ _ _ _ _ _ | with_reducible exact Junk.app5 _ _ _ _ _ _ _ _ _ | with_reducible apply Junk.alloc | with_reducible apply Junk.junk | with_reducible apply Junk.drew | with_reducible apply Junk.drewN)))⟩
  | false =>
    have HPC := Lib.hid (fun w1 => show Calls Try.prog 43 #[.agg #[c0, c1, c2, .bool m, .int .i64 off, c5, .int .i64 pr, .int .u32 src, .int .u32 dst, c9, .slice ob l bc]] w1 fun e w' => e = .returned (.bool false) ∧ Junk w1 w' by rw [← hp]; exact tup_piece_any c0 c1 c2 c5 _ _ _ c9 _ m off w1)
    have hE : ofErr m off pr src dst xs l = prErr pr src dst xs l := by unfold ofErr; rw [if_neg (by rw [hp]; decide)]
    by_cases h0 : prErr pr src dst xs l = 0
    · have hT : ofTup m off pr src dst xs l = ⟨pr, src, prS pr xs, dst, prD pr xs⟩ := by unfold ofTup; rw [if_pos (by rw [hE]; exact h0)]
      have HPR := Lib.hid (fun w1 (hb : Bts w1 ob l bc xs) => show Calls Try.prog 44 #[.agg #[c0, c1, c2, .bool m, .int .i64 off, c5, .int .i64 pr, .int .u32 src, .int .u32 dst, c9, .slice ob l bc]] w1 fun e w' => e = .returned (.tuple #[.int .i64 (prS pr xs), .int .i64 (prD pr xs), .int .i64 0]) ∧ Junk w1 w' from (tup_ports_any c0 c1 c2 c5 c9 m off pr src dst ob l bc xs w1 h1 h2 hl hb).mono fun e w' hp => ⟨hp.1 h0, hp.2.2⟩)
      rw [hE, hT, h0]
      clear hE hT h0 hp
      go_enter Try.func20, Try.ntmps20
      go_wp2_with (first | (go_at_call 43; refine (HPC.out _).mono ?_; rintro e w' ⟨rfl, ⟨osj, dj, rfl⟩⟩) | (go_at_call 44; refine (HPR.out _ (HB.out.on (by ((try simp only [World.junk_junk, Array.append_assoc]); (repeat (first | with_reducible exact Junk.refl _ | with_reducible exact Junk.app _ _ _ _ _ | with_reducible exact Junk.app2 _ _ _ _ _ _ | with_reducible exact Junk.app3 _ _ _ _ _ _ _ | with_reducible exact Junk.app4 _ _ _ _ _ _ _ _ | with_reducible exact Junk.app5 _ _ _ _ _ _ _ _ _ | with_reducible apply Junk.alloc | with_reducible apply Junk.junk | with_reducible apply Junk.drew | with_reducible apply Junk.drewN)))))).mono ?_; rintro e w' ⟨rfl, ⟨osj, dj, rfl⟩⟩))
      go_returns
      exact ⟨rfl, by ((try simp only [World.junk_junk, Array.append_assoc]); (repeat (first | with_reducible exact Junk.refl _ | with_reducible exact Junk.app _ _ _ _ _ | with_reducible exact Junk.app2 _ _ _ _ _ _ | with_reducible exact Junk.app3 _ _ _ _ _ _ _ | with_reducible exact Junk.app4 _ _ _ _ _ _ _ _ | with_reducible exact Junk.app5 _ _ _ _ _ _ _ _ _ | with_reducible apply Junk.alloc | with_reducible apply Junk.junk | with_reducible apply Junk.drew | with_reducible apply Junk.drewN)))⟩
    · have hT : ofTup m off pr src dst xs l = ⟨0, 0, 0, 0, 0⟩ := by unfold ofTup; rw [if_neg (by rw [hE]; exact h0)]
      obtain ⟨E, hn⟩ : ∃ E, prErr pr src dst xs l = E := ⟨_, rfl⟩
      have HPR := Lib.hid (fun w1 (hb : Bts w1 ob l bc xs) => show Calls Try.prog 44 #[.agg #[c0, c1, c2, .bool m, .int .i64 off, c5, .int .i64 pr, .int .u32 src, .int .u32 dst, c9, .slice ob l bc]] w1 fun e w' => e = .returned (.tuple #[.int .i64 0, .int .i64 0, .int .i64 E]) ∧ Junk w1 w' from (tup_ports_any c0 c1 c2 c5 c9 m off pr src dst ob l bc xs w1 h1 h2 hl hb).mono fun e w' hp => ⟨by rw [← hn]; exact hp.2.1 h0, hp.2.2⟩)
      rw [hE, hT, hn]
      rw [hn] at h0
      have hne : (E != 0) = true := by simpa using h0
      clear hE hT hn hp
      go_enter Try.func20, Try.ntmps20
      go_wp2_with (first | (go_at_call 43; refine (HPC.out _).mono ?_; rintro e w' ⟨rfl, ⟨osj, dj, rfl⟩⟩) | (go_at_call 44; refine (HPR.out _ (HB.out.on (by ((try simp only [World.junk_junk, Array.append_assoc]); (repeat (first | with_reducible exact Junk.refl _ | with_reducible exact Junk.app _ _ _ _ _ | with_reducible exact Junk.app2 _ _ _ _ _ _ | with_reducible exact Junk.app3 _ _ _ _ _ _ _ | with_reducible exact Junk.app4 _ _ _ _ _ _ _ _ | with_reducible exact Junk.app5 _ _ _ _ _ _ _ _ _ | with_reducible apply Junk.alloc | with_reducible apply Junk.junk | with_reducible apply Junk.drew | with_reducible apply Junk.drewN)))))).mono ?_; rintro e w' ⟨rfl, ⟨osj, dj, rfl⟩⟩))
      go_returns
      exact ⟨rfl, by ((try simp only [World.junk_junk, Array.append_assoc]); (repeat (first | with_reducible exact Junk.refl _ | with_reducible exact Junk.app _ _ _ _ _ | with_reducible exact Junk.app2 _ _ _ _ _ _ | with_reducible exact Junk.app3 _ _ _ _ _ _ _ | with_reducible exact Junk.app4 _ _ _ _ _ _ _ _ | with_reducible exact Junk.app5 _ _ _ _ _ _ _ _ _ | with_reducible apply Junk.alloc | with_reducible apply Junk.junk | with_reducible apply Junk.drew | with_reducible apply Junk.drewN)))⟩
end Go.Proofs.Ytnefphinmjeacaa
