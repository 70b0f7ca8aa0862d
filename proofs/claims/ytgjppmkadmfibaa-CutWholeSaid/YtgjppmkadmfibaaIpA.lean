/- The contracts of the small functions of ip. -/
import Derived.Test.YtgjppmkadmfibaaTcpC
set_option linter.unusedVariables false
set_option maxRecDepth 100000
set_option linter.unusedSimpArgs false
namespace Go.Proofs.Ytgjppmkadmfibaa
open Go.RowKit
/-- A packet, as data. -/
structure Ip where
  tos : Int
  id : Int
  df : Bool
  mf : Bool
  off : Int
  ttl : Int
  proto : Int
  src : Int
  dst : Int
  ol : Nat
  opts : Nat → Int
  bl : Nat
  body : Nat → Int
structure IpAt (w : World) (p : Ip) (oo : Option Addr) (oc : Nat) (ob : Option Addr) (bc : Nat) : Prop where
  opts : Bts w oo p.ol oc p.opts
  body : Bts w ob p.bl bc p.body
  src : 0 ≤ p.src ∧ p.src ≤ 4294967295
  dst : 0 ≤ p.dst ∧ p.dst ≤ 4294967295
theorem IpAt.on {w w' : World} {p : Ip} {oo ob : Option Addr} {oc bc : Nat} (h : IpAt w p oo oc ob bc) (hj : Junk w w') : IpAt w' p oo oc ob bc := ⟨h.opts.on hj, h.body.on hj, h.src, h.dst⟩
def withinB (n m : Int) : Bool := decide (0 ≤ n ∧ n ≤ m)
theorem withinB_true {n m : Int} (h : withinB n m = true) : 0 ≤ n ∧ n ≤ m := by simpa [withinB] using h
theorem within_any (n m : Int) (w : World) : Calls Try.prog 58 #[.int .i64 n, .int .i64 m] w fun e w' => e = .returned (.bool (withinB n m)) ∧ w = w' := by
  by_cases h1 : 0 ≤ n
  · go_enter Try.func58, Try.ntmps58
    go_wp2
    go_ret
    exact ⟨ret_bool (by simp [withinB, h1]), rfl⟩
  · go_enter Try.func58, Try.ntmps58
    go_wp2
    go_ret
    exact ⟨ret_bool (by simp [withinB]; intro; omega), rfl⟩
/-- Do a body and its place fit? -/
def piecesB (p : Ip) : Bool := !(p.mf && (decide (p.bl % 8 ≠ 0) || decide (p.bl = 0))) && decide (20 + (p.ol : Int) + p.off + p.bl ≤ 65535)
set_option maxHeartbeats 400000 in
theorem pieces_any (p : Ip) (oo ob : Option Addr) (oc bc : Nat) (w : World) (h1 : p.ol ≤ 100000000) (h2 : p.bl ≤ 100000000) (h3 : 0 ≤ p.off) (h4 : p.off ≤ 65528) :
    Calls Try.prog 59 #[.agg #[.int .i64 p.tos, .int .i64 p.id, .bool p.df, .bool p.mf, .int .i64 p.off, .int .i64 p.ttl, .int .i64 p.proto, .int .u32 p.src, .int .u32 p.dst, .slice oo p.ol oc, .slice ob p.bl bc]] w fun e w' => e = .returned (.bool (piecesB p)) ∧ Junk w w' := by
  cases hm : p.mf with
  | false =>
    go_enter Try.func59, Try.ntmps59
    go_wp2
    go_ret
    exact ⟨ret_bool (by simp [piecesB, hm]), by (exact jkc)⟩
  | true =>
    by_cases h8 : p.bl % 8 = 0
    · have e8 : ((p.bl : Int) % 8 != 0) = false := by rw [bne_eq_false_iff_eq]; omega
      by_cases h0 : p.bl = 0
      · have e0 : ((p.bl : Int) == 0) = true := by rw [beq_iff_eq]; omega
        have E0 := Lib.hid h0
        clear h0 h8
        go_enter Try.func59, Try.ntmps59
        go_wp2
        go_ret
        exact ⟨ret_bool (by simp [piecesB, hm, E0.out]), by (exact jkc)⟩
      · have e0 : ((p.bl : Int) == 0) = false := by rw [beq_eq_false_iff_ne]; omega
        have E0 := Lib.hid h0
        have E8 := Lib.hid h8
        clear h0 h8
        go_enter Try.func59, Try.ntmps59
        go_wp2
        go_ret
        exact ⟨ret_bool (by simp [piecesB, hm, E0.out, E8.out]), by (exact jkc)⟩
    · have e8 : ((p.bl : Int) % 8 != 0) = true := by rw [bne_iff_ne]; omega
      have E8 := Lib.hid h8
      clear h8
      go_enter Try.func59, Try.ntmps59
      go_wp2
      go_ret
      exact ⟨ret_bool (by simp [piecesB, hm, E8.out]), by (exact jkc)⟩
def mayB (p : Ip) : Bool := withinB p.tos 255 && withinB p.ttl 255 && withinB p.proto 255 && withinB p.id 65535 && withinB p.off 65528 && decide (p.off % 8 = 0) && decide (p.ol ≤ 40) && decide (p.ol % 4 = 0) && decide (p.bl ≤ 65535) && piecesB p
set_option maxHeartbeats 1000000 in
theorem may_any (p : Ip) (oo ob : Option Addr) (oc bc : Nat) (w : World) (h1 : p.ol ≤ 100000000) (h2 : p.bl ≤ 100000000) :
    Calls Try.prog 44 #[.agg #[.int .i64 p.tos, .int .i64 p.id, .bool p.df, .bool p.mf, .int .i64 p.off, .int .i64 p.ttl, .int .i64 p.proto, .int .u32 p.src, .int .u32 p.dst, .slice oo p.ol oc, .slice ob p.bl bc]] w fun e w' => e = .returned (.bool (mayB p)) ∧ Junk w w' := by
  cases a1 : withinB p.tos 255 with
  | false =>
    go_enter Try.func44, Try.ntmps44
    go_wp2_with (first | (go_at_call 58; refine (within_any _ _ _).mono ?_; rintro e w' ⟨rfl, rfl⟩))
    go_ret
    exact ⟨ret_bool (by simp [mayB, *]), by (exact jkc)⟩
  | true =>
    cases a2 : withinB p.ttl 255 with
    | false =>
      go_enter Try.func44, Try.ntmps44
      go_wp2_with (first | (go_at_call 58; refine (within_any _ _ _).mono ?_; rintro e w' ⟨rfl, rfl⟩))
      go_ret
      exact ⟨ret_bool (by simp [mayB, *]), by (exact jkc)⟩
    | true =>
      cases a3 : withinB p.proto 255 with
      | false =>
        go_enter Try.func44, Try.ntmps44
        go_wp2_with (first | (go_at_call 58; refine (within_any _ _ _).mono ?_; rintro e w' ⟨rfl, rfl⟩))
        go_ret
        exact ⟨ret_bool (by simp [mayB, *]), by (exact jkc)⟩
      | true =>
        cases a4 : withinB p.id 65535 with
        | false =>
          go_enter Try.func44, Try.ntmps44
          go_wp2_with (first | (go_at_call 58; refine (within_any _ _ _).mono ?_; rintro e w' ⟨rfl, rfl⟩))
          go_ret
          exact ⟨ret_bool (by simp [mayB, *]), by (exact jkc)⟩
        | true =>
          cases a5 : withinB p.off 65528 with
          | false =>
            go_enter Try.func44, Try.ntmps44
            go_wp2_with (first | (go_at_call 58; refine (within_any _ _ _).mono ?_; rintro e w' ⟨rfl, rfl⟩))
            go_ret
            exact ⟨ret_bool (by simp [mayB, *]), by (exact jkc)⟩
          | true =>
            have b5 := withinB_true a5
            obtain ⟨b6, b7⟩ := b5
            by_cases h8 : p.off % 8 = 0
            case neg =>
              have e8 : (p.off % 8 != 0) = true := by rw [bne_iff_ne]; omega
              have E8 := Lib.hid h8
              clear h8
              go_enter Try.func44, Try.ntmps44
              go_wp2_with (first | (go_at_call 58; refine (within_any _ _ _).mono ?_; rintro e w' ⟨rfl, rfl⟩))
              go_ret
              exact ⟨ret_bool (by simp [mayB, E8.out]), by (exact jkc)⟩
            have e8 : (p.off % 8 != 0) = false := by rw [bne_eq_false_iff_eq]; omega
            have E8 := Lib.hid h8
            clear h8
            by_cases h9 : p.ol ≤ 40
            case neg =>
              go_enter Try.func44, Try.ntmps44
              go_wp2_with (first | (go_at_call 58; refine (within_any _ _ _).mono ?_; rintro e w' ⟨rfl, rfl⟩))
              go_ret
              exact ⟨ret_bool (by simp [mayB, h9]), by (exact jkc)⟩
            by_cases h10 : p.ol % 4 = 0
            case neg =>
              have e10 : ((p.ol : Int) % 4 == 0) = false := by rw [beq_eq_false_iff_ne]; omega
              have E10 := Lib.hid h10
              clear h10
              go_enter Try.func44, Try.ntmps44
              go_wp2_with (first | (go_at_call 58; refine (within_any _ _ _).mono ?_; rintro e w' ⟨rfl, rfl⟩))
              go_ret
              exact ⟨ret_bool (by simp [mayB, E10.out]), by (exact jkc)⟩
            have e10 : ((p.ol : Int) % 4 == 0) = true := by rw [beq_iff_eq]; omega
            have E10 := Lib.hid h10
            clear h10
            by_cases h11 : p.bl ≤ 65535
            case neg =>
              go_enter Try.func44, Try.ntmps44
              go_wp2_with (first | (go_at_call 58; refine (within_any _ _ _).mono ?_; rintro e w' ⟨rfl, rfl⟩))
              go_ret
              exact ⟨ret_bool (by simp [mayB, h11]), by (exact jkc)⟩
            go_enter Try.func44, Try.ntmps44
            go_wp2_with (first | (go_at_call 58; refine (within_any _ _ _).mono ?_; rintro e w' ⟨rfl, rfl⟩) | (go_at_call 59; refine (pieces_any p _ _ _ _ _ h1 h2 b6 b7).mono ?_; rintro e w' ⟨rfl, ⟨osj, dj, rfl⟩⟩))
            go_ret
            exact ⟨ret_bool (by simp [mayB, a1, a2, a3, a4, a5, E8.out, h9, E10.out, h11]), by (exact jkc)⟩
theorem or_nats (x y z : Nat) (hx : x < 2 ^ 63) (hy : y < 2 ^ 63) (h : x ||| y = z) : bits .or .i64 (x : Int) (y : Int) = (z : Int) := by
  rw [(bits_nat .i64 63 (by decide) wrapk_i64 x y hx hy).2, h]
theorem nat_or13 (s : Nat) (h : s < 8192) : 2 ^ 13 ||| s = 8192 + s ∧ 2 ^ 14 ||| s = 16384 + s ∧ (16384 + s) ||| 8192 = 24576 + s := by
  have h1 := Nat.two_pow_add_eq_or_of_lt (i := 13) h 1
  have h2 := Nat.two_pow_add_eq_or_of_lt (i := 13) h 2
  have h3 := Nat.two_pow_add_eq_or_of_lt (i := 13) h 3
  refine ⟨by simpa using h1.symm, by simpa using h2.symm, ?_⟩
  simp only [Nat.reducePow, Nat.reduceMul] at h1 h2 h3
  rw [h2, Nat.or_assoc, Nat.or_comm s 8192, ← Nat.or_assoc, show (16384 ||| 8192 : Nat) = 24576 from by decide, h3]
theorem or_bit13 (s : Int) (h0 : 0 ≤ s) (h1 : s < 8192) : bits .or .i64 s 8192 = s + 8192 := by
  obtain ⟨a, rfl⟩ := Int.eq_ofNat_of_zero_le h0
  have ha : a < 8192 := by omega
  have := or_nats a 8192 (8192 + a) (by omega) (by decide) (by rw [Nat.or_comm]; exact (nat_or13 a ha).1)
  rw [show ((8192 : Int)) = ((8192 : Nat) : Int) from rfl, this]; omega
theorem or_bit14 (s : Int) (h0 : 0 ≤ s) (h1 : s < 8192) : bits .or .i64 s 16384 = s + 16384 := by
  obtain ⟨a, rfl⟩ := Int.eq_ofNat_of_zero_le h0
  have ha : a < 8192 := by omega
  have := or_nats a 16384 (16384 + a) (by omega) (by decide) (by rw [Nat.or_comm]; exact (nat_or13 a ha).2.1)
  rw [show ((16384 : Int)) = ((16384 : Nat) : Int) from rfl, this]; omega
theorem or_bit13b (s : Int) (h0 : 0 ≤ s) (h1 : s < 8192) : bits .or .i64 (s + 16384) 8192 = s + 16384 + 8192 := by
  obtain ⟨a, rfl⟩ := Int.eq_ofNat_of_zero_le h0
  have ha : a < 8192 := by omega
  have := or_nats (16384 + a) 8192 (24576 + a) (by omega) (by decide) (nat_or13 a ha).2.2
  rw [show ((a : Int) + 16384) = ((16384 + a : Nat) : Int) from by omega, show ((8192 : Int)) = ((8192 : Nat) : Int) from rfl, this]; omega
def bitsI (p : Ip) : Int := p.off / 8 + (if p.df then 16384 else 0) + if p.mf then 8192 else 0
set_option maxHeartbeats 400000 in
theorem bits_any (p : Ip) (oo ob : Option Addr) (oc bc : Nat) (w : World) (h3 : 0 ≤ p.off) (h4 : p.off ≤ 65528) :
    Calls Try.prog 46 #[.agg #[.int .i64 p.tos, .int .i64 p.id, .bool p.df, .bool p.mf, .int .i64 p.off, .int .i64 p.ttl, .int .i64 p.proto, .int .u32 p.src, .int .u32 p.dst, .slice oo p.ol oc, .slice ob p.bl bc]] w fun e w' => e = .returned (.int .i64 (bitsI p)) ∧ Junk w w' := by
  have o1 := or_bit14 (p.off / 8) (by omega) (by omega)
  have o2 := or_bit13 (p.off / 8) (by omega) (by omega)
  have o3 := or_bit13b (p.off / 8) (by omega) (by omega)
  cases hd : p.df <;> cases hm : p.mf
  all_goals
    go_enter Try.func46, Try.ntmps46
    go_wp2
    go_ret
    exact ⟨ret_int (by simp [bitsI, hd, hm]), by (exact jkc)⟩
set_option maxHeartbeats 400000 in
theorem half_any (g off l c : Nat) (n : Int) (v0 v1 : Value) (w : World) (hl : 2 ≤ l) (hn0 : 0 ≤ n) (hn1 : n ≤ 65535) (hg : g < w.heap.size) (h0 : w.cell? ⟨g, off, none⟩ = some v0) (h1 : w.cell? ⟨g, off + 1, none⟩ = some v1)
    (f0 : w.frozen? ⟨g, off, none⟩ = false) (f1 : w.frozen? ⟨g, off + 1, none⟩ = false) :
    Calls Try.prog 45 #[.slice (some ⟨g, off, none⟩) l c, .int .i64 n] w fun e w' => e = .returned (.tuple #[]) ∧ (w.setCell ⟨g, off, none⟩ (.int .u8 (n / 256))).setCell ⟨g, off + 1, none⟩ (.int .u8 (n % 256)) = w' := by
  have q0 := wrapk_u8 (n / 256) (by omega) (by omega)
  have q1 : IntKind.u8.wrap n = n % 256 := by rw [IntKind.wrap_u8]
  go_enter Try.func45, Try.ntmps45
  go_wp2
  go_end0
  exact ⟨rfl, rfl⟩
end Go.Proofs.Ytgjppmkadmfibaa
