/- The contracts of the reference of layer 3: fits, May, Head, Put. -/
import Derived.Test.YtgjppmkadmfibaaIpPlain
set_option linter.unusedVariables false
set_option maxRecDepth 100000
set_option linter.unusedSimpArgs false
namespace Go.Proofs.Ytgjppmkadmfibaa
open Go.RowKit
set_option maxHeartbeats 400000 in
theorem rfits_any (p : Ip) (oo ob : Option Addr) (oc bc : Nat) (w : World) (h1 : p.ol ≤ 100000000) (h2 : p.bl ≤ 100000000) (h3 : 0 ≤ p.off) (h4 : p.off ≤ 65528) :
    Calls Try.prog 20 #[.agg #[.int .i64 p.tos, .int .i64 p.id, .bool p.df, .bool p.mf, .int .i64 p.off, .int .i64 p.ttl, .int .i64 p.proto, .int .u32 p.src, .int .u32 p.dst, .slice oo p.ol oc, .slice ob p.bl bc]] w fun e w' => e = .returned (.bool (piecesB p)) ∧ Junk w w' := by
  cases hm : p.mf with
  | false =>
    go_enter Try.func20, Try.ntmps20
    go_wp2
    go_ret
    exact ⟨ret_bool (by simp [piecesB, hm]), by (exact jkc)⟩
  | true =>
    by_cases h0 : p.bl = 0
    · have e0 : ((p.bl : Int) == 0) = true := by rw [beq_iff_eq]; omega
      have E0 := Lib.hid h0
      clear h0
      go_enter Try.func20, Try.ntmps20
      go_wp2
      go_ret
      exact ⟨ret_bool (by simp [piecesB, hm, E0.out]), by (exact jkc)⟩
    · have e0 : ((p.bl : Int) == 0) = false := by rw [beq_eq_false_iff_ne]; omega
      have E0 := Lib.hid h0
      clear h0
      by_cases h8 : p.bl % 8 = 0
      · have e8 : ¬ (0 < (p.bl : Int) % 8) := by omega
        have E8 := Lib.hid h8
        clear h8
        go_enter Try.func20, Try.ntmps20
        go_wp2
        go_ret
        exact ⟨ret_bool (by simp [piecesB, hm, E0.out, E8.out]), by (exact jkc)⟩
      · have e8 : 0 < (p.bl : Int) % 8 := by omega
        have E8 := Lib.hid h8
        clear h8
        go_enter Try.func20, Try.ntmps20
        go_wp2
        go_ret
        exact ⟨ret_bool (by simp [piecesB, hm, E8.out]), by (exact jkc)⟩
set_option maxHeartbeats 1000000 in
theorem rmay_any (p : Ip) (oo ob : Option Addr) (oc bc : Nat) (w : World) (h1 : p.ol ≤ 9223372036854775807) (h2 : p.bl ≤ 9223372036854775807) :
    Calls Try.prog 8 #[.agg #[.int .i64 p.tos, .int .i64 p.id, .bool p.df, .bool p.mf, .int .i64 p.off, .int .i64 p.ttl, .int .i64 p.proto, .int .u32 p.src, .int .u32 p.dst, .slice oo p.ol oc, .slice ob p.bl bc]] w fun e w' => e = .returned (.bool (mayB p)) ∧ Junk w w' := by
  have i0 : ∀ w, (Instr.index 52 (.agg #[.int .i64 p.tos, .int .i64 p.ttl, .int .i64 p.proto, .int .i64 p.id]) (.int .i64 0)).run Try.prog w = .ok (.int .i64 p.tos) w := fun _ => by kernel_rfl
  have i1 : ∀ w, (Instr.index 52 (.agg #[.int .i64 p.tos, .int .i64 p.ttl, .int .i64 p.proto, .int .i64 p.id]) (.int .i64 1)).run Try.prog w = .ok (.int .i64 p.ttl) w := fun _ => by kernel_rfl
  have i2 : ∀ w, (Instr.index 52 (.agg #[.int .i64 p.tos, .int .i64 p.ttl, .int .i64 p.proto, .int .i64 p.id]) (.int .i64 2)).run Try.prog w = .ok (.int .i64 p.proto) w := fun _ => by kernel_rfl
  have i3 : ∀ w, (Instr.index 52 (.agg #[.int .i64 p.tos, .int .i64 p.ttl, .int .i64 p.proto, .int .i64 p.id]) (.int .i64 3)).run Try.prog w = .ok (.int .i64 p.id) w := fun _ => by kernel_rfl
  go_enter Try.func8, Try.ntmps8
  go_wp2
  go_loop [3, 4, 14] (fun i n t => ∃ k : Nat, k ≤ 4 ∧ t = .int .i64 k ∧ (0 < k → withinB p.tos 255 = true) ∧ (1 < k → withinB p.ttl 255 = true) ∧ (2 < k → withinB p.proto 255 = true) ∧ (3 < k → withinB p.id 65535 = true)) (fun _ _ t => 4 - (intOf t).toNat)
  case atStart => exact ⟨0, by omega, rfl, by omega, by omega, by omega, by omega⟩
  case round =>
    obtain ⟨k, hk, rfl, g0, g1, g2, g3⟩ := hrel
    have G0 := Lib.hid g0
    have G1 := Lib.hid g1
    have G2 := Lib.hid g2
    have G3 := Lib.hid g3
    clear g0 g1 g2 g3
    rcases (show k = 0 ∨ k = 1 ∨ k = 2 ∨ k = 3 ∨ k = 4 by omega) with rfl | rfl | rfl | rfl | rfl
    · cases hw : withinB p.tos 255 with
      | false =>
        have hw2 : ¬ (0 ≤ p.tos ∧ p.tos ≤ 255) := by simpa [withinB] using hw
        have HW := Lib.hid hw
        clear hw
        go_wp2
        all_goals first
          | (go_ret; exact ⟨ret_bool (by simp [mayB, HW.out]), by (exact jkc)⟩)
          | (exfalso; omega)
      | true =>
        obtain ⟨hw2, hw3⟩ := withinB_true hw
        have HW := Lib.hid hw
        clear hw
        go_wp2
        go_round
        case rel => exact ⟨1, by omega, rfl, by first | exact fun _ => HW.out | exact fun _ => trivial, by omega, by omega, by omega⟩
        case measure => simp [intOf]
    · cases hw : withinB p.ttl 255 with
      | false =>
        have hw2 : ¬ (0 ≤ p.ttl ∧ p.ttl ≤ 255) := by simpa [withinB] using hw
        have HW := Lib.hid hw
        clear hw
        go_wp2
        all_goals first
          | (go_ret; exact ⟨ret_bool (by simp [mayB, HW.out]), by (exact jkc)⟩)
          | (exfalso; omega)
      | true =>
        obtain ⟨hw2, hw3⟩ := withinB_true hw
        have HW := Lib.hid hw
        clear hw
        go_wp2
        go_round
        case rel => exact ⟨2, by omega, rfl, fun _ => G0.out (by omega), by first | exact fun _ => HW.out | exact fun _ => trivial, by omega, by omega⟩
        case measure => simp [intOf]
    · cases hw : withinB p.proto 255 with
      | false =>
        have hw2 : ¬ (0 ≤ p.proto ∧ p.proto ≤ 255) := by simpa [withinB] using hw
        have HW := Lib.hid hw
        clear hw
        go_wp2
        all_goals first
          | (go_ret; exact ⟨ret_bool (by simp [mayB, HW.out]), by (exact jkc)⟩)
          | (exfalso; omega)
      | true =>
        obtain ⟨hw2, hw3⟩ := withinB_true hw
        have HW := Lib.hid hw
        clear hw
        go_wp2
        go_round
        case rel => exact ⟨3, by omega, rfl, fun _ => G0.out (by omega), fun _ => G1.out (by omega), by first | exact fun _ => HW.out | exact fun _ => trivial, by omega⟩
        case measure => simp [intOf]
    · cases hw : withinB p.id 65535 with
      | false =>
        have hw2 : ¬ (0 ≤ p.id ∧ p.id ≤ 65535) := by simpa [withinB] using hw
        have HW := Lib.hid hw
        clear hw
        go_wp2
        all_goals first
          | (go_ret; exact ⟨ret_bool (by simp [mayB, HW.out]), by (exact jkc)⟩)
          | (exfalso; omega)
      | true =>
        obtain ⟨hw2, hw3⟩ := withinB_true hw
        have HW := Lib.hid hw
        clear hw
        go_wp2
        go_round
        case rel => exact ⟨4, by omega, rfl, fun _ => G0.out (by omega), fun _ => G1.out (by omega), fun _ => G2.out (by omega), by first | exact fun _ => HW.out | exact fun _ => trivial⟩
        case measure => simp [intOf]
    · have w0 := G0.out (by omega)
      have w1 := G1.out (by omega)
      have w2 := G2.out (by omega)
      have w3 := G3.out (by omega)
      have W := Lib.hid (show (withinB p.tos 255 && withinB p.ttl 255 && withinB p.proto 255 && withinB p.id 65535) = true by rw [w0, w1, w2, w3]; rfl)
      clear w0 w1 w2 w3
      cases h5 : withinB p.off 65528 with
      | false =>
        have hw2 : ¬ (0 ≤ p.off ∧ p.off ≤ 65528) := by simpa [withinB] using h5
        have HW := Lib.hid h5
        clear h5
        by_cases h0 : 0 ≤ p.off
        · have h0' : ¬ p.off ≤ 65528 := by omega
          clear hw2
          go_wp2
          go_ret
          exact ⟨ret_bool (by simp [mayB, HW.out]), by (exact jkc)⟩
        · clear hw2
          go_wp2
          go_ret
          exact ⟨ret_bool (by simp [mayB, HW.out]), by (exact jkc)⟩
      | true =>
        obtain ⟨b6, b7⟩ := withinB_true h5
        have HW := Lib.hid h5
        clear h5
        by_cases h8 : p.off % 8 = 0
        case neg =>
          have e8 : (p.off % 8 == 0) = false := by rw [beq_eq_false_iff_ne]; omega
          have E8 := Lib.hid h8
          clear h8
          go_wp2
          go_ret
          exact ⟨ret_bool (by simp [mayB, E8.out]), by (exact jkc)⟩
        have e8 : (p.off % 8 == 0) = true := by rw [beq_iff_eq]; omega
        have E8 := Lib.hid h8
        clear h8
        by_cases h9 : p.ol ≤ 40
        case neg =>
          go_wp2
          go_ret
          exact ⟨ret_bool (by simp [mayB, h9]), by (exact jkc)⟩
        by_cases h10 : p.ol % 4 = 0
        case neg =>
          have e10 : ((p.ol : Int) % 4 == 0) = false := by rw [beq_eq_false_iff_ne]; omega
          have E10 := Lib.hid h10
          clear h10
          go_wp2
          go_ret
          exact ⟨ret_bool (by simp [mayB, E10.out]), by (exact jkc)⟩
        have e10 : ((p.ol : Int) % 4 == 0) = true := by rw [beq_iff_eq]; omega
        have E10 := Lib.hid h10
        clear h10
        by_cases h11 : p.bl ≤ 65535
        case neg =>
          go_wp2
          go_ret
          exact ⟨ret_bool (by simp [mayB, h11]), by (exact jkc)⟩
        go_wp2_with (first | (go_at_call 20; refine (rfits_any p _ _ _ _ _ (by omega) (by omega) b6 b7).mono ?_; rintro e w' ⟨rfl, ⟨osj, dj, rfl⟩⟩))
        go_ret
        have hW := W.out
        simp only [Bool.and_eq_true] at hW
        exact ⟨ret_bool (by simp [mayB, hW.1.1.1, hW.1.1.2, hW.1.2, hW.2, HW.out, E8.out, h9, E10.out, h11]), by (exact jkc)⟩
/-- What a head needs. -/
structure HeadP (p : Ip) : Prop where
  tos : 0 ≤ p.tos ∧ p.tos ≤ 255
  ttl : 0 ≤ p.ttl ∧ p.ttl ≤ 255
  proto : 0 ≤ p.proto ∧ p.proto ≤ 255
  id : 0 ≤ p.id ∧ p.id ≤ 65535
  off : 0 ≤ p.off ∧ p.off ≤ 65528
  ol : p.ol ≤ 40
  fit : 20 + p.ol + p.bl ≤ 65535
theorem MayP.head {p : Ip} (h : MayP p) : HeadP p := ⟨h.tos, h.ttl, h.proto, h.id, h.off, h.ol, by have := h.fit; have := h.off; omega⟩
theorem headB_byte2 {p : Ip} {c : Int} (h : HeadP p) (hc : 0 ≤ c ∧ c ≤ 65535) (hs : 0 ≤ p.src ∧ p.src ≤ 4294967295) (hd : 0 ≤ p.dst ∧ p.dst ≤ 4294967295) (ho : ∀ i, i < p.ol → 0 ≤ p.opts i ∧ p.opts i ≤ 255) :
    ∀ i, i < 20 + p.ol → 0 ≤ headB p c i ∧ headB p c i ≤ 255 := by
  intro i hi
  have h1 := h.tos
  have h2 := h.ttl
  have h3 := h.proto
  have h4 := h.id
  have h5 := h.off
  have h6 := h.ol
  have h7 := h.fit
  have h8 := bitsI_bd h5.1 h5.2
  rcases twenty i with rfl | rfl | rfl | rfl | rfl | rfl | rfl | rfl | rfl | rfl | rfl | rfl | rfl | rfl | rfl | rfl | rfl | rfl | rfl | rfl | ⟨k, rfl⟩
  all_goals simp only [headB]
  all_goals first | omega | exact ho k (by omega)
theorem bytesL_four (f : Nat → Int) (n : Nat) (a b c d : Int) (h0 : a = f n) (h1 : b = f (n + 1)) (h2 : c = f (n + 2)) (h3 : d = f (n + 3)) :
    bytesL n f ++ [.int .u8 a, .int .u8 b, .int .u8 c, .int .u8 d] = bytesL (n + 4) f := by
  subst h0 h1 h2 h3
  unfold bytesL
  rw [← range_ext]
  rfl
theorem bytesL_opts (p : Ip) (c : Int) : bytesL 20 (headB p c) ++ ((List.range p.ol).map fun i => .int .u8 (p.opts i)) = bytesL (20 + p.ol) (headB p c) := by
  unfold bytesL
  rw [← range_ext]
  congr 1
  apply List.map_congr_left
  intro i _
  rw [Nat.add_comm]
  rfl
theorem own_cast2 {B : Nat} {w : World} {e : TypeId} {size : Nat} {oa : Option Addr} {cap n : Nat} {a b : List Value} (h : Own B w e size oa cap n a) (hab : a = b) : Own B w e size oa cap n b := hab ▸ h
def HeadM (w : World) (p : Ip) (c : Int) (e : Ending) (w' : World) : Prop :=
  ∃ (ob : Option Addr) (cap : Nat), e = .returned (.slice ob (20 + p.ol) cap) ∧ Junk w w' ∧ Own w.heap.size w' 5 1 ob cap (20 + p.ol) (bytesL (20 + p.ol) (headB p c))
theorem head12 (p : Ip) (c : Int) (S N : Nat) (B : Int) (hS : S = 20 + p.ol) (hN : N = S + p.bl) (hB : B = bitsI p) :
    [Value.int .u8 (64 + (S : Int) / 4), .int .u8 p.tos, .int .u8 ((N : Int) / 256), .int .u8 ((N : Int) % 256), .int .u8 (p.id / 256), .int .u8 (p.id % 256), .int .u8 (B / 256), .int .u8 (B % 256), .int .u8 p.ttl, .int .u8 p.proto, .int .u8 (c / 256), .int .u8 (c % 256)] = bytesL 12 (headB p c) := by
  subst hS hN hB
  simp [bytesL, List.range_succ, headB]
set_option maxHeartbeats 1000000 in
theorem rhead_ff (p : Ip) (c : Int) (oo ob : Option Addr) (oc bc : Nat) (w : World) (HP : Hid (IpAt w p oo oc ob bc)) (S N : Nat) (B : Int) (s1 : 0 ≤ p.src) (s2 : p.src ≤ 4294967295) (d1 : 0 ≤ p.dst) (d2 : p.dst ≤ 4294967295)
    (a1 : 0 ≤ p.tos) (a2 : p.tos ≤ 255) (a3 : 0 ≤ p.ttl) (a4 : p.ttl ≤ 255) (a5 : 0 ≤ p.proto) (a6 : p.proto ≤ 255) (a7 : 0 ≤ p.id) (a8 : p.id ≤ 65535) (a9 : 0 ≤ p.off) (a10 : p.off ≤ 65528) (a11 : p.ol ≤ 40) (c0 : 0 ≤ c) (c1 : c ≤ 65535)
    (e1 : (20 : Int) + (p.ol : Int) = (S : Int)) (e2 : (S : Int) + (p.bl : Int) = (N : Int)) (n1 : 20 ≤ S) (n2 : S ≤ N) (n3 : N ≤ 65535) (n4 : S ≤ 60) (b1 : 0 ≤ B) (b2 : B ≤ 32767)
    (H12 : Hid ([Value.int .u8 (64 + (S : Int) / 4), .int .u8 p.tos, .int .u8 ((N : Int) / 256), .int .u8 ((N : Int) % 256), .int .u8 (p.id / 256), .int .u8 (p.id % 256), .int .u8 (B / 256), .int .u8 (B % 256), .int .u8 p.ttl, .int .u8 p.proto, .int .u8 (c / 256), .int .u8 (c % 256)] = bytesL 12 (headB p c))) (hb : p.off / 8 = B) :
    Calls Try.prog 34 #[.agg #[.int .i64 p.tos, .int .i64 p.id, .bool false, .bool false, .int .i64 p.off, .int .i64 p.ttl, .int .i64 p.proto, .int .u32 p.src, .int .u32 p.dst, .slice oo p.ol oc, .slice ob p.bl bc], .int .i64 c] w (HeadM w p c) := by
  have i0 : ∀ w, (Instr.index 92 (.agg #[.int .u32 p.src, .int .u32 p.dst]) (.int .i64 0)).run Try.prog w = .ok (.int .u32 p.src) w := fun _ => by kernel_rfl
  have i1 : ∀ w, (Instr.index 92 (.agg #[.int .u32 p.src, .int .u32 p.dst]) (.int .i64 1)).run Try.prog w = .ok (.int .u32 p.dst) w := fun _ => by kernel_rfl
  go_enter Try.func34, Try.ntmps34
  go_wp2
  try simp only [hb]
  go_loopw [8, 10, 76] (fun v a i wr => ∃ (k : Nat) (og : Option Addr) (cap : Nat), k ≤ 2 ∧ i = .int .i64 k ∧ v = .slice og (12 + 4 * k) cap ∧ Junk (w.alloc (.cells #[.int .i64 p.tos, .int .i64 p.id, .bool false, .bool false, .int .i64 p.off, .int .i64 p.ttl, .int .i64 p.proto, .int .u32 p.src, .int .u32 p.dst, .slice oo p.ol oc, .slice ob p.bl bc] 25)) wr ∧ Own (w.alloc (.cells #[.int .i64 p.tos, .int .i64 p.id, .bool false, .bool false, .int .i64 p.off, .int .i64 p.ttl, .int .i64 p.proto, .int .u32 p.src, .int .u32 p.dst, .slice oo p.ol oc, .slice ob p.bl bc] 25)).heap.size wr 5 1 og cap (12 + 4 * k) (bytesL (12 + 4 * k) (headB p c))) (fun _ _ i _ => 2 - (intOf i).toNat)
  case atStart => exact ⟨0, _, 12, by omega, rfl, rfl, by (exact jkc), own_cast2 (own_lit _ _ _ _ _ (by simp) (by simp) rfl (by decide)) H12.out⟩
  case round =>
    obtain ⟨k, og, cap, hk, rfl, rfl, ⟨os, d, rfl⟩, hown⟩ := hrel
    rcases (show k = 0 ∨ k = 1 ∨ k = 2 by omega) with rfl | rfl | rfl
    · have Hown : Hid (Own _ _ 5 1 og cap 12 (bytesL 12 (headB p c))) := Lib.hid hown
      clear hown
      go_wp2_with (at_builtin; (refine ap_own (W0 := w.alloc (.cells #[.int .i64 p.tos, .int .i64 p.id, .bool false, .bool false, .int .i64 p.off, .int .i64 p.ttl, .int .i64 p.proto, .int .u32 p.src, .int .u32 p.dst, .slice oo p.ol oc, .slice ob p.bl bc] 25)) rfl _ _ 23 rfl 5 (.int .u8 0) 1 1 (by kernel_rfl) rfl (by decide) Try.underlying23 (by (exact jkc)) _ _ 12 _ rfl (Hown.out.on (by (exact jkc))) _ 4 4 rfl [_, _, _, _] rfl (built_cells (by simp)) (by simp) (by simp [Value.oneCell']) (by simp only [maxLen]; omega) (by omega) ?_; intro og' cap' os' d' hown' _; have Hn := Lib.hid (own_cast2 hown' (bytesL_four (headB p c) 12 _ _ _ _ (by show _ = p.src / 65536 / 256; omega) (by show _ = p.src / 65536 % 256; omega) (by show _ = p.src % 65536 / 256; omega) (by show _ = p.src % 256; omega))); clear hown'))
      go_roundw
      case rel => exact ⟨1, og', cap', by omega, rfl, rfl, by (exact jkc), Hn.out⟩
      case measure => simp [intOf]
    · have Hown : Hid (Own _ _ 5 1 og cap 16 (bytesL 16 (headB p c))) := Lib.hid hown
      clear hown
      go_wp2_with (at_builtin; (refine ap_own (W0 := w.alloc (.cells #[.int .i64 p.tos, .int .i64 p.id, .bool false, .bool false, .int .i64 p.off, .int .i64 p.ttl, .int .i64 p.proto, .int .u32 p.src, .int .u32 p.dst, .slice oo p.ol oc, .slice ob p.bl bc] 25)) rfl _ _ 23 rfl 5 (.int .u8 0) 1 1 (by kernel_rfl) rfl (by decide) Try.underlying23 (by (exact jkc)) _ _ 16 _ rfl (Hown.out.on (by (exact jkc))) _ 4 4 rfl [_, _, _, _] rfl (built_cells (by simp)) (by simp) (by simp [Value.oneCell']) (by simp only [maxLen]; omega) (by omega) ?_; intro og' cap' os' d' hown' _; have Hn := Lib.hid (own_cast2 hown' (bytesL_four (headB p c) 16 _ _ _ _ (by show _ = p.dst / 65536 / 256; omega) (by show _ = p.dst / 65536 % 256; omega) (by show _ = p.dst % 65536 / 256; omega) (by show _ = p.dst % 256; omega))); clear hown'))
      go_roundw
      case rel => exact ⟨2, og', cap', by omega, rfl, rfl, by (exact jkc), Hn.out⟩
      case measure => simp [intOf]
    · have Hown : Hid (Own _ _ 5 1 og cap 20 (bytesL 20 (headB p c))) := Lib.hid hown
      clear hown
      go_wp2_with (at_builtin; (refine ap_own (W0 := w.alloc (.cells #[.int .i64 p.tos, .int .i64 p.id, .bool false, .bool false, .int .i64 p.off, .int .i64 p.ttl, .int .i64 p.proto, .int .u32 p.src, .int .u32 p.dst, .slice oo p.ol oc, .slice ob p.bl bc] 25)) rfl _ _ 23 rfl 5 (.int .u8 0) 1 1 (by kernel_rfl) rfl (by decide) Try.underlying23 (by (exact jkc)) _ _ 20 _ rfl (Hown.out.on (by (exact jkc))) oo p.ol oc rfl ((List.range p.ol).map fun i => .int .u8 (p.opts i)) (by simp) (HP.out.opts.at_.on (by (exact jkc))).src (fun h => HP.out.opts.nil h) (by simp [Value.oneCell']) (by simp only [maxLen]; omega) (by omega) ?_; intro og' cap' os' d' hown' _; have Hn := Lib.hid (own_cast2 hown' (bytesL_opts p c)); clear hown'))
      go_ret
      exact ⟨_, _, rfl, by (exact jkc), Hn.out.lower (by simp)⟩
set_option maxHeartbeats 1000000 in
theorem rhead_ft (p : Ip) (c : Int) (oo ob : Option Addr) (oc bc : Nat) (w : World) (HP : Hid (IpAt w p oo oc ob bc)) (S N : Nat) (B : Int) (s1 : 0 ≤ p.src) (s2 : p.src ≤ 4294967295) (d1 : 0 ≤ p.dst) (d2 : p.dst ≤ 4294967295)
    (a1 : 0 ≤ p.tos) (a2 : p.tos ≤ 255) (a3 : 0 ≤ p.ttl) (a4 : p.ttl ≤ 255) (a5 : 0 ≤ p.proto) (a6 : p.proto ≤ 255) (a7 : 0 ≤ p.id) (a8 : p.id ≤ 65535) (a9 : 0 ≤ p.off) (a10 : p.off ≤ 65528) (a11 : p.ol ≤ 40) (c0 : 0 ≤ c) (c1 : c ≤ 65535)
    (e1 : (20 : Int) + (p.ol : Int) = (S : Int)) (e2 : (S : Int) + (p.bl : Int) = (N : Int)) (n1 : 20 ≤ S) (n2 : S ≤ N) (n3 : N ≤ 65535) (n4 : S ≤ 60) (b1 : 0 ≤ B) (b2 : B ≤ 32767)
    (H12 : Hid ([Value.int .u8 (64 + (S : Int) / 4), .int .u8 p.tos, .int .u8 ((N : Int) / 256), .int .u8 ((N : Int) % 256), .int .u8 (p.id / 256), .int .u8 (p.id % 256), .int .u8 (B / 256), .int .u8 (B % 256), .int .u8 p.ttl, .int .u8 p.proto, .int .u8 (c / 256), .int .u8 (c % 256)] = bytesL 12 (headB p c))) (hb : p.off / 8 + 16384 = B) :
    Calls Try.prog 34 #[.agg #[.int .i64 p.tos, .int .i64 p.id, .bool true, .bool false, .int .i64 p.off, .int .i64 p.ttl, .int .i64 p.proto, .int .u32 p.src, .int .u32 p.dst, .slice oo p.ol oc, .slice ob p.bl bc], .int .i64 c] w (HeadM w p c) := by
  have i0 : ∀ w, (Instr.index 92 (.agg #[.int .u32 p.src, .int .u32 p.dst]) (.int .i64 0)).run Try.prog w = .ok (.int .u32 p.src) w := fun _ => by kernel_rfl
  have i1 : ∀ w, (Instr.index 92 (.agg #[.int .u32 p.src, .int .u32 p.dst]) (.int .i64 1)).run Try.prog w = .ok (.int .u32 p.dst) w := fun _ => by kernel_rfl
  go_enter Try.func34, Try.ntmps34
  go_wp2
  try simp only [hb]
  go_loopw [8, 10, 76] (fun v a i wr => ∃ (k : Nat) (og : Option Addr) (cap : Nat), k ≤ 2 ∧ i = .int .i64 k ∧ v = .slice og (12 + 4 * k) cap ∧ Junk (w.alloc (.cells #[.int .i64 p.tos, .int .i64 p.id, .bool true, .bool false, .int .i64 p.off, .int .i64 p.ttl, .int .i64 p.proto, .int .u32 p.src, .int .u32 p.dst, .slice oo p.ol oc, .slice ob p.bl bc] 25)) wr ∧ Own (w.alloc (.cells #[.int .i64 p.tos, .int .i64 p.id, .bool true, .bool false, .int .i64 p.off, .int .i64 p.ttl, .int .i64 p.proto, .int .u32 p.src, .int .u32 p.dst, .slice oo p.ol oc, .slice ob p.bl bc] 25)).heap.size wr 5 1 og cap (12 + 4 * k) (bytesL (12 + 4 * k) (headB p c))) (fun _ _ i _ => 2 - (intOf i).toNat)
  case atStart => exact ⟨0, _, 12, by omega, rfl, rfl, by (exact jkc), own_cast2 (own_lit _ _ _ _ _ (by simp) (by simp) rfl (by decide)) H12.out⟩
  case round =>
    obtain ⟨k, og, cap, hk, rfl, rfl, ⟨os, d, rfl⟩, hown⟩ := hrel
    rcases (show k = 0 ∨ k = 1 ∨ k = 2 by omega) with rfl | rfl | rfl
    · have Hown : Hid (Own _ _ 5 1 og cap 12 (bytesL 12 (headB p c))) := Lib.hid hown
      clear hown
      go_wp2_with (at_builtin; (refine ap_own (W0 := w.alloc (.cells #[.int .i64 p.tos, .int .i64 p.id, .bool true, .bool false, .int .i64 p.off, .int .i64 p.ttl, .int .i64 p.proto, .int .u32 p.src, .int .u32 p.dst, .slice oo p.ol oc, .slice ob p.bl bc] 25)) rfl _ _ 23 rfl 5 (.int .u8 0) 1 1 (by kernel_rfl) rfl (by decide) Try.underlying23 (by (exact jkc)) _ _ 12 _ rfl (Hown.out.on (by (exact jkc))) _ 4 4 rfl [_, _, _, _] rfl (built_cells (by simp)) (by simp) (by simp [Value.oneCell']) (by simp only [maxLen]; omega) (by omega) ?_; intro og' cap' os' d' hown' _; have Hn := Lib.hid (own_cast2 hown' (bytesL_four (headB p c) 12 _ _ _ _ (by show _ = p.src / 65536 / 256; omega) (by show _ = p.src / 65536 % 256; omega) (by show _ = p.src % 65536 / 256; omega) (by show _ = p.src % 256; omega))); clear hown'))
      go_roundw
      case rel => exact ⟨1, og', cap', by omega, rfl, rfl, by (exact jkc), Hn.out⟩
      case measure => simp [intOf]
    · have Hown : Hid (Own _ _ 5 1 og cap 16 (bytesL 16 (headB p c))) := Lib.hid hown
      clear hown
      go_wp2_with (at_builtin; (refine ap_own (W0 := w.alloc (.cells #[.int .i64 p.tos, .int .i64 p.id, .bool true, .bool false, .int .i64 p.off, .int .i64 p.ttl, .int .i64 p.proto, .int .u32 p.src, .int .u32 p.dst, .slice oo p.ol oc, .slice ob p.bl bc] 25)) rfl _ _ 23 rfl 5 (.int .u8 0) 1 1 (by kernel_rfl) rfl (by decide) Try.underlying23 (by (exact jkc)) _ _ 16 _ rfl (Hown.out.on (by (exact jkc))) _ 4 4 rfl [_, _, _, _] rfl (built_cells (by simp)) (by simp) (by simp [Value.oneCell']) (by simp only [maxLen]; omega) (by omega) ?_; intro og' cap' os' d' hown' _; have Hn := Lib.hid (own_cast2 hown' (bytesL_four (headB p c) 16 _ _ _ _ (by show _ = p.dst / 65536 / 256; omega) (by show _ = p.dst / 65536 % 256; omega) (by show _ = p.dst % 65536 / 256; omega) (by show _ = p.dst % 256; omega))); clear hown'))
      go_roundw
      case rel => exact ⟨2, og', cap', by omega, rfl, rfl, by (exact jkc), Hn.out⟩
      case measure => simp [intOf]
    · have Hown : Hid (Own _ _ 5 1 og cap 20 (bytesL 20 (headB p c))) := Lib.hid hown
      clear hown
      go_wp2_with (at_builtin; (refine ap_own (W0 := w.alloc (.cells #[.int .i64 p.tos, .int .i64 p.id, .bool true, .bool false, .int .i64 p.off, .int .i64 p.ttl, .int .i64 p.proto, .int .u32 p.src, .int .u32 p.dst, .slice oo p.ol oc, .slice ob p.bl bc] 25)) rfl _ _ 23 rfl 5 (.int .u8 0) 1 1 (by kernel_rfl) rfl (by decide) Try.underlying23 (by (exact jkc)) _ _ 20 _ rfl (Hown.out.on (by (exact jkc))) oo p.ol oc rfl ((List.range p.ol).map fun i => .int .u8 (p.opts i)) (by simp) (HP.out.opts.at_.on (by (exact jkc))).src (fun h => HP.out.opts.nil h) (by simp [Value.oneCell']) (by simp only [maxLen]; omega) (by omega) ?_; intro og' cap' os' d' hown' _; have Hn := Lib.hid (own_cast2 hown' (bytesL_opts p c)); clear hown'))
      go_ret
      exact ⟨_, _, rfl, by (exact jkc), Hn.out.lower (by simp)⟩
set_option maxHeartbeats 1000000 in
theorem rhead_tf (p : Ip) (c : Int) (oo ob : Option Addr) (oc bc : Nat) (w : World) (HP : Hid (IpAt w p oo oc ob bc)) (S N : Nat) (B : Int) (s1 : 0 ≤ p.src) (s2 : p.src ≤ 4294967295) (d1 : 0 ≤ p.dst) (d2 : p.dst ≤ 4294967295)
    (a1 : 0 ≤ p.tos) (a2 : p.tos ≤ 255) (a3 : 0 ≤ p.ttl) (a4 : p.ttl ≤ 255) (a5 : 0 ≤ p.proto) (a6 : p.proto ≤ 255) (a7 : 0 ≤ p.id) (a8 : p.id ≤ 65535) (a9 : 0 ≤ p.off) (a10 : p.off ≤ 65528) (a11 : p.ol ≤ 40) (c0 : 0 ≤ c) (c1 : c ≤ 65535)
    (e1 : (20 : Int) + (p.ol : Int) = (S : Int)) (e2 : (S : Int) + (p.bl : Int) = (N : Int)) (n1 : 20 ≤ S) (n2 : S ≤ N) (n3 : N ≤ 65535) (n4 : S ≤ 60) (b1 : 0 ≤ B) (b2 : B ≤ 32767)
    (H12 : Hid ([Value.int .u8 (64 + (S : Int) / 4), .int .u8 p.tos, .int .u8 ((N : Int) / 256), .int .u8 ((N : Int) % 256), .int .u8 (p.id / 256), .int .u8 (p.id % 256), .int .u8 (B / 256), .int .u8 (B % 256), .int .u8 p.ttl, .int .u8 p.proto, .int .u8 (c / 256), .int .u8 (c % 256)] = bytesL 12 (headB p c))) (hb : p.off / 8 + 8192 = B) :
    Calls Try.prog 34 #[.agg #[.int .i64 p.tos, .int .i64 p.id, .bool false, .bool true, .int .i64 p.off, .int .i64 p.ttl, .int .i64 p.proto, .int .u32 p.src, .int .u32 p.dst, .slice oo p.ol oc, .slice ob p.bl bc], .int .i64 c] w (HeadM w p c) := by
  have i0 : ∀ w, (Instr.index 92 (.agg #[.int .u32 p.src, .int .u32 p.dst]) (.int .i64 0)).run Try.prog w = .ok (.int .u32 p.src) w := fun _ => by kernel_rfl
  have i1 : ∀ w, (Instr.index 92 (.agg #[.int .u32 p.src, .int .u32 p.dst]) (.int .i64 1)).run Try.prog w = .ok (.int .u32 p.dst) w := fun _ => by kernel_rfl
  go_enter Try.func34, Try.ntmps34
  go_wp2
  try simp only [hb]
  go_loopw [8, 10, 76] (fun v a i wr => ∃ (k : Nat) (og : Option Addr) (cap : Nat), k ≤ 2 ∧ i = .int .i64 k ∧ v = .slice og (12 + 4 * k) cap ∧ Junk (w.alloc (.cells #[.int .i64 p.tos, .int .i64 p.id, .bool false, .bool true, .int .i64 p.off, .int .i64 p.ttl, .int .i64 p.proto, .int .u32 p.src, .int .u32 p.dst, .slice oo p.ol oc, .slice ob p.bl bc] 25)) wr ∧ Own (w.alloc (.cells #[.int .i64 p.tos, .int .i64 p.id, .bool false, .bool true, .int .i64 p.off, .int .i64 p.ttl, .int .i64 p.proto, .int .u32 p.src, .int .u32 p.dst, .slice oo p.ol oc, .slice ob p.bl bc] 25)).heap.size wr 5 1 og cap (12 + 4 * k) (bytesL (12 + 4 * k) (headB p c))) (fun _ _ i _ => 2 - (intOf i).toNat)
  case atStart => exact ⟨0, _, 12, by omega, rfl, rfl, by (exact jkc), own_cast2 (own_lit _ _ _ _ _ (by simp) (by simp) rfl (by decide)) H12.out⟩
  case round =>
    obtain ⟨k, og, cap, hk, rfl, rfl, ⟨os, d, rfl⟩, hown⟩ := hrel
    rcases (show k = 0 ∨ k = 1 ∨ k = 2 by omega) with rfl | rfl | rfl
    · have Hown : Hid (Own _ _ 5 1 og cap 12 (bytesL 12 (headB p c))) := Lib.hid hown
      clear hown
      go_wp2_with (at_builtin; (refine ap_own (W0 := w.alloc (.cells #[.int .i64 p.tos, .int .i64 p.id, .bool false, .bool true, .int .i64 p.off, .int .i64 p.ttl, .int .i64 p.proto, .int .u32 p.src, .int .u32 p.dst, .slice oo p.ol oc, .slice ob p.bl bc] 25)) rfl _ _ 23 rfl 5 (.int .u8 0) 1 1 (by kernel_rfl) rfl (by decide) Try.underlying23 (by (exact jkc)) _ _ 12 _ rfl (Hown.out.on (by (exact jkc))) _ 4 4 rfl [_, _, _, _] rfl (built_cells (by simp)) (by simp) (by simp [Value.oneCell']) (by simp only [maxLen]; omega) (by omega) ?_; intro og' cap' os' d' hown' _; have Hn := Lib.hid (own_cast2 hown' (bytesL_four (headB p c) 12 _ _ _ _ (by show _ = p.src / 65536 / 256; omega) (by show _ = p.src / 65536 % 256; omega) (by show _ = p.src % 65536 / 256; omega) (by show _ = p.src % 256; omega))); clear hown'))
      go_roundw
      case rel => exact ⟨1, og', cap', by omega, rfl, rfl, by (exact jkc), Hn.out⟩
      case measure => simp [intOf]
    · have Hown : Hid (Own _ _ 5 1 og cap 16 (bytesL 16 (headB p c))) := Lib.hid hown
      clear hown
      go_wp2_with (at_builtin; (refine ap_own (W0 := w.alloc (.cells #[.int .i64 p.tos, .int .i64 p.id, .bool false, .bool true, .int .i64 p.off, .int .i64 p.ttl, .int .i64 p.proto, .int .u32 p.src, .int .u32 p.dst, .slice oo p.ol oc, .slice ob p.bl bc] 25)) rfl _ _ 23 rfl 5 (.int .u8 0) 1 1 (by kernel_rfl) rfl (by decide) Try.underlying23 (by (exact jkc)) _ _ 16 _ rfl (Hown.out.on (by (exact jkc))) _ 4 4 rfl [_, _, _, _] rfl (built_cells (by simp)) (by simp) (by simp [Value.oneCell']) (by simp only [maxLen]; omega) (by omega) ?_; intro og' cap' os' d' hown' _; have Hn := Lib.hid (own_cast2 hown' (bytesL_four (headB p c) 16 _ _ _ _ (by show _ = p.dst / 65536 / 256; omega) (by show _ = p.dst / 65536 % 256; omega) (by show _ = p.dst % 65536 / 256; omega) (by show _ = p.dst % 256; omega))); clear hown'))
      go_roundw
      case rel => exact ⟨2, og', cap', by omega, rfl, rfl, by (exact jkc), Hn.out⟩
      case measure => simp [intOf]
    · have Hown : Hid (Own _ _ 5 1 og cap 20 (bytesL 20 (headB p c))) := Lib.hid hown
      clear hown
      go_wp2_with (at_builtin; (refine ap_own (W0 := w.alloc (.cells #[.int .i64 p.tos, .int .i64 p.id, .bool false, .bool true, .int .i64 p.off, .int .i64 p.ttl, .int .i64 p.proto, .int .u32 p.src, .int .u32 p.dst, .slice oo p.ol oc, .slice ob p.bl bc] 25)) rfl _ _ 23 rfl 5 (.int .u8 0) 1 1 (by kernel_rfl) rfl (by decide) Try.underlying23 (by (exact jkc)) _ _ 20 _ rfl (Hown.out.on (by (exact jkc))) oo p.ol oc rfl ((List.range p.ol).map fun i => .int .u8 (p.opts i)) (by simp) (HP.out.opts.at_.on (by (exact jkc))).src (fun h => HP.out.opts.nil h) (by simp [Value.oneCell']) (by simp only [maxLen]; omega) (by omega) ?_; intro og' cap' os' d' hown' _; have Hn := Lib.hid (own_cast2 hown' (bytesL_opts p c)); clear hown'))
      go_ret
      exact ⟨_, _, rfl, by (exact jkc), Hn.out.lower (by simp)⟩
set_option maxHeartbeats 1000000 in
theorem rhead_tt (p : Ip) (c : Int) (oo ob : Option Addr) (oc bc : Nat) (w : World) (HP : Hid (IpAt w p oo oc ob bc)) (S N : Nat) (B : Int) (s1 : 0 ≤ p.src) (s2 : p.src ≤ 4294967295) (d1 : 0 ≤ p.dst) (d2 : p.dst ≤ 4294967295)
    (a1 : 0 ≤ p.tos) (a2 : p.tos ≤ 255) (a3 : 0 ≤ p.ttl) (a4 : p.ttl ≤ 255) (a5 : 0 ≤ p.proto) (a6 : p.proto ≤ 255) (a7 : 0 ≤ p.id) (a8 : p.id ≤ 65535) (a9 : 0 ≤ p.off) (a10 : p.off ≤ 65528) (a11 : p.ol ≤ 40) (c0 : 0 ≤ c) (c1 : c ≤ 65535)
    (e1 : (20 : Int) + (p.ol : Int) = (S : Int)) (e2 : (S : Int) + (p.bl : Int) = (N : Int)) (n1 : 20 ≤ S) (n2 : S ≤ N) (n3 : N ≤ 65535) (n4 : S ≤ 60) (b1 : 0 ≤ B) (b2 : B ≤ 32767)
    (H12 : Hid ([Value.int .u8 (64 + (S : Int) / 4), .int .u8 p.tos, .int .u8 ((N : Int) / 256), .int .u8 ((N : Int) % 256), .int .u8 (p.id / 256), .int .u8 (p.id % 256), .int .u8 (B / 256), .int .u8 (B % 256), .int .u8 p.ttl, .int .u8 p.proto, .int .u8 (c / 256), .int .u8 (c % 256)] = bytesL 12 (headB p c))) (hb : p.off / 8 + 8192 + 16384 = B) :
    Calls Try.prog 34 #[.agg #[.int .i64 p.tos, .int .i64 p.id, .bool true, .bool true, .int .i64 p.off, .int .i64 p.ttl, .int .i64 p.proto, .int .u32 p.src, .int .u32 p.dst, .slice oo p.ol oc, .slice ob p.bl bc], .int .i64 c] w (HeadM w p c) := by
  have i0 : ∀ w, (Instr.index 92 (.agg #[.int .u32 p.src, .int .u32 p.dst]) (.int .i64 0)).run Try.prog w = .ok (.int .u32 p.src) w := fun _ => by kernel_rfl
  have i1 : ∀ w, (Instr.index 92 (.agg #[.int .u32 p.src, .int .u32 p.dst]) (.int .i64 1)).run Try.prog w = .ok (.int .u32 p.dst) w := fun _ => by kernel_rfl
  go_enter Try.func34, Try.ntmps34
  go_wp2
  try simp only [hb]
  go_loopw [8, 10, 76] (fun v a i wr => ∃ (k : Nat) (og : Option Addr) (cap : Nat), k ≤ 2 ∧ i = .int .i64 k ∧ v = .slice og (12 + 4 * k) cap ∧ Junk (w.alloc (.cells #[.int .i64 p.tos, .int .i64 p.id, .bool true, .bool true, .int .i64 p.off, .int .i64 p.ttl, .int .i64 p.proto, .int .u32 p.src, .int .u32 p.dst, .slice oo p.ol oc, .slice ob p.bl bc] 25)) wr ∧ Own (w.alloc (.cells #[.int .i64 p.tos, .int .i64 p.id, .bool true, .bool true, .int .i64 p.off, .int .i64 p.ttl, .int .i64 p.proto, .int .u32 p.src, .int .u32 p.dst, .slice oo p.ol oc, .slice ob p.bl bc] 25)).heap.size wr 5 1 og cap (12 + 4 * k) (bytesL (12 + 4 * k) (headB p c))) (fun _ _ i _ => 2 - (intOf i).toNat)
  case atStart => exact ⟨0, _, 12, by omega, rfl, rfl, by (exact jkc), own_cast2 (own_lit _ _ _ _ _ (by simp) (by simp) rfl (by decide)) H12.out⟩
  case round =>
    obtain ⟨k, og, cap, hk, rfl, rfl, ⟨os, d, rfl⟩, hown⟩ := hrel
    rcases (show k = 0 ∨ k = 1 ∨ k = 2 by omega) with rfl | rfl | rfl
    · have Hown : Hid (Own _ _ 5 1 og cap 12 (bytesL 12 (headB p c))) := Lib.hid hown
      clear hown
      go_wp2_with (at_builtin; (refine ap_own (W0 := w.alloc (.cells #[.int .i64 p.tos, .int .i64 p.id, .bool true, .bool true, .int .i64 p.off, .int .i64 p.ttl, .int .i64 p.proto, .int .u32 p.src, .int .u32 p.dst, .slice oo p.ol oc, .slice ob p.bl bc] 25)) rfl _ _ 23 rfl 5 (.int .u8 0) 1 1 (by kernel_rfl) rfl (by decide) Try.underlying23 (by (exact jkc)) _ _ 12 _ rfl (Hown.out.on (by (exact jkc))) _ 4 4 rfl [_, _, _, _] rfl (built_cells (by simp)) (by simp) (by simp [Value.oneCell']) (by simp only [maxLen]; omega) (by omega) ?_; intro og' cap' os' d' hown' _; have Hn := Lib.hid (own_cast2 hown' (bytesL_four (headB p c) 12 _ _ _ _ (by show _ = p.src / 65536 / 256; omega) (by show _ = p.src / 65536 % 256; omega) (by show _ = p.src % 65536 / 256; omega) (by show _ = p.src % 256; omega))); clear hown'))
      go_roundw
      case rel => exact ⟨1, og', cap', by omega, rfl, rfl, by (exact jkc), Hn.out⟩
      case measure => simp [intOf]
    · have Hown : Hid (Own _ _ 5 1 og cap 16 (bytesL 16 (headB p c))) := Lib.hid hown
      clear hown
      go_wp2_with (at_builtin; (refine ap_own (W0 := w.alloc (.cells #[.int .i64 p.tos, .int .i64 p.id, .bool true, .bool true, .int .i64 p.off, .int .i64 p.ttl, .int .i64 p.proto, .int .u32 p.src, .int .u32 p.dst, .slice oo p.ol oc, .slice ob p.bl bc] 25)) rfl _ _ 23 rfl 5 (.int .u8 0) 1 1 (by kernel_rfl) rfl (by decide) Try.underlying23 (by (exact jkc)) _ _ 16 _ rfl (Hown.out.on (by (exact jkc))) _ 4 4 rfl [_, _, _, _] rfl (built_cells (by simp)) (by simp) (by simp [Value.oneCell']) (by simp only [maxLen]; omega) (by omega) ?_; intro og' cap' os' d' hown' _; have Hn := Lib.hid (own_cast2 hown' (bytesL_four (headB p c) 16 _ _ _ _ (by show _ = p.dst / 65536 / 256; omega) (by show _ = p.dst / 65536 % 256; omega) (by show _ = p.dst % 65536 / 256; omega) (by show _ = p.dst % 256; omega))); clear hown'))
      go_roundw
      case rel => exact ⟨2, og', cap', by omega, rfl, rfl, by (exact jkc), Hn.out⟩
      case measure => simp [intOf]
    · have Hown : Hid (Own _ _ 5 1 og cap 20 (bytesL 20 (headB p c))) := Lib.hid hown
      clear hown
      go_wp2_with (at_builtin; (refine ap_own (W0 := w.alloc (.cells #[.int .i64 p.tos, .int .i64 p.id, .bool true, .bool true, .int .i64 p.off, .int .i64 p.ttl, .int .i64 p.proto, .int .u32 p.src, .int .u32 p.dst, .slice oo p.ol oc, .slice ob p.bl bc] 25)) rfl _ _ 23 rfl 5 (.int .u8 0) 1 1 (by kernel_rfl) rfl (by decide) Try.underlying23 (by (exact jkc)) _ _ 20 _ rfl (Hown.out.on (by (exact jkc))) oo p.ol oc rfl ((List.range p.ol).map fun i => .int .u8 (p.opts i)) (by simp) (HP.out.opts.at_.on (by (exact jkc))).src (fun h => HP.out.opts.nil h) (by simp [Value.oneCell']) (by simp only [maxLen]; omega) (by omega) ?_; intro og' cap' os' d' hown' _; have Hn := Lib.hid (own_cast2 hown' (bytesL_opts p c)); clear hown'))
      go_ret
      exact ⟨_, _, rfl, by (exact jkc), Hn.out.lower (by simp)⟩
set_option maxHeartbeats 2000000 in
theorem rhd_any (p : Ip) (c : Int) (oo ob : Option Addr) (oc bc : Nat) (w : World) (hH : HeadP p) (c0 : 0 ≤ c) (c1 : c ≤ 65535) (hP : IpAt w p oo oc ob bc) :
    Calls Try.prog 34 #[.agg #[.int .i64 p.tos, .int .i64 p.id, .bool p.df, .bool p.mf, .int .i64 p.off, .int .i64 p.ttl, .int .i64 p.proto, .int .u32 p.src, .int .u32 p.dst, .slice oo p.ol oc, .slice ob p.bl bc], .int .i64 c] w (HeadM w p c) := by
  have HP := Lib.hid hP
  obtain ⟨s1, s2⟩ := hP.src
  obtain ⟨d1, d2⟩ := hP.dst
  clear hP
  obtain ⟨⟨a1, a2⟩, ⟨a3, a4⟩, ⟨a5, a6⟩, ⟨a7, a8⟩, ⟨a9, a10⟩, a11, a12⟩ := hH
  obtain ⟨S, hS⟩ : ∃ S, S = 20 + p.ol := ⟨_, rfl⟩
  obtain ⟨N, hN⟩ : ∃ N, N = S + p.bl := ⟨_, rfl⟩
  obtain ⟨B, hB⟩ : ∃ B, B = bitsI p := ⟨_, rfl⟩
  have e1 : (20 : Int) + (p.ol : Int) = (S : Int) := by omega
  have e2 : (S : Int) + (p.bl : Int) = (N : Int) := by omega
  have n1 : 20 ≤ S := by omega
  have n2 : S ≤ N := by omega
  have n3 : N ≤ 65535 := by omega
  have n4 : S ≤ 60 := by omega
  obtain ⟨b1, b2⟩ := bitsI_bd (p := p) a9 a10
  rw [← hB] at b1 b2
  have H12 := Lib.hid (head12 p c S N B hS hN hB)
  have hB4 : (p.mf = false → p.df = false → p.off / 8 = B) ∧ (p.mf = true → p.df = false → p.off / 8 + 8192 = B) ∧ (p.mf = false → p.df = true → p.off / 8 + 16384 = B) ∧ (p.mf = true → p.df = true → p.off / 8 + 8192 + 16384 = B) := by
    refine ⟨fun x y => ?_, fun x y => ?_, fun x y => ?_, fun x y => ?_⟩ <;> (rw [hB]; simp [bitsI, x, y]; try omega)
  obtain ⟨q0, q1, q2, q3⟩ := hB4
  cases hm : p.mf <;> cases hd : p.df
  · exact rhead_ff p c oo ob oc bc w HP S N B s1 s2 d1 d2 a1 a2 a3 a4 a5 a6 a7 a8 a9 a10 a11 c0 c1 e1 e2 n1 n2 n3 n4 b1 b2 H12 (q0 hm hd)
  · exact rhead_ft p c oo ob oc bc w HP S N B s1 s2 d1 d2 a1 a2 a3 a4 a5 a6 a7 a8 a9 a10 a11 c0 c1 e1 e2 n1 n2 n3 n4 b1 b2 H12 (q2 hm hd)
  · exact rhead_tf p c oo ob oc bc w HP S N B s1 s2 d1 d2 a1 a2 a3 a4 a5 a6 a7 a8 a9 a10 a11 c0 c1 e1 e2 n1 n2 n3 n4 b1 b2 H12 (q1 hm hd)
  · exact rhead_tt p c oo ob oc bc w HP S N B s1 s2 d1 d2 a1 a2 a3 a4 a5 a6 a7 a8 a9 a10 a11 c0 c1 e1 e2 n1 n2 n3 n4 b1 b2 H12 (q3 hm hd)
end Go.Proofs.Ytgjppmkadmfibaa
