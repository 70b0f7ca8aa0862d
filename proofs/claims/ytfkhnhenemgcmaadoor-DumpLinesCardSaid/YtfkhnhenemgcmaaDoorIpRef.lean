/- The contracts of the reference of layer 3: fits, May, Head, Put. -/
import Derived.Test.YtfkhnhenemgcmaaDoorIpPlain
set_option linter.unusedVariables false
set_option maxRecDepth 100000
set_option linter.unusedSimpArgs false
namespace Go.Proofs.YtfkhnhenemgcmaaDoor
open Go.RowKit
set_option maxHeartbeats 400000 in
theorem rfits_any (p : Ip) (oo ob : Option Addr) (oc bc : Nat) (w : World) (h1 : p.ol ≤ 100000000) (h2 : p.bl ≤ 100000000) (h3 : 0 ≤ p.off) (h4 : p.off ≤ 65528) :
    Calls Tryd.prog 50 #[.agg #[.int .i64 p.tos, .int .i64 p.id, .bool p.df, .bool p.mf, .int .i64 p.off, .int .i64 p.ttl, .int .i64 p.proto, .int .u32 p.src, .int .u32 p.dst, .slice oo p.ol oc, .slice ob p.bl bc]] w fun e w' => e = .returned (.bool (piecesB p)) ∧ Junk w w' := by
  cases hm : p.mf with
  | false =>
    go_enter Tryd.func50, Tryd.ntmps50
    go_wp2
    go_ret
    exact ⟨ret_bool (by simp [piecesB, hm]), by (repeat (first | with_reducible exact Junk.refl _ | with_reducible exact Junk.app _ _ _ _ _ | with_reducible apply Junk.alloc | with_reducible apply Junk.junk | with_reducible apply Junk.drew | with_reducible apply Junk.drewN))⟩
  | true =>
    by_cases h0 : p.bl = 0
    · have e0 : ((p.bl : Int) == 0) = true := by rw [beq_iff_eq]; omega
      have E0 := Lib.hid h0
      clear h0
      go_enter Tryd.func50, Tryd.ntmps50
      go_wp2
      go_ret
      exact ⟨ret_bool (by simp [piecesB, hm, E0.out]), by (repeat (first | with_reducible exact Junk.refl _ | with_reducible exact Junk.app _ _ _ _ _ | with_reducible apply Junk.alloc | with_reducible apply Junk.junk | with_reducible apply Junk.drew | with_reducible apply Junk.drewN))⟩
    · have e0 : ((p.bl : Int) == 0) = false := by rw [beq_eq_false_iff_ne]; omega
      have E0 := Lib.hid h0
      clear h0
      by_cases h8 : p.bl % 8 = 0
      · have e8 : ¬ (0 < (p.bl : Int) % 8) := by omega
        have E8 := Lib.hid h8
        clear h8
        go_enter Tryd.func50, Tryd.ntmps50
        go_wp2
        go_ret
        exact ⟨ret_bool (by simp [piecesB, hm, E0.out, E8.out]), by (repeat (first | with_reducible exact Junk.refl _ | with_reducible exact Junk.app _ _ _ _ _ | with_reducible apply Junk.alloc | with_reducible apply Junk.junk | with_reducible apply Junk.drew | with_reducible apply Junk.drewN))⟩
      · have e8 : 0 < (p.bl : Int) % 8 := by omega
        have E8 := Lib.hid h8
        clear h8
        go_enter Tryd.func50, Tryd.ntmps50
        go_wp2
        go_ret
        exact ⟨ret_bool (by simp [piecesB, hm, E8.out]), by (repeat (first | with_reducible exact Junk.refl _ | with_reducible exact Junk.app _ _ _ _ _ | with_reducible apply Junk.alloc | with_reducible apply Junk.junk | with_reducible apply Junk.drew | with_reducible apply Junk.drewN))⟩
/-- What a head needs. -/
structure HeadP (p : Ip) : Prop where
  tos : 0 ≤ p.tos ∧ p.tos ≤ 255
  ttl : 0 ≤ p.ttl ∧ p.ttl ≤ 255
  proto : 0 ≤ p.proto ∧ p.proto ≤ 255
  id : 0 ≤ p.id ∧ p.id ≤ 65535
  off : 0 ≤ p.off ∧ p.off ≤ 65528
  ol : p.ol ≤ 40
  fit : 20 + p.ol + p.bl ≤ 65535
theorem MayP.head {p : Ip} (h : MayP p) : HeadP p := ⟨h.tos, h.ttl, h.proto, h.id, h.off, h.ol, by have := h.fit; have := h.off; omega⟩
theorem headB_byte2 {p : Ip} {c : Int} (h : HeadP p) (hc : 0 ≤ c ∧ c ≤ 65535) (hs : 0 ≤ p.src ∧ p.src ≤ 4294967295) (hd : 0 ≤ p.dst ∧ p.dst ≤ 4294967295) (ho : ∀ i, i < p.ol → 0 ≤ p.opts i ∧ p.opts i ≤ 255) :
    ∀ i, i < 20 + p.ol → 0 ≤ headB p c i ∧ headB p c i ≤ 255 := by
  intro i hi
  have h1 := h.tos
  have h2 := h.ttl
  have h3 := h.proto
  have h4 := h.id
  have h5 := h.off
  have h6 := h.ol
  have h7 := h.fit
  have h8 := bitsI_bd h5.1 h5.2
  rcases twenty i with rfl | rfl | rfl | rfl | rfl | rfl | rfl | rfl | rfl | rfl | rfl | rfl | rfl | rfl | rfl | rfl | rfl | rfl | rfl | rfl | ⟨k, rfl⟩
  all_goals simp only [headB]
  all_goals first | omega | exact ho k (by omega)
theorem bytesL_four (f : Nat → Int) (n : Nat) (a b c d : Int) (h0 : a = f n) (h1 : b = f (n + 1)) (h2 : c = f (n + 2)) (h3 : d = f (n + 3)) :
    bytesL n f ++ [.int .u8 a, .int .u8 b, .int .u8 c, .int .u8 d] = bytesL (n + 4) f := by
  subst h0 h1 h2 h3
  unfold bytesL
  rw [← range_ext]
  rfl
theorem bytesL_opts (p : Ip) (c : Int) : bytesL 20 (headB p c) ++ ((List.range p.ol).map fun i => .int .u8 (p.opts i)) = bytesL (20 + p.ol) (headB p c) := by
  unfold bytesL
  rw [← range_ext]
  congr 1
  apply List.map_congr_left
  intro i _
  rw [Nat.add_comm]
  rfl
theorem own_cast2 {B : Nat} {w : World} {e : TypeId} {size : Nat} {oa : Option Addr} {cap n : Nat} {a b : List Value} (h : Own B w e size oa cap n a) (hab : a = b) : Own B w e size oa cap n b := hab ▸ h
def HeadM (w : World) (p : Ip) (c : Int) (e : Ending) (w' : World) : Prop :=
  ∃ (ob : Option Addr) (cap : Nat), e = .returned (.slice ob (20 + p.ol) cap) ∧ Junk w w' ∧ Own w.heap.size w' 5 1 ob cap (20 + p.ol) (bytesL (20 + p.ol) (headB p c))
theorem head12 (p : Ip) (c : Int) (S N : Nat) (B : Int) (hS : S = 20 + p.ol) (hN : N = S + p.bl) (hB : B = bitsI p) :
    [Value.int .u8 (64 + (S : Int) / 4), .int .u8 p.tos, .int .u8 ((N : Int) / 256), .int .u8 ((N : Int) % 256), .int .u8 (p.id / 256), .int .u8 (p.id % 256), .int .u8 (B / 256), .int .u8 (B % 256), .int .u8 p.ttl, .int .u8 p.proto, .int .u8 (c / 256), .int .u8 (c % 256)] = bytesL 12 (headB p c) := by
  subst hS hN hB
  simp [bytesL, List.range_succ, headB]
end Go.Proofs.YtfkhnhenemgcmaaDoor
