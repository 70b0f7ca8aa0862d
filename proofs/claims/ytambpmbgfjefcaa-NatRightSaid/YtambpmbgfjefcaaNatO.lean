/- The reference of layer 17: Who, Whose, Tick. -/
import Derived.Test.YtambpmbgfjefcaaNatL
set_option linter.unusedVariables false
set_option maxRecDepth 100000
set_option linter.unusedSimpArgs false
namespace Go.Proofs.Ytambpmbgfjefcaa
open Go.RowKit
theorem beq_sw2 (x y : Int) : (x == y) = (y == x) := by rw [Bool.eq_iff_iff]; simp; exact eq_comm
theorem whoP_hit {L : List Ln} {k : Nat} {y : Ln} {proto port : Int} (h : ∀ j, j < k → ∀ z, L[j]? = some z → outerB ⟨proto, 0, 0, port, 0⟩ z = false) (hy : L[k]? = some y) (hp : outerB ⟨proto, 0, 0, port, 0⟩ y = true) : whoP L proto port = (y, true) := by
  unfold whoP
  rw [findIdx_at h hy hp]
  show ((L[k]?.getD Ln.zero, true) : Ln × Bool) = _
  rw [hy]
  rfl
theorem whoP_no {L : List Ln} {proto port : Int} (h : ∀ j, j < L.length → ∀ z, L[j]? = some z → outerB ⟨proto, 0, 0, port, 0⟩ z = false) : whoP L proto port = (Ln.zero, false) := by
  unfold whoP
  rw [findIdx_no h]
  rfl
theorem whoseP_hit {L : List Ln} {k : Nat} {y : Ln} {proto inn inport : Int} (h : ∀ j, j < k → ∀ z, L[j]? = some z → innerB ⟨proto, inn, inport, 0, 0⟩ z = false) (hy : L[k]? = some y) (hp : innerB ⟨proto, inn, inport, 0, 0⟩ y = true) : whoseP L proto inn inport = (y, true) := by
  unfold whoseP
  rw [findIdx_at h hy hp]
  show ((L[k]?.getD Ln.zero, true) : Ln × Bool) = _
  rw [hy]
  rfl
theorem whoseP_no {L : List Ln} {proto inn inport : Int} (h : ∀ j, j < L.length → ∀ z, L[j]? = some z → innerB ⟨proto, inn, inport, 0, 0⟩ z = false) : whoseP L proto inn inport = (Ln.zero, false) := by
  unfold whoseP
  rw [findIdx_no h]
  rfl
set_option maxHeartbeats 2000000 in
theorem rwho_any (proto port : Int) (oa : Option Addr) (l c : Nat) (L : List Ln) (w : World) (hl : l ≤ 1000000) (hL : L.length = l) (hS : LsAt w oa L) :
    Calls Try.prog 25 #[.slice oa l c, .int .i64 proto, .int .i64 port] w fun e w' => e = .returned (.tuple #[(whoP L proto port).1.val, .bool (whoP L proto port).2]) ∧ Junk w w' := by
  have HS := Lib.hid hS
  have HL := Lib.hid hL
  clear hS hL
  obtain ⟨R, hR⟩ : ∃ R, R = whoP L proto port := ⟨_, rfl⟩
  have HR := Lib.hid hR
  rw [← hR]
  clear hR
  go_enter Try.func25, Try.ntmps25
  go_wp2
  go_loopw [8] (fun i wr => ∃ k : Nat, i = .int .i64 (k : Int) ∧ wr = (w.alloc (.cells #[.int .i64 0, .int .u32 0, .int .i64 0, .int .i64 0, .int .i64 0] 39)) ∧ k ≤ l ∧ Hid (∀ j, j < k → ∀ z, L[j]? = some z → outerB ⟨proto, 0, 0, port, 0⟩ z = false)) (fun i _ => l + 1 - (intOf i).toNat)
  case atStart => exact ⟨0, rfl, by first | rfl | trivial, by omega, Lib.hid (fun j hj => by omega)⟩
  case round =>
    obtain ⟨k, rfl, rfl, hk, hN⟩ := hrel
    by_cases hkl : k < l
    case neg =>
      have hk2 : ¬ (k : Int) < (l : Int) := by omega
      obtain rfl : k = l := by omega
      have HE := Lib.hid (show R = (Ln.zero, false) by rw [HR.out]; exact whoP_no (by rw [HL.out]; exact hN.out))
      go_wp2
      go_returns
      exact ⟨by rw [HE.out] <;> rfl, by ((try simp only [World.junk_junk, Array.append_assoc]); (repeat (first | with_reducible exact Junk.refl _ | with_reducible exact Junk.app _ _ _ _ _ | with_reducible exact Junk.app2 _ _ _ _ _ _ | with_reducible exact Junk.app3 _ _ _ _ _ _ _ | with_reducible exact Junk.app4 _ _ _ _ _ _ _ _ | with_reducible exact Junk.app5 _ _ _ _ _ _ _ _ _ | with_reducible apply Junk.alloc | with_reducible apply Junk.junk | with_reducible apply Junk.drew | with_reducible apply Junk.drewN)))⟩
    have hk2 : (k : Int) < (l : Int) := by omega
    obtain ⟨y, hy⟩ : ∃ y, L[k]? = some y := ⟨_, List.getElem?_eq_getElem (by rw [HL.out]; exact hkl)⟩
    obtain ⟨b, off, rfl, hb, c0, c1, c2, c3, c4⟩ := HS.out k y hy
    have HY := Lib.hid hy
    clear hy
    have HNX := Lib.hid (fun (h : outerB ⟨proto, 0, 0, port, 0⟩ y = false) => show ∀ j, j < k + 1 → ∀ z, L[j]? = some z → outerB ⟨proto, 0, 0, port, 0⟩ z = false from fun j hj z hz => by
      by_cases h0 : j = k
      · subst h0; rw [HY.out] at hz; cases hz; exact h
      · exact hN.out j (by omega) z hz)
    have HHIT := Lib.hid (fun (h : outerB ⟨proto, 0, 0, port, 0⟩ y = true) => show R = (y, true) by rw [HR.out]; exact whoP_hit hN.out HY.out h)
    obtain ⟨yp, yi, yn, yo, yt⟩ := y
    dsimp only at c0 c1 c2 c3 c4
    cases e1 : yp == proto with
    | false =>
      have HN2 := Lib.hid (HNX.out (by simp only [outerB]; rw [beq_sw2 proto yp, e1]; rfl))
      go_wp2
      exact ⟨⟨k + 1, by go_num, by first | rfl | trivial, by omega, HN2⟩, by simp [intOf]; omega⟩
    | true =>
    cases e2 : yo == port with
    | false =>
      have HN2 := Lib.hid (HNX.out (by simp only [outerB]; rw [beq_sw2 proto yp, e1, beq_sw2 port yo, e2]; rfl))
      go_wp2
      exact ⟨⟨k + 1, by go_num, by first | rfl | trivial, by omega, HN2⟩, by simp [intOf]; omega⟩
    | true =>
      have HE := Lib.hid (HHIT.out (by simp only [outerB]; rw [beq_sw2 proto yp, e1, beq_sw2 port yo, e2]; rfl))
      go_wp2
      go_returns
      exact ⟨by rw [HE.out] <;> rfl, by ((try simp only [World.junk_junk, Array.append_assoc]); (repeat (first | with_reducible exact Junk.refl _ | with_reducible exact Junk.app _ _ _ _ _ | with_reducible exact Junk.app2 _ _ _ _ _ _ | with_reducible exact Junk.app3 _ _ _ _ _ _ _ | with_reducible exact Junk.app4 _ _ _ _ _ _ _ _ | with_reducible exact Junk.app5 _ _ _ _ _ _ _ _ _ | with_reducible apply Junk.alloc | with_reducible apply Junk.junk | with_reducible apply Junk.drew | with_reducible apply Junk.drewN)))⟩
set_option maxHeartbeats 2000000 in
theorem rwhose_any (proto inn inport : Int) (oa : Option Addr) (l c : Nat) (L : List Ln) (w : World) (hl : l ≤ 1000000) (hL : L.length = l) (hS : LsAt w oa L) :
    Calls Try.prog 27 #[.slice oa l c, .int .i64 proto, .int .u32 inn, .int .i64 inport] w fun e w' => e = .returned (.tuple #[(whoseP L proto inn inport).1.val, .bool (whoseP L proto inn inport).2]) ∧ Junk w w' := by
  have HS := Lib.hid hS
  have HL := Lib.hid hL
  clear hS hL
  obtain ⟨R, hR⟩ : ∃ R, R = whoseP L proto inn inport := ⟨_, rfl⟩
  have HR := Lib.hid hR
  rw [← hR]
  clear hR
  go_enter Try.func27, Try.ntmps27
  go_wp2
  go_loopw [10] (fun i wr => ∃ k : Nat, i = .int .i64 (k : Int) ∧ wr = (w.alloc (.cells #[.int .i64 0, .int .u32 0, .int .i64 0, .int .i64 0, .int .i64 0] 39)) ∧ k ≤ l ∧ Hid (∀ j, j < k → ∀ z, L[j]? = some z → innerB ⟨proto, inn, inport, 0, 0⟩ z = false)) (fun i _ => l + 1 - (intOf i).toNat)
  case atStart => exact ⟨0, rfl, by first | rfl | trivial, by omega, Lib.hid (fun j hj => by omega)⟩
  case round =>
    obtain ⟨k, rfl, rfl, hk, hN⟩ := hrel
    by_cases hkl : k < l
    case neg =>
      have hk2 : ¬ (k : Int) < (l : Int) := by omega
      obtain rfl : k = l := by omega
      have HE := Lib.hid (show R = (Ln.zero, false) by rw [HR.out]; exact whoseP_no (by rw [HL.out]; exact hN.out))
      go_wp2
      go_returns
      exact ⟨by rw [HE.out] <;> rfl, by ((try simp only [World.junk_junk, Array.append_assoc]); (repeat (first | with_reducible exact Junk.refl _ | with_reducible exact Junk.app _ _ _ _ _ | with_reducible exact Junk.app2 _ _ _ _ _ _ | with_reducible exact Junk.app3 _ _ _ _ _ _ _ | with_reducible exact Junk.app4 _ _ _ _ _ _ _ _ | with_reducible exact Junk.app5 _ _ _ _ _ _ _ _ _ | with_reducible apply Junk.alloc | with_reducible apply Junk.junk | with_reducible apply Junk.drew | with_reducible apply Junk.drewN)))⟩
    have hk2 : (k : Int) < (l : Int) := by omega
    obtain ⟨y, hy⟩ : ∃ y, L[k]? = some y := ⟨_, List.getElem?_eq_getElem (by rw [HL.out]; exact hkl)⟩
    obtain ⟨b, off, rfl, hb, c0, c1, c2, c3, c4⟩ := HS.out k y hy
    have HY := Lib.hid hy
    clear hy
    have HNX := Lib.hid (fun (h : innerB ⟨proto, inn, inport, 0, 0⟩ y = false) => show ∀ j, j < k + 1 → ∀ z, L[j]? = some z → innerB ⟨proto, inn, inport, 0, 0⟩ z = false from fun j hj z hz => by
      by_cases h0 : j = k
      · subst h0; rw [HY.out] at hz; cases hz; exact h
      · exact hN.out j (by omega) z hz)
    have HHIT := Lib.hid (fun (h : innerB ⟨proto, inn, inport, 0, 0⟩ y = true) => show R = (y, true) by rw [HR.out]; exact whoseP_hit hN.out HY.out h)
    obtain ⟨yp, yi, yn, yo, yt⟩ := y
    dsimp only at c0 c1 c2 c3 c4
    cases e1 : yp == proto with
    | false =>
      have HN2 := Lib.hid (HNX.out (by simp only [innerB]; rw [beq_sw2 proto yp, e1]; rfl))
      go_wp2
      exact ⟨⟨k + 1, by go_num, by first | rfl | trivial, by omega, HN2⟩, by simp [intOf]; omega⟩
    | true =>
    cases e2 : yi == inn with
    | false =>
      have HN2 := Lib.hid (HNX.out (by simp only [innerB]; rw [beq_sw2 proto yp, e1, beq_sw2 inn yi, e2]; rfl))
      go_wp2
      exact ⟨⟨k + 1, by go_num, by first | rfl | trivial, by omega, HN2⟩, by simp [intOf]; omega⟩
    | true =>
    cases e3 : yn == inport with
    | false =>
      have HN2 := Lib.hid (HNX.out (by simp only [innerB]; rw [beq_sw2 proto yp, e1, beq_sw2 inn yi, e2, beq_sw2 inport yn, e3]; rfl))
      go_wp2
      exact ⟨⟨k + 1, by go_num, by first | rfl | trivial, by omega, HN2⟩, by simp [intOf]; omega⟩
    | true =>
      have HE := Lib.hid (HHIT.out (by simp only [innerB]; rw [beq_sw2 proto yp, e1, beq_sw2 inn yi, e2, beq_sw2 inport yn, e3]; rfl))
      go_wp2
      go_returns
      exact ⟨by rw [HE.out] <;> rfl, by ((try simp only [World.junk_junk, Array.append_assoc]); (repeat (first | with_reducible exact Junk.refl _ | with_reducible exact Junk.app _ _ _ _ _ | with_reducible exact Junk.app2 _ _ _ _ _ _ | with_reducible exact Junk.app3 _ _ _ _ _ _ _ | with_reducible exact Junk.app4 _ _ _ _ _ _ _ _ | with_reducible exact Junk.app5 _ _ _ _ _ _ _ _ _ | with_reducible apply Junk.alloc | with_reducible apply Junk.junk | with_reducible apply Junk.drew | with_reducible apply Junk.drewN)))⟩
theorem tickL_yes {L : List Ln} {k : Nat} {x : Ln} {now : Int} (hx : L[k]? = some x) (hp : now < x.till) : tickL (L.take k) now ++ [x] = tickL (L.take (k + 1)) now := by
  rw [take_succ' hx]
  unfold tickL
  rw [List.filter_append]
  have : ¬ x.till ≤ now := by omega
  simp [List.filter, this]
theorem tickL_no {L : List Ln} {k : Nat} {x : Ln} {now : Int} (hx : L[k]? = some x) (hp : ¬ now < x.till) : tickL (L.take k) now = tickL (L.take (k + 1)) now := by
  rw [take_succ' hx]
  unfold tickL
  rw [List.filter_append]
  have : x.till ≤ now := by omega
  simp [List.filter, this]
set_option maxHeartbeats 2000000 in
theorem rtick_any (now : Int) (oa : Option Addr) (l c : Nat) (L : List Ln) (w : World) (hl : l ≤ 1000000) (hL : L.length = l) (hS : LsAt w oa L) :
    Calls Try.prog 29 #[.slice oa l c, .int .i64 now] w (TickM w L now) := by
  have HS := Lib.hid hS
  have HL := Lib.hid hL
  obtain ⟨T, hT⟩ : ∃ T, T = tickL L now := ⟨_, rfl⟩
  have HT := Lib.hid hT
  clear hS hL hT
  unfold TickM
  rw [← HT.out]
  go_enter Try.func29, Try.ntmps29
  go_wp2
  go_loopw [6, 7] (fun v i wr => ∃ (k n : Nat) (M : List Ln) (ob : Option Addr) (cap : Nat), v = .slice ob n cap ∧ i = .int .i64 (k : Int) ∧ Junk w wr ∧ Own w.heap.size wr 39 5 ob cap n (lnsL M) ∧ Hid (M = tickL (L.take k) now) ∧ n ≤ k ∧ k ≤ l) (fun _ i _ => l + 1 - (intOf i).toNat)
  case atStart => exact ⟨0, 0, [], none, 0, rfl, rfl, by ((try simp only [World.junk_junk, Array.append_assoc]); (repeat (first | with_reducible exact Junk.refl _ | with_reducible exact Junk.app _ _ _ _ _ | with_reducible exact Junk.app2 _ _ _ _ _ _ | with_reducible exact Junk.app3 _ _ _ _ _ _ _ | with_reducible exact Junk.app4 _ _ _ _ _ _ _ _ | with_reducible exact Junk.app5 _ _ _ _ _ _ _ _ _ | with_reducible apply Junk.alloc | with_reducible apply Junk.junk | with_reducible apply Junk.drew | with_reducible apply Junk.drewN))), Own.nil _ _ _ _, Lib.hid (by simp [tickL]), by omega, by omega⟩
  case round =>
    obtain ⟨k, n, M, ob, cap, rfl, rfl, ⟨os, d, rfl⟩, hown, hM, hnk, hk⟩ := hrel
    have Hown := Lib.hid hown
    clear hown
    by_cases hkl : k < l
    · have hk2 : (k : Int) < (l : Int) := by omega
      obtain ⟨x, hx⟩ : ∃ x, L[k]? = some x := ⟨_, List.getElem?_eq_getElem (by rw [HL.out]; exact hkl)⟩
      obtain ⟨b, off, rfl, hb, c0, c1, c2, c3, c4⟩ := HS.out k x hx
      have HX := Lib.hid hx
      clear hx
      by_cases hp : now < x.till
      · have HM2 := Lib.hid (show M ++ [x] = tickL (L.take (k + 1)) now by rw [hM.out]; exact tickL_yes HX.out hp)
        go_wp2_with (at_builtin; (refine ap_own (W0 := w) rfl _ _ 37 rfl 39 (.agg #[.int .i64 0, .int .u32 0, .int .i64 0, .int .i64 0, .int .i64 0]) 5 40 (by kernel_rfl) rfl (by decide) Try.underlying37 (by ((try simp only [World.junk_junk, Array.append_assoc]); (repeat (first | with_reducible exact Junk.refl _ | with_reducible exact Junk.app _ _ _ _ _ | with_reducible exact Junk.app2 _ _ _ _ _ _ | with_reducible exact Junk.app3 _ _ _ _ _ _ _ | with_reducible exact Junk.app4 _ _ _ _ _ _ _ _ | with_reducible exact Junk.app5 _ _ _ _ _ _ _ _ _ | with_reducible apply Junk.alloc | with_reducible apply Junk.junk | with_reducible apply Junk.drew | with_reducible apply Junk.drewN)))) ob cap n (lnsL M) rfl (Hown.out.on (by ((try simp only [World.junk_junk, Array.append_assoc]); (repeat (first | with_reducible exact Junk.refl _ | with_reducible exact Junk.app _ _ _ _ _ | with_reducible exact Junk.app2 _ _ _ _ _ _ | with_reducible exact Junk.app3 _ _ _ _ _ _ _ | with_reducible exact Junk.app4 _ _ _ _ _ _ _ _ | with_reducible exact Junk.app5 _ _ _ _ _ _ _ _ _ | with_reducible apply Junk.alloc | with_reducible apply Junk.junk | with_reducible apply Junk.drew | with_reducible apply Junk.drewN))))) _ 1 1 rfl (Ln.cells x) rfl (built_cells (by simp)) (fun h => by cases h) (Ln.one _) (by simp only [maxLen]; omega) (by omega) ?_; intro oa' cap' os' d' hown' _; rw [lnsL_one] at hown'; have Hown2 := Lib.hid hown'; clear hown'))
        exact ⟨⟨k + 1, n + 1, M ++ [x], oa', cap', rfl, by go_num, by ((try simp only [World.junk_junk, Array.append_assoc]); (repeat (first | with_reducible exact Junk.refl _ | with_reducible exact Junk.app _ _ _ _ _ | with_reducible exact Junk.app2 _ _ _ _ _ _ | with_reducible exact Junk.app3 _ _ _ _ _ _ _ | with_reducible exact Junk.app4 _ _ _ _ _ _ _ _ | with_reducible exact Junk.app5 _ _ _ _ _ _ _ _ _ | with_reducible apply Junk.alloc | with_reducible apply Junk.junk | with_reducible apply Junk.drew | with_reducible apply Junk.drewN))), Hown2.out, HM2, by omega, by omega⟩, by simp [intOf]; omega⟩
      · have HM2 := Lib.hid (show M = tickL (L.take (k + 1)) now by rw [hM.out]; exact tickL_no HX.out hp)
        go_wp2
        exact ⟨⟨k + 1, n, M, ob, cap, rfl, by go_num, by ((try simp only [World.junk_junk, Array.append_assoc]); (repeat (first | with_reducible exact Junk.refl _ | with_reducible exact Junk.app _ _ _ _ _ | with_reducible exact Junk.app2 _ _ _ _ _ _ | with_reducible exact Junk.app3 _ _ _ _ _ _ _ | with_reducible exact Junk.app4 _ _ _ _ _ _ _ _ | with_reducible exact Junk.app5 _ _ _ _ _ _ _ _ _ | with_reducible apply Junk.alloc | with_reducible apply Junk.junk | with_reducible apply Junk.drew | with_reducible apply Junk.drewN))), Hown.out.on (by ((try simp only [World.junk_junk, Array.append_assoc]); (repeat (first | with_reducible exact Junk.refl _ | with_reducible exact Junk.app _ _ _ _ _ | with_reducible exact Junk.app2 _ _ _ _ _ _ | with_reducible exact Junk.app3 _ _ _ _ _ _ _ | with_reducible exact Junk.app4 _ _ _ _ _ _ _ _ | with_reducible exact Junk.app5 _ _ _ _ _ _ _ _ _ | with_reducible apply Junk.alloc | with_reducible apply Junk.junk | with_reducible apply Junk.drew | with_reducible apply Junk.drewN)))), HM2, by omega, by omega⟩, by simp [intOf]; omega⟩
    · have hk2 : ¬ (k : Int) < (l : Int) := by omega
      obtain rfl : k = l := by omega
      have HE := Lib.hid (show T = M by rw [hM.out, ← HL.out, List.take_length, HT.out])
      have HN := Lib.hid (show n = M.length by have := Hown.out.len; rw [lnsL_len] at this; omega)
      have hsub : (k : Int) - (n : Int) = ((k - n : Nat) : Int) := by omega
      go_wp2
      go_returns
      exact ⟨ob, cap, by rw [HE.out, ← HN.out, HL.out]; rfl, by ((try simp only [World.junk_junk, Array.append_assoc]); (repeat (first | with_reducible exact Junk.refl _ | with_reducible exact Junk.app _ _ _ _ _ | with_reducible exact Junk.app2 _ _ _ _ _ _ | with_reducible exact Junk.app3 _ _ _ _ _ _ _ | with_reducible exact Junk.app4 _ _ _ _ _ _ _ _ | with_reducible exact Junk.app5 _ _ _ _ _ _ _ _ _ | with_reducible apply Junk.alloc | with_reducible apply Junk.junk | with_reducible apply Junk.drew | with_reducible apply Junk.drewN))), by rw [HE.out, ← HN.out]; exact Hown.out⟩
end Go.Proofs.Ytambpmbgfjefcaa
