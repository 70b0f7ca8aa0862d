/- slices.Clone of loans, nat.taken. -/
import Derived.Test.YtambpmbgfjefcaaNatC
set_option linter.unusedVariables false
set_option maxRecDepth 100000
set_option linter.unusedSimpArgs false
namespace Go.Proofs.Ytambpmbgfjefcaa
open Go.RowKit
theorem cloneL_any (oa : Option Addr) (l c : Nat) (L : List Ln) (w : World) (hl : l ≤ 1000000) (hL : L.length = l) (hS : LsAt w oa L) (hn : oa = none → l = 0 ∧ c = 0) :
    Calls Try.prog 39 #[.slice oa l c] w fun e w' => ∃ ob cap, e = .returned (.slice ob l cap) ∧ Junk w w' ∧ Own w.heap.size w' 39 5 ob cap l (lnsL L) := by
  have HS := Lib.hid hS
  have HL := Lib.hid hL
  clear hS hL
  cases oa with
  | none =>
    obtain ⟨rfl, rfl⟩ := hn rfl
    have hne := fun (w : World) => Lib.run_eql_slice_nil (P := Try.prog) w 37 39 none 0 0 0 0 Try.underlying37
    have HE := Lib.hid (show L = [] from List.eq_nil_of_length_eq_zero HL.out)
    go_enter Try.func39, Try.ntmps39
    go_wp2
    go_ret
    exact ⟨none, 0, rfl, by ((try simp only [World.junk_junk, Array.append_assoc]); (repeat (first | with_reducible exact Junk.refl _ | with_reducible exact Junk.app _ _ _ _ _ | with_reducible exact Junk.app2 _ _ _ _ _ _ | with_reducible exact Junk.app3 _ _ _ _ _ _ _ | with_reducible exact Junk.app4 _ _ _ _ _ _ _ _ | with_reducible exact Junk.app5 _ _ _ _ _ _ _ _ _ | with_reducible apply Junk.alloc | with_reducible apply Junk.junk | with_reducible apply Junk.drew | with_reducible apply Junk.drewN))), by rw [HE.out]; exact Own.nil _ _ _ _⟩
  | some a =>
    have hne := fun (w : World) => Lib.run_eql_slice_nil (P := Try.prog) w 37 39 (some a) l c 0 0 Try.underlying37
    have HB := Lib.hid (show (lnsL L).length = l * 5 by rw [lnsL_len, HL.out])
    go_enter Try.func39, Try.ntmps39
    go_wp2_with (first
      | (at_builtin; (refine ap_own (W0 := w) rfl _ _ 37 rfl 39 (.agg #[.int .i64 0, .int .u32 0, .int .i64 0, .int .i64 0, .int .i64 0]) 5 40 (by kernel_rfl) rfl (by decide) Try.underlying37 (by ((try simp only [World.junk_junk, Array.append_assoc]); (repeat (first | with_reducible exact Junk.refl _ | with_reducible exact Junk.app _ _ _ _ _ | with_reducible exact Junk.app2 _ _ _ _ _ _ | with_reducible exact Junk.app3 _ _ _ _ _ _ _ | with_reducible exact Junk.app4 _ _ _ _ _ _ _ _ | with_reducible exact Junk.app5 _ _ _ _ _ _ _ _ _ | with_reducible apply Junk.alloc | with_reducible apply Junk.junk | with_reducible apply Junk.drew | with_reducible apply Junk.drewN)))) _ 0 0 [] rfl (own_mk _ _ 5 0 _ _ (by simp) (by simp) (by decide) (by simp)) (some a) l c rfl (lnsL L) HB.out (LsAt.src (HS.out.on (by ((try simp only [World.junk_junk, Array.append_assoc]); (repeat (first | with_reducible exact Junk.refl _ | with_reducible exact Junk.app _ _ _ _ _ | with_reducible exact Junk.app2 _ _ _ _ _ _ | with_reducible exact Junk.app3 _ _ _ _ _ _ _ | with_reducible exact Junk.app4 _ _ _ _ _ _ _ _ | with_reducible exact Junk.app5 _ _ _ _ _ _ _ _ _ | with_reducible apply Junk.alloc | with_reducible apply Junk.junk | with_reducible apply Junk.drew | with_reducible apply Junk.drewN)))))) (fun h => by cases h) (lnsL_one' L) (by simp only [maxLen]; omega) (by omega) ?_; intro oa1 cap1 os1 d1 hown _; rw [List.nil_append, Nat.zero_add] at hown; have Hown := Lib.hid hown; clear hown)))
    go_ret
    exact ⟨oa1, cap1, rfl, by ((try simp only [World.junk_junk, Array.append_assoc]); (repeat (first | with_reducible exact Junk.refl _ | with_reducible exact Junk.app _ _ _ _ _ | with_reducible exact Junk.app2 _ _ _ _ _ _ | with_reducible exact Junk.app3 _ _ _ _ _ _ _ | with_reducible exact Junk.app4 _ _ _ _ _ _ _ _ | with_reducible exact Junk.app5 _ _ _ _ _ _ _ _ _ | with_reducible apply Junk.alloc | with_reducible apply Junk.junk | with_reducible apply Junk.drew | with_reducible apply Junk.drewN))), Hown.out⟩
def takenL (L : List Ln) (proto : Int) : List Int := (L.filter fun x => x.proto == proto).map Ln.port
def intV (L : List Int) : List Value := L.map fun p => .int .i64 p
theorem intV_add (L : List Int) (p : Int) : intV L ++ [.int .i64 p] = intV (L ++ [p]) := by simp [intV]
theorem own_intAt {B : Nat} {w : World} {e : TypeId} {oa : Option Addr} {cap n : Nat} {L : List Int} (h : Own B w e 1 oa cap n (intV L)) : IntsAt w oa n .i64 (fun i => L[i]?.getD 0) := fun i hi => by
  have hl := h.len
  simp [intV] at hl
  obtain ⟨g, h1, _, h2, h3, _⟩ := h.cells i (.int .i64 (L[i]?.getD 0)) (by simp [intV, List.getElem?_eq_getElem (show i < L.length by omega)])
  exact ⟨g, 0, h1, h2, by simpa using h3⟩
theorem takenL_le (L : List Ln) (proto : Int) : (takenL L proto).length ≤ L.length := by unfold takenL; rw [List.length_map]; exact List.length_filter_le _ _
theorem take_succ' {α : Type} {L : List α} {k : Nat} {x : α} (h : L[k]? = some x) : L.take (k + 1) = L.take k ++ [x] := by
  rw [List.take_add_one, h]; rfl
theorem takenL_yes {L : List Ln} {k : Nat} {x : Ln} {proto : Int} (hx : L[k]? = some x) (hp : (x.proto == proto) = true) : takenL (L.take k) proto ++ [x.port] = takenL (L.take (k + 1)) proto := by
  rw [take_succ' hx]
  unfold takenL
  rw [List.filter_append, List.map_append]
  simp [List.filter, hp]
theorem takenL_no {L : List Ln} {k : Nat} {x : Ln} {proto : Int} (hx : L[k]? = some x) (hp : (x.proto == proto) = false) : takenL (L.take k) proto = takenL (L.take (k + 1)) proto := by
  rw [take_succ' hx]
  unfold takenL
  rw [List.filter_append, List.map_append]
  simp [List.filter, hp]
set_option maxHeartbeats 1000000 in
theorem taken_any (proto : Int) (oa : Option Addr) (l c : Nat) (L : List Ln) (w : World) (hl : l ≤ 1000000) (hL : L.length = l) (hS : LsAt w oa L) :
    Calls Try.prog 40 #[.slice oa l c, .int .i64 proto] w fun e w' => ∃ ob cap, e = .returned (.slice ob (takenL L proto).length cap) ∧ Junk w w' ∧ Own w.heap.size w' 3 1 ob cap (takenL L proto).length (intV (takenL L proto)) := by
  have HS := Lib.hid hS
  have HL := Lib.hid hL
  clear hS hL
  go_enter Try.func40, Try.ntmps40
  go_wp2
  go_loopw [5, 10] (fun v i wr => ∃ (k n : Nat) (M : List Int) (ob : Option Addr) (cap : Nat), v = .slice ob n cap ∧ i = .int .i64 (k : Int) ∧ Junk w wr ∧ Own w.heap.size wr 3 1 ob cap n (intV M) ∧ Hid (M = takenL (L.take k) proto) ∧ n ≤ k ∧ k ≤ l) (fun _ i _ => l + 1 - (intOf i).toNat)
  case atStart => exact ⟨0, 0, [], none, 0, rfl, rfl, by ((try simp only [World.junk_junk, Array.append_assoc]); (repeat (first | with_reducible exact Junk.refl _ | with_reducible exact Junk.app _ _ _ _ _ | with_reducible exact Junk.app2 _ _ _ _ _ _ | with_reducible exact Junk.app3 _ _ _ _ _ _ _ | with_reducible exact Junk.app4 _ _ _ _ _ _ _ _ | with_reducible exact Junk.app5 _ _ _ _ _ _ _ _ _ | with_reducible apply Junk.alloc | with_reducible apply Junk.junk | with_reducible apply Junk.drew | with_reducible apply Junk.drewN))), Own.nil _ _ _ _, Lib.hid (by simp [takenL]), by omega, by omega⟩
  case round =>
    obtain ⟨k, n, M, ob, cap, rfl, rfl, ⟨os, d, rfl⟩, hown, hM, hnk, hk⟩ := hrel
    have Hown := Lib.hid hown
    clear hown
    by_cases hkl : k < l
    · have hk2 : (k : Int) < (l : Int) := by omega
      obtain ⟨x, hx⟩ : ∃ x, L[k]? = some x := ⟨_, List.getElem?_eq_getElem (by rw [HL.out]; exact hkl)⟩
      obtain ⟨b, off, rfl, hb, c0, c1, c2, c3, c4⟩ := HS.out k x hx
      have HX := Lib.hid hx
      clear hx
      cases hp : (x.proto == proto) with
      | false =>
        have HM2 := Lib.hid (show M = takenL (L.take (k + 1)) proto by rw [hM.out]; exact takenL_no HX.out hp)
        go_wp2
        exact ⟨⟨k + 1, n, M, ob, cap, rfl, by go_num, by ((try simp only [World.junk_junk, Array.append_assoc]); (repeat (first | with_reducible exact Junk.refl _ | with_reducible exact Junk.app _ _ _ _ _ | with_reducible exact Junk.app2 _ _ _ _ _ _ | with_reducible exact Junk.app3 _ _ _ _ _ _ _ | with_reducible exact Junk.app4 _ _ _ _ _ _ _ _ | with_reducible exact Junk.app5 _ _ _ _ _ _ _ _ _ | with_reducible apply Junk.alloc | with_reducible apply Junk.junk | with_reducible apply Junk.drew | with_reducible apply Junk.drewN))), Hown.out.on (by ((try simp only [World.junk_junk, Array.append_assoc]); (repeat (first | with_reducible exact Junk.refl _ | with_reducible exact Junk.app _ _ _ _ _ | with_reducible exact Junk.app2 _ _ _ _ _ _ | with_reducible exact Junk.app3 _ _ _ _ _ _ _ | with_reducible exact Junk.app4 _ _ _ _ _ _ _ _ | with_reducible exact Junk.app5 _ _ _ _ _ _ _ _ _ | with_reducible apply Junk.alloc | with_reducible apply Junk.junk | with_reducible apply Junk.drew | with_reducible apply Junk.drewN)))), HM2, by omega, by omega⟩, by simp [intOf]; omega⟩
      | true =>
        have HM2 := Lib.hid (show M ++ [x.port] = takenL (L.take (k + 1)) proto by rw [hM.out]; exact takenL_yes HX.out hp)
        go_wp2_with (at_builtin; (refine ap_own (W0 := w) rfl _ _ 22 rfl 3 (.int .i64 0) 1 8 (by kernel_rfl) rfl (by decide) Try.underlying22 (by ((try simp only [World.junk_junk, Array.append_assoc]); (repeat (first | with_reducible exact Junk.refl _ | with_reducible exact Junk.app _ _ _ _ _ | with_reducible exact Junk.app2 _ _ _ _ _ _ | with_reducible exact Junk.app3 _ _ _ _ _ _ _ | with_reducible exact Junk.app4 _ _ _ _ _ _ _ _ | with_reducible exact Junk.app5 _ _ _ _ _ _ _ _ _ | with_reducible apply Junk.alloc | with_reducible apply Junk.junk | with_reducible apply Junk.drew | with_reducible apply Junk.drewN)))) ob cap n _ rfl (Hown.out.on (by ((try simp only [World.junk_junk, Array.append_assoc]); (repeat (first | with_reducible exact Junk.refl _ | with_reducible exact Junk.app _ _ _ _ _ | with_reducible exact Junk.app2 _ _ _ _ _ _ | with_reducible exact Junk.app3 _ _ _ _ _ _ _ | with_reducible exact Junk.app4 _ _ _ _ _ _ _ _ | with_reducible exact Junk.app5 _ _ _ _ _ _ _ _ _ | with_reducible apply Junk.alloc | with_reducible apply Junk.junk | with_reducible apply Junk.drew | with_reducible apply Junk.drewN))))) _ 1 1 rfl [_] rfl (built_cells (by simp)) (fun h => by cases h) (by simp [Value.oneCell']) (by simp only [maxLen]; omega) (by omega) ?_; intro oa' cap' os' d' hown' _; rw [intV_add] at hown'; have Hown2 := Lib.hid hown'; clear hown'))
        exact ⟨⟨k + 1, n + 1, M ++ [x.port], oa', cap', rfl, by go_num, by ((try simp only [World.junk_junk, Array.append_assoc]); (repeat (first | with_reducible exact Junk.refl _ | with_reducible exact Junk.app _ _ _ _ _ | with_reducible exact Junk.app2 _ _ _ _ _ _ | with_reducible exact Junk.app3 _ _ _ _ _ _ _ | with_reducible exact Junk.app4 _ _ _ _ _ _ _ _ | with_reducible exact Junk.app5 _ _ _ _ _ _ _ _ _ | with_reducible apply Junk.alloc | with_reducible apply Junk.junk | with_reducible apply Junk.drew | with_reducible apply Junk.drewN))), Hown2.out, HM2, by omega, by omega⟩, by simp [intOf]; omega⟩
    · have hk2 : ¬ (k : Int) < (l : Int) := by omega
      obtain rfl : k = l := by omega
      have HE := Lib.hid (show takenL L proto = M by rw [hM.out, ← HL.out, List.take_length])
      have HN := Lib.hid (show n = (takenL L proto).length by rw [HE.out]; have := Hown.out.len; simpa [intV] using this.symm)
      go_wp2
      go_ret
      exact ⟨ob, cap, by rw [← HN.out]; rfl, by ((try simp only [World.junk_junk, Array.append_assoc]); (repeat (first | with_reducible exact Junk.refl _ | with_reducible exact Junk.app _ _ _ _ _ | with_reducible exact Junk.app2 _ _ _ _ _ _ | with_reducible exact Junk.app3 _ _ _ _ _ _ _ | with_reducible exact Junk.app4 _ _ _ _ _ _ _ _ | with_reducible exact Junk.app5 _ _ _ _ _ _ _ _ _ | with_reducible apply Junk.alloc | with_reducible apply Junk.junk | with_reducible apply Junk.drew | with_reducible apply Junk.drewN))), by rw [← HN.out, HE.out]; exact Hown.out⟩
end Go.Proofs.Ytambpmbgfjefcaa
