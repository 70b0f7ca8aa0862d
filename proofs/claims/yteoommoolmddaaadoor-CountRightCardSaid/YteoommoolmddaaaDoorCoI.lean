/- count.sum, Of, Zone. -/
import Derived.Test.YteoommoolmddaaaDoorCoQ
import Derived.Test.YteoommoolmddaaaDoorCoC
set_option linter.unusedVariables false
set_option maxRecDepth 100000
set_option linter.unusedSimpArgs false
namespace Go.Proofs.YteoommoolmddaaaDoor
open Go.RowKit
theorem of1_any (x : Tl) (v : Int) (g : Nat) (w : World) (hg : g < w.heap.size) (hc : w.cell? ⟨g, 0, none⟩ = some (.int .i64 v)) : Calls Tryd.prog 20 #[x.val, .pointer (some ⟨g, 0, none⟩)] w fun e w' => e = .returned (.bool (x.ver == v)) ∧ Junk w w' := by
  go_enter Tryd.func20, Tryd.ntmps20
  go_wp2
  go_ret
  exact ⟨ret_bool rfl, by (first | ((repeat (first | with_reducible exact Junk.refl _ | with_reducible exact Junk.app _ _ _ _ _ | with_reducible apply Junk.alloc | with_reducible apply Junk.junk | with_reducible apply Junk.drew | with_reducible apply Junk.drewN)); done) | ((try simp only [World.junk_junk, Array.append_assoc]); (repeat (first | with_reducible exact Junk.refl _ | with_reducible exact Junk.app _ _ _ _ _ | with_reducible exact Junk.app2 _ _ _ _ _ _ | with_reducible exact Junk.app3 _ _ _ _ _ _ _ | with_reducible exact Junk.app4 _ _ _ _ _ _ _ _ | with_reducible exact Junk.app5 _ _ _ _ _ _ _ _ _ | with_reducible apply Junk.alloc | with_reducible apply Junk.junk | with_reducible apply Junk.drew | with_reducible apply Junk.drewN))))⟩
set_option maxHeartbeats 2000000 in
theorem sumOf_any (oa : Option Addr) (l c : Nat) (L : List Tl) (v : Int) (g : Nat) (w : World) (hl : l ≤ 1000000) (hS : TsB w oa l c L) (hg : g < w.heap.size) (hc : w.cell? ⟨g, 0, none⟩ = some (.int .i64 v)) :
    Calls Tryd.prog 19 #[.slice oa l c, .func (.func 20) #[] #[.pointer (some ⟨g, 0, none⟩)]] w fun e w' => e = .returned (.tuple #[.int .i64 (w64 (suN (fun x => x.ver == v) L)), .int .i64 (w64 (suB (fun x => x.ver == v) L))]) ∧ Junk w w' := by
  have HS := Lib.hid hS
  have HL := Lib.hid hS.len
  have HF := Lib.hid (fun w1 (hj : Junk w w1) (x : Tl) => of1_any x v g w1 (Nat.lt_of_lt_of_le hg hj.size) (((hj.below (Nat.le_refl _)).cell (p := ⟨g, 0, none⟩) hg).trans hc))
  clear hS hg hc
  obtain ⟨TN, hTN⟩ : ∃ T, w64 (suN (fun x => x.ver == v) L) = T := ⟨_, rfl⟩
  obtain ⟨TB, hTB⟩ : ∃ T, w64 (suB (fun x => x.ver == v) L) = T := ⟨_, rfl⟩
  rw [hTN, hTB]
  have HTN := Lib.hid hTN
  have HTB := Lib.hid hTB
  clear hTN hTB
  go_enter Tryd.func19, Tryd.ntmps19
  go_wp2
  go_loopw [6, 7, 12] (fun n b i wr => ∃ (k : Nat) (N B : Int), i = .int .i64 (k : Int) ∧ n = .int .i64 N ∧ b = .int .i64 B ∧ Junk w wr ∧ k ≤ l ∧ Hid (N = w64 (suN (fun x => x.ver == v) (L.take k)) ∧ B = w64 (suB (fun x => x.ver == v) (L.take k)))) (fun _ _ i _ => l + 1 - (intOf i).toNat)
  case atStart => exact ⟨0, 0, 0, rfl, rfl, rfl, by (first | ((repeat (first | with_reducible exact Junk.refl _ | with_reducible exact Junk.app _ _ _ _ _ | with_reducible apply Junk.alloc | with_reducible apply Junk.junk | with_reducible apply Junk.drew | with_reducible apply Junk.drewN)); done) | ((try simp only [World.junk_junk, Array.append_assoc]); (repeat (first | with_reducible exact Junk.refl _ | with_reducible exact Junk.app _ _ _ _ _ | with_reducible exact Junk.app2 _ _ _ _ _ _ | with_reducible exact Junk.app3 _ _ _ _ _ _ _ | with_reducible exact Junk.app4 _ _ _ _ _ _ _ _ | with_reducible exact Junk.app5 _ _ _ _ _ _ _ _ _ | with_reducible apply Junk.alloc | with_reducible apply Junk.junk | with_reducible apply Junk.drew | with_reducible apply Junk.drewN)))), by omega, Lib.hid ⟨by simp [suN, w64_zero], by simp [suB, w64_zero]⟩⟩
  case round =>
    obtain ⟨k, N, B, rfl, rfl, rfl, ⟨os, d, rfl⟩, hk, hN⟩ := hrel
    by_cases hkl : k < l
    · have hk2 : (k : Int) < (l : Int) := by omega
      have pw := wrapk_i64 ((k : Int) + 1) (by omega) (by omega)
      obtain ⟨x, hx⟩ : ∃ x, L[k]? = some x := ⟨_, List.getElem?_eq_getElem (by rw [HL.out]; exact hkl)⟩
      obtain ⟨bb, off, hob, hb, c0, c1, c2, c3⟩ := HS.out.at_ k x hx
      subst hob
      have HX := Lib.hid hx
      clear hx
      obtain ⟨N2, hN2⟩ : ∃ N2, IntKind.i64.wrap (N + x.n) = N2 := ⟨_, rfl⟩
      obtain ⟨B2, hB2⟩ : ∃ B2, IntKind.i64.wrap (B + x.b) = B2 := ⟨_, rfl⟩
      have HN2 := Lib.hid hN2
      have HB2 := Lib.hid hB2
      cases hp : (x.ver == v) with
      | true =>
        have HI := Lib.hid (show N2 = w64 (suN (fun x => x.ver == v) (L.take (k + 1))) ∧ B2 = w64 (suB (fun x => x.ver == v) (L.take (k + 1))) from by
          rw [suN_take HX.out, suB_take HX.out, hp, if_pos rfl, if_pos rfl]
          exact ⟨by rw [← w64_add, ← hN.out.1]; exact HN2.out.symm, by rw [← w64_add, ← hN.out.2]; exact HB2.out.symm⟩)
        go_wp2_with (first | (go_at_call 20; refine (HF.out _ (by (first | ((repeat (first | with_reducible exact Junk.refl _ | with_reducible exact Junk.app _ _ _ _ _ | with_reducible apply Junk.alloc | with_reducible apply Junk.junk | with_reducible apply Junk.drew | with_reducible apply Junk.drewN)); done) | ((try simp only [World.junk_junk, Array.append_assoc]); (repeat (first | with_reducible exact Junk.refl _ | with_reducible exact Junk.app _ _ _ _ _ | with_reducible exact Junk.app2 _ _ _ _ _ _ | with_reducible exact Junk.app3 _ _ _ _ _ _ _ | with_reducible exact Junk.app4 _ _ _ _ _ _ _ _ | with_reducible exact Junk.app5 _ _ _ _ _ _ _ _ _ | with_reducible apply Junk.alloc | with_reducible apply Junk.junk | with_reducible apply Junk.drew | with_reducible apply Junk.drewN))))) x).mono ?_; rintro e w' ⟨rfl, ⟨osj, dj, rfl⟩⟩; rw [hp]))
        exact ⟨⟨k + 1, N2, B2, by go_num, rfl, rfl, by (first | ((repeat (first | with_reducible exact Junk.refl _ | with_reducible exact Junk.app _ _ _ _ _ | with_reducible apply Junk.alloc | with_reducible apply Junk.junk | with_reducible apply Junk.drew | with_reducible apply Junk.drewN)); done) | ((try simp only [World.junk_junk, Array.append_assoc]); (repeat (first | with_reducible exact Junk.refl _ | with_reducible exact Junk.app _ _ _ _ _ | with_reducible exact Junk.app2 _ _ _ _ _ _ | with_reducible exact Junk.app3 _ _ _ _ _ _ _ | with_reducible exact Junk.app4 _ _ _ _ _ _ _ _ | with_reducible exact Junk.app5 _ _ _ _ _ _ _ _ _ | with_reducible apply Junk.alloc | with_reducible apply Junk.junk | with_reducible apply Junk.drew | with_reducible apply Junk.drewN)))), by omega, HI⟩, by simp [intOf]; omega⟩
      | false =>
        have HI := Lib.hid (show N = w64 (suN (fun x => x.ver == v) (L.take (k + 1))) ∧ B = w64 (suB (fun x => x.ver == v) (L.take (k + 1))) from by
          rw [suN_take HX.out, suB_take HX.out, hp, if_neg (by decide), if_neg (by decide), Int.add_zero, Int.add_zero]
          exact hN.out)
        go_wp2_with (first | (go_at_call 20; refine (HF.out _ (by (first | ((repeat (first | with_reducible exact Junk.refl _ | with_reducible exact Junk.app _ _ _ _ _ | with_reducible apply Junk.alloc | with_reducible apply Junk.junk | with_reducible apply Junk.drew | with_reducible apply Junk.drewN)); done) | ((try simp only [World.junk_junk, Array.append_assoc]); (repeat (first | with_reducible exact Junk.refl _ | with_reducible exact Junk.app _ _ _ _ _ | with_reducible exact Junk.app2 _ _ _ _ _ _ | with_reducible exact Junk.app3 _ _ _ _ _ _ _ | with_reducible exact Junk.app4 _ _ _ _ _ _ _ _ | with_reducible exact Junk.app5 _ _ _ _ _ _ _ _ _ | with_reducible apply Junk.alloc | with_reducible apply Junk.junk | with_reducible apply Junk.drew | with_reducible apply Junk.drewN))))) x).mono ?_; rintro e w' ⟨rfl, ⟨osj, dj, rfl⟩⟩; rw [hp]))
        exact ⟨⟨k + 1, N, B, by go_num, rfl, rfl, by (first | ((repeat (first | with_reducible exact Junk.refl _ | with_reducible exact Junk.app _ _ _ _ _ | with_reducible apply Junk.alloc | with_reducible apply Junk.junk | with_reducible apply Junk.drew | with_reducible apply Junk.drewN)); done) | ((try simp only [World.junk_junk, Array.append_assoc]); (repeat (first | with_reducible exact Junk.refl _ | with_reducible exact Junk.app _ _ _ _ _ | with_reducible exact Junk.app2 _ _ _ _ _ _ | with_reducible exact Junk.app3 _ _ _ _ _ _ _ | with_reducible exact Junk.app4 _ _ _ _ _ _ _ _ | with_reducible exact Junk.app5 _ _ _ _ _ _ _ _ _ | with_reducible apply Junk.alloc | with_reducible apply Junk.junk | with_reducible apply Junk.drew | with_reducible apply Junk.drewN)))), by omega, HI⟩, by simp [intOf]; omega⟩
    · have hk2 : ¬ (k : Int) < (l : Int) := by omega
      obtain rfl : k = l := by omega
      have h1 := hN.out.1
      have h2 := hN.out.2
      rw [List.take_of_length_le (by rw [HL.out]; exact Nat.le_refl _)] at h1 h2
      rw [HTN.out] at h1
      rw [HTB.out] at h2
      subst h1 h2
      go_wp2
      go_returns
      exact ⟨rfl, by (first | ((repeat (first | with_reducible exact Junk.refl _ | with_reducible exact Junk.app _ _ _ _ _ | with_reducible apply Junk.alloc | with_reducible apply Junk.junk | with_reducible apply Junk.drew | with_reducible apply Junk.drewN)); done) | ((try simp only [World.junk_junk, Array.append_assoc]); (repeat (first | with_reducible exact Junk.refl _ | with_reducible exact Junk.app _ _ _ _ _ | with_reducible exact Junk.app2 _ _ _ _ _ _ | with_reducible exact Junk.app3 _ _ _ _ _ _ _ | with_reducible exact Junk.app4 _ _ _ _ _ _ _ _ | with_reducible exact Junk.app5 _ _ _ _ _ _ _ _ _ | with_reducible apply Junk.alloc | with_reducible apply Junk.junk | with_reducible apply Junk.drew | with_reducible apply Junk.drewN))))⟩
theorem cOf_any (oa : Option Addr) (l c : Nat) (L : List Tl) (v : Int) (w : World) (hl : l ≤ 1000000) (hS : TsB w oa l c L) :
    Calls Tryd.prog 9 #[.slice oa l c, .int .i64 v] w fun e w' => e = .returned (.tuple #[.int .i64 (w64 (suN (fun x => x.ver == v) L)), .int .i64 (w64 (suB (fun x => x.ver == v) L))]) ∧ Junk w w' := by
  have HS := Lib.hid hS
  have hmf : ∀ fn first cap w, (Instr.makeFunc fn first cap).run Tryd.prog w = .ok (.func fn first cap) w := fun _ _ _ _ => rfl
  have HF := Lib.hid (fun g w1 (h : TsB w1 oa l c L) (hg : g < w1.heap.size) (hc : w1.cell? ⟨g, 0, none⟩ = some (.int .i64 v)) => sumOf_any oa l c L v g w1 hl h hg hc)
  obtain ⟨TN, hTN⟩ : ∃ T, w64 (suN (fun x => x.ver == v) L) = T := ⟨_, rfl⟩
  obtain ⟨TB, hTB⟩ : ∃ T, w64 (suB (fun x => x.ver == v) L) = T := ⟨_, rfl⟩
  rw [hTN, hTB] at HF ⊢
  clear hS hTN hTB
  go_enter Tryd.func9, Tryd.ntmps9
  go_wp2_with (first | (go_at_call 19; refine (HF.out _ _ (HS.out.on (by (first | ((repeat (first | with_reducible exact Junk.refl _ | with_reducible exact Junk.app _ _ _ _ _ | with_reducible apply Junk.alloc | with_reducible apply Junk.junk | with_reducible apply Junk.drew | with_reducible apply Junk.drewN)); done) | ((try simp only [World.junk_junk, Array.append_assoc]); (repeat (first | with_reducible exact Junk.refl _ | with_reducible exact Junk.app _ _ _ _ _ | with_reducible exact Junk.app2 _ _ _ _ _ _ | with_reducible exact Junk.app3 _ _ _ _ _ _ _ | with_reducible exact Junk.app4 _ _ _ _ _ _ _ _ | with_reducible exact Junk.app5 _ _ _ _ _ _ _ _ _ | with_reducible apply Junk.alloc | with_reducible apply Junk.junk | with_reducible apply Junk.drew | with_reducible apply Junk.drewN)))))) (by simp) (by go_simp)).mono ?_; rintro e w' ⟨rfl, ⟨osj, dj, rfl⟩⟩))
  go_returns
  exact ⟨rfl, by (first | ((repeat (first | with_reducible exact Junk.refl _ | with_reducible exact Junk.app _ _ _ _ _ | with_reducible apply Junk.alloc | with_reducible apply Junk.junk | with_reducible apply Junk.drew | with_reducible apply Junk.drewN)); done) | ((try simp only [World.junk_junk, Array.append_assoc]); (repeat (first | with_reducible exact Junk.refl _ | with_reducible exact Junk.app _ _ _ _ _ | with_reducible exact Junk.app2 _ _ _ _ _ _ | with_reducible exact Junk.app3 _ _ _ _ _ _ _ | with_reducible exact Junk.app4 _ _ _ _ _ _ _ _ | with_reducible exact Junk.app5 _ _ _ _ _ _ _ _ _ | with_reducible apply Junk.alloc | with_reducible apply Junk.junk | with_reducible apply Junk.drew | with_reducible apply Junk.drewN))))⟩
theorem zone1_any (x : Tl) (v : Int) (g : Nat) (w : World) (hg : g < w.heap.size) (hc : w.cell? ⟨g, 0, none⟩ = some (.int .i64 v)) : Calls Tryd.prog 23 #[x.val, .pointer (some ⟨g, 0, none⟩)] w fun e w' => e = .returned (.bool (x.zone == v)) ∧ Junk w w' := by
  go_enter Tryd.func23, Tryd.ntmps23
  go_wp2
  go_ret
  exact ⟨ret_bool rfl, by (first | ((repeat (first | with_reducible exact Junk.refl _ | with_reducible exact Junk.app _ _ _ _ _ | with_reducible apply Junk.alloc | with_reducible apply Junk.junk | with_reducible apply Junk.drew | with_reducible apply Junk.drewN)); done) | ((try simp only [World.junk_junk, Array.append_assoc]); (repeat (first | with_reducible exact Junk.refl _ | with_reducible exact Junk.app _ _ _ _ _ | with_reducible exact Junk.app2 _ _ _ _ _ _ | with_reducible exact Junk.app3 _ _ _ _ _ _ _ | with_reducible exact Junk.app4 _ _ _ _ _ _ _ _ | with_reducible exact Junk.app5 _ _ _ _ _ _ _ _ _ | with_reducible apply Junk.alloc | with_reducible apply Junk.junk | with_reducible apply Junk.drew | with_reducible apply Junk.drewN))))⟩
set_option maxHeartbeats 2000000 in
theorem sumZone_any (oa : Option Addr) (l c : Nat) (L : List Tl) (v : Int) (g : Nat) (w : World) (hl : l ≤ 1000000) (hS : TsB w oa l c L) (hg : g < w.heap.size) (hc : w.cell? ⟨g, 0, none⟩ = some (.int .i64 v)) :
    Calls Tryd.prog 19 #[.slice oa l c, .func (.func 23) #[] #[.pointer (some ⟨g, 0, none⟩)]] w fun e w' => e = .returned (.tuple #[.int .i64 (w64 (suN (fun x => x.zone == v) L)), .int .i64 (w64 (suB (fun x => x.zone == v) L))]) ∧ Junk w w' := by
  have HS := Lib.hid hS
  have HL := Lib.hid hS.len
  have HF := Lib.hid (fun w1 (hj : Junk w w1) (x : Tl) => zone1_any x v g w1 (Nat.lt_of_lt_of_le hg hj.size) (((hj.below (Nat.le_refl _)).cell (p := ⟨g, 0, none⟩) hg).trans hc))
  clear hS hg hc
  obtain ⟨TN, hTN⟩ : ∃ T, w64 (suN (fun x => x.zone == v) L) = T := ⟨_, rfl⟩
  obtain ⟨TB, hTB⟩ : ∃ T, w64 (suB (fun x => x.zone == v) L) = T := ⟨_, rfl⟩
  rw [hTN, hTB]
  have HTN := Lib.hid hTN
  have HTB := Lib.hid hTB
  clear hTN hTB
  go_enter Tryd.func19, Tryd.ntmps19
  go_wp2
  go_loopw [6, 7, 12] (fun n b i wr => ∃ (k : Nat) (N B : Int), i = .int .i64 (k : Int) ∧ n = .int .i64 N ∧ b = .int .i64 B ∧ Junk w wr ∧ k ≤ l ∧ Hid (N = w64 (suN (fun x => x.zone == v) (L.take k)) ∧ B = w64 (suB (fun x => x.zone == v) (L.take k)))) (fun _ _ i _ => l + 1 - (intOf i).toNat)
  case atStart => exact ⟨0, 0, 0, rfl, rfl, rfl, by (first | ((repeat (first | with_reducible exact Junk.refl _ | with_reducible exact Junk.app _ _ _ _ _ | with_reducible apply Junk.alloc | with_reducible apply Junk.junk | with_reducible apply Junk.drew | with_reducible apply Junk.drewN)); done) | ((try simp only [World.junk_junk, Array.append_assoc]); (repeat (first | with_reducible exact Junk.refl _ | with_reducible exact Junk.app _ _ _ _ _ | with_reducible exact Junk.app2 _ _ _ _ _ _ | with_reducible exact Junk.app3 _ _ _ _ _ _ _ | with_reducible exact Junk.app4 _ _ _ _ _ _ _ _ | with_reducible exact Junk.app5 _ _ _ _ _ _ _ _ _ | with_reducible apply Junk.alloc | with_reducible apply Junk.junk | with_reducible apply Junk.drew | with_reducible apply Junk.drewN)))), by omega, Lib.hid ⟨by simp [suN, w64_zero], by simp [suB, w64_zero]⟩⟩
  case round =>
    obtain ⟨k, N, B, rfl, rfl, rfl, ⟨os, d, rfl⟩, hk, hN⟩ := hrel
    by_cases hkl : k < l
    · have hk2 : (k : Int) < (l : Int) := by omega
      have pw := wrapk_i64 ((k : Int) + 1) (by omega) (by omega)
      obtain ⟨x, hx⟩ : ∃ x, L[k]? = some x := ⟨_, List.getElem?_eq_getElem (by rw [HL.out]; exact hkl)⟩
      obtain ⟨bb, off, hob, hb, c0, c1, c2, c3⟩ := HS.out.at_ k x hx
      subst hob
      have HX := Lib.hid hx
      clear hx
      obtain ⟨N2, hN2⟩ : ∃ N2, IntKind.i64.wrap (N + x.n) = N2 := ⟨_, rfl⟩
      obtain ⟨B2, hB2⟩ : ∃ B2, IntKind.i64.wrap (B + x.b) = B2 := ⟨_, rfl⟩
      have HN2 := Lib.hid hN2
      have HB2 := Lib.hid hB2
      cases hp : (x.zone == v) with
      | true =>
        have HI := Lib.hid (show N2 = w64 (suN (fun x => x.zone == v) (L.take (k + 1))) ∧ B2 = w64 (suB (fun x => x.zone == v) (L.take (k + 1))) from by
          rw [suN_take HX.out, suB_take HX.out, hp, if_pos rfl, if_pos rfl]
          exact ⟨by rw [← w64_add, ← hN.out.1]; exact HN2.out.symm, by rw [← w64_add, ← hN.out.2]; exact HB2.out.symm⟩)
        go_wp2_with (first | (go_at_call 23; refine (HF.out _ (by (first | ((repeat (first | with_reducible exact Junk.refl _ | with_reducible exact Junk.app _ _ _ _ _ | with_reducible apply Junk.alloc | with_reducible apply Junk.junk | with_reducible apply Junk.drew | with_reducible apply Junk.drewN)); done) | ((try simp only [World.junk_junk, Array.append_assoc]); (repeat (first | with_reducible exact Junk.refl _ | with_reducible exact Junk.app _ _ _ _ _ | with_reducible exact Junk.app2 _ _ _ _ _ _ | with_reducible exact Junk.app3 _ _ _ _ _ _ _ | with_reducible exact Junk.app4 _ _ _ _ _ _ _ _ | with_reducible exact Junk.app5 _ _ _ _ _ _ _ _ _ | with_reducible apply Junk.alloc | with_reducible apply Junk.junk | with_reducible apply Junk.drew | with_reducible apply Junk.drewN))))) x).mono ?_; rintro e w' ⟨rfl, ⟨osj, dj, rfl⟩⟩; rw [hp]))
        exact ⟨⟨k + 1, N2, B2, by go_num, rfl, rfl, by (first | ((repeat (first | with_reducible exact Junk.refl _ | with_reducible exact Junk.app _ _ _ _ _ | with_reducible apply Junk.alloc | with_reducible apply Junk.junk | with_reducible apply Junk.drew | with_reducible apply Junk.drewN)); done) | ((try simp only [World.junk_junk, Array.append_assoc]); (repeat (first | with_reducible exact Junk.refl _ | with_reducible exact Junk.app _ _ _ _ _ | with_reducible exact Junk.app2 _ _ _ _ _ _ | with_reducible exact Junk.app3 _ _ _ _ _ _ _ | with_reducible exact Junk.app4 _ _ _ _ _ _ _ _ | with_reducible exact Junk.app5 _ _ _ _ _ _ _ _ _ | with_reducible apply Junk.alloc | with_reducible apply Junk.junk | with_reducible apply Junk.drew | with_reducible apply Junk.drewN)))), by omega, HI⟩, by simp [intOf]; omega⟩
      | false =>
        have HI := Lib.hid (show N = w64 (suN (fun x => x.zone == v) (L.take (k + 1))) ∧ B = w64 (suB (fun x => x.zone == v) (L.take (k + 1))) from by
          rw [suN_take HX.out, suB_take HX.out, hp, if_neg (by decide), if_neg (by decide), Int.add_zero, Int.add_zero]
          exact hN.out)
        go_wp2_with (first | (go_at_call 23; refine (HF.out _ (by (first | ((repeat (first | with_reducible exact Junk.refl _ | with_reducible exact Junk.app _ _ _ _ _ | with_reducible apply Junk.alloc | with_reducible apply Junk.junk | with_reducible apply Junk.drew | with_reducible apply Junk.drewN)); done) | ((try simp only [World.junk_junk, Array.append_assoc]); (repeat (first | with_reducible exact Junk.refl _ | with_reducible exact Junk.app _ _ _ _ _ | with_reducible exact Junk.app2 _ _ _ _ _ _ | with_reducible exact Junk.app3 _ _ _ _ _ _ _ | with_reducible exact Junk.app4 _ _ _ _ _ _ _ _ | with_reducible exact Junk.app5 _ _ _ _ _ _ _ _ _ | with_reducible apply Junk.alloc | with_reducible apply Junk.junk | with_reducible apply Junk.drew | with_reducible apply Junk.drewN))))) x).mono ?_; rintro e w' ⟨rfl, ⟨osj, dj, rfl⟩⟩; rw [hp]))
        exact ⟨⟨k + 1, N, B, by go_num, rfl, rfl, by (first | ((repeat (first | with_reducible exact Junk.refl _ | with_reducible exact Junk.app _ _ _ _ _ | with_reducible apply Junk.alloc | with_reducible apply Junk.junk | with_reducible apply Junk.drew | with_reducible apply Junk.drewN)); done) | ((try simp only [World.junk_junk, Array.append_assoc]); (repeat (first | with_reducible exact Junk.refl _ | with_reducible exact Junk.app _ _ _ _ _ | with_reducible exact Junk.app2 _ _ _ _ _ _ | with_reducible exact Junk.app3 _ _ _ _ _ _ _ | with_reducible exact Junk.app4 _ _ _ _ _ _ _ _ | with_reducible exact Junk.app5 _ _ _ _ _ _ _ _ _ | with_reducible apply Junk.alloc | with_reducible apply Junk.junk | with_reducible apply Junk.drew | with_reducible apply Junk.drewN)))), by omega, HI⟩, by simp [intOf]; omega⟩
    · have hk2 : ¬ (k : Int) < (l : Int) := by omega
      obtain rfl : k = l := by omega
      have h1 := hN.out.1
      have h2 := hN.out.2
      rw [List.take_of_length_le (by rw [HL.out]; exact Nat.le_refl _)] at h1 h2
      rw [HTN.out] at h1
      rw [HTB.out] at h2
      subst h1 h2
      go_wp2
      go_returns
      exact ⟨rfl, by (first | ((repeat (first | with_reducible exact Junk.refl _ | with_reducible exact Junk.app _ _ _ _ _ | with_reducible apply Junk.alloc | with_reducible apply Junk.junk | with_reducible apply Junk.drew | with_reducible apply Junk.drewN)); done) | ((try simp only [World.junk_junk, Array.append_assoc]); (repeat (first | with_reducible exact Junk.refl _ | with_reducible exact Junk.app _ _ _ _ _ | with_reducible exact Junk.app2 _ _ _ _ _ _ | with_reducible exact Junk.app3 _ _ _ _ _ _ _ | with_reducible exact Junk.app4 _ _ _ _ _ _ _ _ | with_reducible exact Junk.app5 _ _ _ _ _ _ _ _ _ | with_reducible apply Junk.alloc | with_reducible apply Junk.junk | with_reducible apply Junk.drew | with_reducible apply Junk.drewN))))⟩
theorem cZone_any (oa : Option Addr) (l c : Nat) (L : List Tl) (v : Int) (w : World) (hl : l ≤ 1000000) (hS : TsB w oa l c L) :
    Calls Tryd.prog 11 #[.slice oa l c, .int .i64 v] w fun e w' => e = .returned (.tuple #[.int .i64 (w64 (suN (fun x => x.zone == v) L)), .int .i64 (w64 (suB (fun x => x.zone == v) L))]) ∧ Junk w w' := by
  have HS := Lib.hid hS
  have hmf : ∀ fn first cap w, (Instr.makeFunc fn first cap).run Tryd.prog w = .ok (.func fn first cap) w := fun _ _ _ _ => rfl
  have HF := Lib.hid (fun g w1 (h : TsB w1 oa l c L) (hg : g < w1.heap.size) (hc : w1.cell? ⟨g, 0, none⟩ = some (.int .i64 v)) => sumZone_any oa l c L v g w1 hl h hg hc)
  obtain ⟨TN, hTN⟩ : ∃ T, w64 (suN (fun x => x.zone == v) L) = T := ⟨_, rfl⟩
  obtain ⟨TB, hTB⟩ : ∃ T, w64 (suB (fun x => x.zone == v) L) = T := ⟨_, rfl⟩
  rw [hTN, hTB] at HF ⊢
  clear hS hTN hTB
  go_enter Tryd.func11, Tryd.ntmps11
  go_wp2_with (first | (go_at_call 19; refine (HF.out _ _ (HS.out.on (by (first | ((repeat (first | with_reducible exact Junk.refl _ | with_reducible exact Junk.app _ _ _ _ _ | with_reducible apply Junk.alloc | with_reducible apply Junk.junk | with_reducible apply Junk.drew | with_reducible apply Junk.drewN)); done) | ((try simp only [World.junk_junk, Array.append_assoc]); (repeat (first | with_reducible exact Junk.refl _ | with_reducible exact Junk.app _ _ _ _ _ | with_reducible exact Junk.app2 _ _ _ _ _ _ | with_reducible exact Junk.app3 _ _ _ _ _ _ _ | with_reducible exact Junk.app4 _ _ _ _ _ _ _ _ | with_reducible exact Junk.app5 _ _ _ _ _ _ _ _ _ | with_reducible apply Junk.alloc | with_reducible apply Junk.junk | with_reducible apply Junk.drew | with_reducible apply Junk.drewN)))))) (by simp) (by go_simp)).mono ?_; rintro e w' ⟨rfl, ⟨osj, dj, rfl⟩⟩))
  go_returns
  exact ⟨rfl, by (first | ((repeat (first | with_reducible exact Junk.refl _ | with_reducible exact Junk.app _ _ _ _ _ | with_reducible apply Junk.alloc | with_reducible apply Junk.junk | with_reducible apply Junk.drew | with_reducible apply Junk.drewN)); done) | ((try simp only [World.junk_junk, Array.append_assoc]); (repeat (first | with_reducible exact Junk.refl _ | with_reducible exact Junk.app _ _ _ _ _ | with_reducible exact Junk.app2 _ _ _ _ _ _ | with_reducible exact Junk.app3 _ _ _ _ _ _ _ | with_reducible exact Junk.app4 _ _ _ _ _ _ _ _ | with_reducible exact Junk.app5 _ _ _ _ _ _ _ _ _ | with_reducible apply Junk.alloc | with_reducible apply Junk.junk | with_reducible apply Junk.drew | with_reducible apply Junk.drewN))))⟩
end Go.Proofs.YteoommoolmddaaaDoor
