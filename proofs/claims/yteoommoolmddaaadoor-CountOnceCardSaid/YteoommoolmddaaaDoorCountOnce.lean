/- The law CountOnce: of any count, what a verdict had and what all others had are together all. -/
import Derived.Test.YteoommoolmddaaaDoorCoD0
set_option linter.unusedVariables false
set_option maxRecDepth 100000
set_option linter.unusedSimpArgs false
namespace Go.Proofs.YteoommoolmddaaaDoor
open Go.RowKit Go.ChangeShapes Go.WideShapes Go.ChangeAt Go.WideMaps Go.WideElems
def restL (v : Int) (L : List Tl) : List Tl := L.filter fun x => !(x.ver == v)
theorem restL_yes {v : Int} {L : List Tl} {k : Nat} {x : Tl} (hx : L[k]? = some x) (h : (x.ver != v) = true) : restL v (L.take k) ++ [x] = restL v (L.take (k + 1)) := by
  rw [take_one hx]
  unfold restL
  rw [List.filter_append]
  simp [List.filter, show (x.ver == v) = false by simpa using h]
theorem restL_no {v : Int} {L : List Tl} {k : Nat} {x : Tl} (hx : L[k]? = some x) (h : (x.ver != v) = false) : restL v (L.take k) = restL v (L.take (k + 1)) := by
  rw [take_one hx]
  unfold restL
  rw [List.filter_append]
  simp [List.filter, show (x.ver == v) = true by simpa using h]
set_option maxHeartbeats 4000000 in
theorem countOnce_walk (L0 : List Tl) (v : Int) (oa : Option Addr) (l c n : Nat) (w : World) (ht : AscT w) (hL : L0.length = l) (hlc : l ≤ c) (hcm : c ≤ 9223372036854775807) (hS : TsAt w oa L0) (hnil : oa = none → l = 0 ∧ c = 0) (hmin : (min (l : Int) 100).toNat = n) (hmi : min (l : Int) 100 = (n : Int)) (hn : n ≤ l) (hn1 : n ≤ 100) :
    Calls Tryd.prog 4 #[.slice oa l c, .int .i64 v] w fun e w' => e = .returned (.bool true) ∧ Junk w w' := by
  have HT := Lib.hid ht
  have HAW := Lib.hid (fun w1 (h : AscT w1) => awake30_any w1 h)
  obtain ⟨L, hLL⟩ : ∃ L, L0.take n = L := ⟨_, rfl⟩
  have hS1 : TsB w oa n c L := by
    rw [← hLL]
    exact ⟨hS.take n, by rw [List.length_take]; omega, fun h => by have := hnil h; omega, by omega, hcm⟩
  have HS := Lib.hid hS1
  have HL := Lib.hid hS1.len
  have hb0 : (n : Int) ≤ (c : Int) := by omega
  have hb1 : (0 : Int) ≤ (n : Int) := by omega
  have hb2 : n ≤ c := by omega
  obtain ⟨SN, hSN⟩ : ∃ T, w64 (suN (fun x => x.ver == v) L) = T := ⟨_, rfl⟩
  obtain ⟨SB, hSB⟩ : ∃ T, w64 (suB (fun x => x.ver == v) L) = T := ⟨_, rfl⟩
  have HO1 := Lib.hid (fun w1 (h : TsB w1 oa n c L) => show Calls Tryd.prog 9 #[.slice oa n c, .int .i64 v] w1 fun e w' => e = .returned (.tuple #[.int .i64 SN, .int .i64 SB]) ∧ Junk w1 w' by rw [← hSN, ← hSB]; exact cOf_any oa n c L v w1 (by omega) h)
  have HSUM := Lib.hid (And.intro hSN hSB)
  clear ht hS hS1 hL hSN hSB hLL hnil hlc hn
  go_enter Tryd.func4, Tryd.ntmps4
  go_wp2_with (first | (go_at_call 7; (with_reducible refine (HAW.out _ (HT.out.on (by (first | ((repeat (first | with_reducible exact Junk.refl _ | with_reducible exact Junk.app _ _ _ _ _ | with_reducible apply Junk.alloc | with_reducible apply Junk.junk | with_reducible apply Junk.drew | with_reducible apply Junk.drewN)); done) | ((try simp only [World.junk_junk, Array.append_assoc]); (repeat (first | with_reducible exact Junk.refl _ | with_reducible exact Junk.app _ _ _ _ _ | with_reducible exact Junk.app2 _ _ _ _ _ _ | with_reducible exact Junk.app3 _ _ _ _ _ _ _ | with_reducible exact Junk.app4 _ _ _ _ _ _ _ _ | with_reducible exact Junk.app5 _ _ _ _ _ _ _ _ _ | with_reducible apply Junk.alloc | with_reducible apply Junk.junk | with_reducible apply Junk.drew | with_reducible apply Junk.drewN))))))).mono ?_); rintro e w' ⟨rfl, ⟨osj, dj, rfl⟩⟩))
  go_loopw [5, 6, 7, 8] (fun r a b i wr => ∃ (k m cq : Nat) (N B : Int) (oq : Option Addr), i = .int .i64 (k : Int) ∧ r = .slice oq m cq ∧ a = .int .i64 N ∧ b = .int .i64 B ∧ Junk w wr ∧ k ≤ n ∧ m ≤ k ∧ Hid (Own w.heap.size wr 28 4 oq cq m (tlsL (restL v (L.take k)))) ∧ Hid (N = w64 (suN (fun _ => true) (L.take k)) ∧ B = w64 (suB (fun _ => true) (L.take k)))) (fun _ _ _ i _ => n + 1 - (intOf i).toNat)
  case atStart => exact ⟨0, 0, 0, 0, 0, none, rfl, rfl, rfl, rfl, by (first | ((repeat (first | with_reducible exact Junk.refl _ | with_reducible exact Junk.app _ _ _ _ _ | with_reducible apply Junk.alloc | with_reducible apply Junk.junk | with_reducible apply Junk.drew | with_reducible apply Junk.drewN)); done) | ((try simp only [World.junk_junk, Array.append_assoc]); (repeat (first | with_reducible exact Junk.refl _ | with_reducible exact Junk.app _ _ _ _ _ | with_reducible exact Junk.app2 _ _ _ _ _ _ | with_reducible exact Junk.app3 _ _ _ _ _ _ _ | with_reducible exact Junk.app4 _ _ _ _ _ _ _ _ | with_reducible exact Junk.app5 _ _ _ _ _ _ _ _ _ | with_reducible apply Junk.alloc | with_reducible apply Junk.junk | with_reducible apply Junk.drew | with_reducible apply Junk.drewN)))), by omega, by omega, Lib.hid (by simp [restL, tlsL]; exact Own.nil _ _ _ _), Lib.hid ⟨by simp [suN, w64_zero], by simp [suB, w64_zero]⟩⟩
  case round =>
    obtain ⟨k, m, cq, N, B, oq, rfl, rfl, rfl, rfl, ⟨os, d, rfl⟩, hk, hmk, hO, hN⟩ := hrel
    by_cases hkl : k < n
    · have hk2 : (k : Int) < (n : Int) := by omega
      have pw := wrapk_i64 ((k : Int) + 1) (by omega) (by omega)
      obtain ⟨x, hx⟩ : ∃ x, L[k]? = some x := ⟨_, List.getElem?_eq_getElem (by rw [HL.out]; exact hkl)⟩
      obtain ⟨bb, off, hob, hb, c0, c1, c2, c3⟩ := HS.out.at_ k x hx
      subst hob
      have HX := Lib.hid hx
      clear hx
      obtain ⟨N2, hN2⟩ : ∃ N2, IntKind.i64.wrap (N + x.n) = N2 := ⟨_, rfl⟩
      obtain ⟨B2, hB2⟩ : ∃ B2, IntKind.i64.wrap (B + x.b) = B2 := ⟨_, rfl⟩
      have HN2 := Lib.hid hN2
      have HB2 := Lib.hid hB2
      have HI := Lib.hid (show N2 = w64 (suN (fun _ => true) (L.take (k + 1))) ∧ B2 = w64 (suB (fun _ => true) (L.take (k + 1))) from by
        rw [suN_take HX.out, suB_take HX.out, if_pos rfl, if_pos rfl]
        exact ⟨by rw [← w64_add, ← hN.out.1]; exact HN2.out.symm, by rw [← w64_add, ← hN.out.2]; exact HB2.out.symm⟩)
      obtain ⟨xz, xv, xn, xb⟩ := x
      simp only at c0 c1 c2 c3
      cases hp : (xv != v) with
      | true =>
        have HR := Lib.hid (restL_yes HX.out hp)
        go_wp2
        refine wp_region_junk (by kernel_rfl) (by kernel_rfl) ?_; (repeat (go_big_quiet_step (first | fail))); refine wpQuiet_nil ?_; rintro _ ⟨⟨osq, dq⟩, rfl⟩
        go_wp2_with (first
          | (at_builtin; (refine ap_own (W0 := w) rfl _ _ 26 rfl 28 (.agg #[.int .i64 0, .int .i64 0, .int .i64 0, .int .i64 0]) 4 32 (by kernel_rfl) rfl (by decide) Tryd.underlying26 (by (first | ((repeat (first | with_reducible exact Junk.refl _ | with_reducible exact Junk.app _ _ _ _ _ | with_reducible apply Junk.alloc | with_reducible apply Junk.junk | with_reducible apply Junk.drew | with_reducible apply Junk.drewN)); done) | ((try simp only [World.junk_junk, Array.append_assoc]); (repeat (first | with_reducible exact Junk.refl _ | with_reducible exact Junk.app _ _ _ _ _ | with_reducible exact Junk.app2 _ _ _ _ _ _ | with_reducible exact Junk.app3 _ _ _ _ _ _ _ | with_reducible exact Junk.app4 _ _ _ _ _ _ _ _ | with_reducible exact Junk.app5 _ _ _ _ _ _ _ _ _ | with_reducible apply Junk.alloc | with_reducible apply Junk.junk | with_reducible apply Junk.drew | with_reducible apply Junk.drewN))))) oq cq m (tlsL (restL v (L.take k))) rfl (hO.out.on (by (first | ((repeat (first | with_reducible exact Junk.refl _ | with_reducible exact Junk.app _ _ _ _ _ | with_reducible apply Junk.alloc | with_reducible apply Junk.junk | with_reducible apply Junk.drew | with_reducible apply Junk.drewN)); done) | ((try simp only [World.junk_junk, Array.append_assoc]); (repeat (first | with_reducible exact Junk.refl _ | with_reducible exact Junk.app _ _ _ _ _ | with_reducible exact Junk.app2 _ _ _ _ _ _ | with_reducible exact Junk.app3 _ _ _ _ _ _ _ | with_reducible exact Junk.app4 _ _ _ _ _ _ _ _ | with_reducible exact Junk.app5 _ _ _ _ _ _ _ _ _ | with_reducible apply Junk.alloc | with_reducible apply Junk.junk | with_reducible apply Junk.drew | with_reducible apply Junk.drewN)))))) (some ⟨_, 0, none⟩) 1 1 rfl (Tl.cells ⟨xz, xv, xn, xb⟩) (by simp [Tl.cells]) (built_cells (by simp)) (fun h => by cases h) (Tl.one _) (by simp only [maxLen]; omega) (by omega) ?_; intro oa1 cap1 os1 d1 hown _; rw [tlsL_one, HR.out] at hown; have Hown := Lib.hid hown; clear hown)))
        exact ⟨⟨k + 1, m + 1, cap1, N2, B2, oa1, by go_num, rfl, rfl, rfl, by (first | ((repeat (first | with_reducible exact Junk.refl _ | with_reducible exact Junk.app _ _ _ _ _ | with_reducible apply Junk.alloc | with_reducible apply Junk.junk | with_reducible apply Junk.drew | with_reducible apply Junk.drewN)); done) | ((try simp only [World.junk_junk, Array.append_assoc]); (repeat (first | with_reducible exact Junk.refl _ | with_reducible exact Junk.app _ _ _ _ _ | with_reducible exact Junk.app2 _ _ _ _ _ _ | with_reducible exact Junk.app3 _ _ _ _ _ _ _ | with_reducible exact Junk.app4 _ _ _ _ _ _ _ _ | with_reducible exact Junk.app5 _ _ _ _ _ _ _ _ _ | with_reducible apply Junk.alloc | with_reducible apply Junk.junk | with_reducible apply Junk.drew | with_reducible apply Junk.drewN)))), by omega, by omega, Lib.hid (Hown.out.on (by (first | ((repeat (first | with_reducible exact Junk.refl _ | with_reducible exact Junk.app _ _ _ _ _ | with_reducible apply Junk.alloc | with_reducible apply Junk.junk | with_reducible apply Junk.drew | with_reducible apply Junk.drewN)); done) | ((try simp only [World.junk_junk, Array.append_assoc]); (repeat (first | with_reducible exact Junk.refl _ | with_reducible exact Junk.app _ _ _ _ _ | with_reducible exact Junk.app2 _ _ _ _ _ _ | with_reducible exact Junk.app3 _ _ _ _ _ _ _ | with_reducible exact Junk.app4 _ _ _ _ _ _ _ _ | with_reducible exact Junk.app5 _ _ _ _ _ _ _ _ _ | with_reducible apply Junk.alloc | with_reducible apply Junk.junk | with_reducible apply Junk.drew | with_reducible apply Junk.drewN)))))), HI⟩, by simp [intOf]; omega⟩
      | false =>
        have HR := Lib.hid (restL_no HX.out hp)
        go_wp2
        refine wp_region_junk (by kernel_rfl) (by kernel_rfl) ?_; (repeat (go_big_quiet_step (first | fail))); refine wpQuiet_nil ?_; rintro _ ⟨⟨osq, dq⟩, rfl⟩
        go_wp2
        exact ⟨⟨k + 1, m, cq, N2, B2, oq, by go_num, rfl, rfl, rfl, by (first | ((repeat (first | with_reducible exact Junk.refl _ | with_reducible exact Junk.app _ _ _ _ _ | with_reducible apply Junk.alloc | with_reducible apply Junk.junk | with_reducible apply Junk.drew | with_reducible apply Junk.drewN)); done) | ((try simp only [World.junk_junk, Array.append_assoc]); (repeat (first | with_reducible exact Junk.refl _ | with_reducible exact Junk.app _ _ _ _ _ | with_reducible exact Junk.app2 _ _ _ _ _ _ | with_reducible exact Junk.app3 _ _ _ _ _ _ _ | with_reducible exact Junk.app4 _ _ _ _ _ _ _ _ | with_reducible exact Junk.app5 _ _ _ _ _ _ _ _ _ | with_reducible apply Junk.alloc | with_reducible apply Junk.junk | with_reducible apply Junk.drew | with_reducible apply Junk.drewN)))), by omega, by omega, Lib.hid (by rw [← HR.out]; exact hO.out.on (by (first | ((repeat (first | with_reducible exact Junk.refl _ | with_reducible exact Junk.app _ _ _ _ _ | with_reducible apply Junk.alloc | with_reducible apply Junk.junk | with_reducible apply Junk.drew | with_reducible apply Junk.drewN)); done) | ((try simp only [World.junk_junk, Array.append_assoc]); (repeat (first | with_reducible exact Junk.refl _ | with_reducible exact Junk.app _ _ _ _ _ | with_reducible exact Junk.app2 _ _ _ _ _ _ | with_reducible exact Junk.app3 _ _ _ _ _ _ _ | with_reducible exact Junk.app4 _ _ _ _ _ _ _ _ | with_reducible exact Junk.app5 _ _ _ _ _ _ _ _ _ | with_reducible apply Junk.alloc | with_reducible apply Junk.junk | with_reducible apply Junk.drew | with_reducible apply Junk.drewN)))))), HI⟩, by simp [intOf]; omega⟩
    · have hk2 : ¬ (k : Int) < (n : Int) := by omega
      obtain rfl : k = n := by omega
      have hO1 := hO.out
      have hN1 := hN.out
      rw [List.take_of_length_le (by rw [HL.out]; exact Nat.le_refl _)] at hO1 hN1
      have HO := Lib.hid hO1
      have HN1 := Lib.hid hN1
      clear hO1 hN1 hO hN
      obtain ⟨M, hM⟩ : ∃ M, restL v L = M := ⟨_, rfl⟩
      have HM := Lib.hid hM
      rw [hM] at HO
      clear hM
      have HB := Lib.hid (own_tsb HO.out)
      have HML := Lib.hid HB.out.len
      obtain ⟨hz1, hz2⟩ := su_none (fun x => x.ver == v) M (fun x hx => by
        rw [← HM.out] at hx
        unfold restL at hx
        simpa using (List.mem_filter.1 hx).2)
      have HO2 := Lib.hid (fun w1 (h : TsB w1 oq m cq M) => show Calls Tryd.prog 9 #[.slice oq m cq, .int .i64 v] w1 fun e w' => e = .returned (.tuple #[.int .i64 0, .int .i64 0]) ∧ Junk w1 w' by have := cOf_any oq m cq M v w1 (by omega) h; rw [hz1, hz2, w64_zero] at this; exact this)
      clear hz1 hz2
      go_wp2_with (first | (go_at_call 9; (with_reducible refine (HO1.out _ (HS.out.on (by (first | ((repeat (first | with_reducible exact Junk.refl _ | with_reducible exact Junk.app _ _ _ _ _ | with_reducible apply Junk.alloc | with_reducible apply Junk.junk | with_reducible apply Junk.drew | with_reducible apply Junk.drewN)); done) | ((try simp only [World.junk_junk, Array.append_assoc]); (repeat (first | with_reducible exact Junk.refl _ | with_reducible exact Junk.app _ _ _ _ _ | with_reducible exact Junk.app2 _ _ _ _ _ _ | with_reducible exact Junk.app3 _ _ _ _ _ _ _ | with_reducible exact Junk.app4 _ _ _ _ _ _ _ _ | with_reducible exact Junk.app5 _ _ _ _ _ _ _ _ _ | with_reducible apply Junk.alloc | with_reducible apply Junk.junk | with_reducible apply Junk.drew | with_reducible apply Junk.drewN))))))).mono ?_); rintro e w' ⟨rfl, ⟨osA, dA, rfl⟩⟩))
      obtain ⟨V, hV⟩ : ∃ V, w.junk (os ++ osA) dA = V := ⟨_, rfl⟩
      have HJV := Lib.hid (show Junk w V by rw [← hV]; (first | ((repeat (first | with_reducible exact Junk.refl _ | with_reducible exact Junk.app _ _ _ _ _ | with_reducible apply Junk.alloc | with_reducible apply Junk.junk | with_reducible apply Junk.drew | with_reducible apply Junk.drewN)); done) | ((try simp only [World.junk_junk, Array.append_assoc]); (repeat (first | with_reducible exact Junk.refl _ | with_reducible exact Junk.app _ _ _ _ _ | with_reducible exact Junk.app2 _ _ _ _ _ _ | with_reducible exact Junk.app3 _ _ _ _ _ _ _ | with_reducible exact Junk.app4 _ _ _ _ _ _ _ _ | with_reducible exact Junk.app5 _ _ _ _ _ _ _ _ _ | with_reducible apply Junk.alloc | with_reducible apply Junk.junk | with_reducible apply Junk.drew | with_reducible apply Junk.drewN)))))
      have HBV := Lib.hid (show TsB V oq m cq M by rw [← hV]; exact HB.out.on (by (first | ((repeat (first | with_reducible exact Junk.refl _ | with_reducible exact Junk.app _ _ _ _ _ | with_reducible apply Junk.alloc | with_reducible apply Junk.junk | with_reducible apply Junk.drew | with_reducible apply Junk.drewN)); done) | ((try simp only [World.junk_junk, Array.append_assoc]); (repeat (first | with_reducible exact Junk.refl _ | with_reducible exact Junk.app _ _ _ _ _ | with_reducible exact Junk.app2 _ _ _ _ _ _ | with_reducible exact Junk.app3 _ _ _ _ _ _ _ | with_reducible exact Junk.app4 _ _ _ _ _ _ _ _ | with_reducible exact Junk.app5 _ _ _ _ _ _ _ _ _ | with_reducible apply Junk.alloc | with_reducible apply Junk.junk | with_reducible apply Junk.drew | with_reducible apply Junk.drewN))))))
      rw [hV]
      clear hV HB HO
      go_loopw [11, 12, 13] (fun a b i wr => ∃ (j : Nat) (P Q : Int), i = .int .i64 (j : Int) ∧ a = .int .i64 P ∧ b = .int .i64 Q ∧ Junk V wr ∧ j ≤ m ∧ Hid (P = w64 (suN (fun _ => true) (M.take j)) ∧ Q = w64 (suB (fun _ => true) (M.take j)))) (fun _ _ i _ => m + 1 - (intOf i).toNat)
      case atStart => exact ⟨0, 0, 0, rfl, rfl, rfl, by (first | ((repeat (first | with_reducible exact Junk.refl _ | with_reducible exact Junk.app _ _ _ _ _ | with_reducible apply Junk.alloc | with_reducible apply Junk.junk | with_reducible apply Junk.drew | with_reducible apply Junk.drewN)); done) | ((try simp only [World.junk_junk, Array.append_assoc]); (repeat (first | with_reducible exact Junk.refl _ | with_reducible exact Junk.app _ _ _ _ _ | with_reducible exact Junk.app2 _ _ _ _ _ _ | with_reducible exact Junk.app3 _ _ _ _ _ _ _ | with_reducible exact Junk.app4 _ _ _ _ _ _ _ _ | with_reducible exact Junk.app5 _ _ _ _ _ _ _ _ _ | with_reducible apply Junk.alloc | with_reducible apply Junk.junk | with_reducible apply Junk.drew | with_reducible apply Junk.drewN)))), by omega, Lib.hid ⟨by simp [suN, w64_zero], by simp [suB, w64_zero]⟩⟩
      case round =>
        obtain ⟨j, P, Q, rfl, rfl, rfl, ⟨os2, d2, rfl⟩, hj, hP⟩ := hrel
        by_cases hjl : j < m
        · have hj2 : (j : Int) < (m : Int) := by omega
          have pw := wrapk_i64 ((j : Int) + 1) (by omega) (by omega)
          obtain ⟨x, hx⟩ : ∃ x, M[j]? = some x := ⟨_, List.getElem?_eq_getElem (by rw [HML.out]; exact hjl)⟩
          obtain ⟨bb, off, hob, hb, c0, c1, c2, c3⟩ := HBV.out.at_ j x hx
          subst hob
          have HX := Lib.hid hx
          clear hx
          obtain ⟨P2, hP2⟩ : ∃ P2, IntKind.i64.wrap (P + x.n) = P2 := ⟨_, rfl⟩
          obtain ⟨Q2, hQ2⟩ : ∃ Q2, IntKind.i64.wrap (Q + x.b) = Q2 := ⟨_, rfl⟩
          have HP2 := Lib.hid hP2
          have HQ2 := Lib.hid hQ2
          have HI := Lib.hid (show P2 = w64 (suN (fun _ => true) (M.take (j + 1))) ∧ Q2 = w64 (suB (fun _ => true) (M.take (j + 1))) from by
            rw [suN_take HX.out, suB_take HX.out, if_pos rfl, if_pos rfl]
            exact ⟨by rw [← w64_add, ← hP.out.1]; exact HP2.out.symm, by rw [← w64_add, ← hP.out.2]; exact HQ2.out.symm⟩)
          go_wp2
          refine wp_region_junk (by kernel_rfl) (by kernel_rfl) ?_; (repeat (go_big_quiet_step (first | fail))); refine wpQuiet_nil ?_; rintro _ ⟨⟨osq, dq⟩, rfl⟩
          go_wp2
          exact ⟨⟨j + 1, P2, Q2, by go_num, rfl, rfl, by (first | ((repeat (first | with_reducible exact Junk.refl _ | with_reducible exact Junk.app _ _ _ _ _ | with_reducible apply Junk.alloc | with_reducible apply Junk.junk | with_reducible apply Junk.drew | with_reducible apply Junk.drewN)); done) | ((try simp only [World.junk_junk, Array.append_assoc]); (repeat (first | with_reducible exact Junk.refl _ | with_reducible exact Junk.app _ _ _ _ _ | with_reducible exact Junk.app2 _ _ _ _ _ _ | with_reducible exact Junk.app3 _ _ _ _ _ _ _ | with_reducible exact Junk.app4 _ _ _ _ _ _ _ _ | with_reducible exact Junk.app5 _ _ _ _ _ _ _ _ _ | with_reducible apply Junk.alloc | with_reducible apply Junk.junk | with_reducible apply Junk.drew | with_reducible apply Junk.drewN)))), by omega, HI⟩, by simp [intOf]; omega⟩
        · have hj2 : ¬ (j : Int) < (m : Int) := by omega
          obtain rfl : j = m := by omega
          have e1 : IntKind.i64.wrap (SN + P) = N := by
            rw [HN1.out.1, ← HSUM.out.1, hP.out.1, List.take_of_length_le (by rw [HML.out]; exact Nat.le_refl _), ← HM.out]
            show w64 (w64 _ + w64 _) = _
            rw [w64_add2]
            unfold restL
            rw [suN_parts]
          have e2 : IntKind.i64.wrap (SB + Q) = B := by
            rw [HN1.out.2, ← HSUM.out.2, hP.out.2, List.take_of_length_le (by rw [HML.out]; exact Nat.le_refl _), ← HM.out]
            show w64 (w64 _ + w64 _) = _
            rw [w64_add2]
            unfold restL
            rw [suB_parts]
          go_wp2_with (first | (go_at_call 9; (with_reducible refine (HO2.out _ (HBV.out.on (by (first | ((repeat (first | with_reducible exact Junk.refl _ | with_reducible exact Junk.app _ _ _ _ _ | with_reducible apply Junk.alloc | with_reducible apply Junk.junk | with_reducible apply Junk.drew | with_reducible apply Junk.drewN)); done) | ((try simp only [World.junk_junk, Array.append_assoc]); (repeat (first | with_reducible exact Junk.refl _ | with_reducible exact Junk.app _ _ _ _ _ | with_reducible exact Junk.app2 _ _ _ _ _ _ | with_reducible exact Junk.app3 _ _ _ _ _ _ _ | with_reducible exact Junk.app4 _ _ _ _ _ _ _ _ | with_reducible exact Junk.app5 _ _ _ _ _ _ _ _ _ | with_reducible apply Junk.alloc | with_reducible apply Junk.junk | with_reducible apply Junk.drew | with_reducible apply Junk.drewN))))))).mono ?_); rintro e w' ⟨rfl, ⟨osZ, dZ, rfl⟩⟩))
          all_goals (go_ret; exact ⟨ret_bool rfl, HJV.out.trans (by (first | ((repeat (first | with_reducible exact Junk.refl _ | with_reducible exact Junk.app _ _ _ _ _ | with_reducible apply Junk.alloc | with_reducible apply Junk.junk | with_reducible apply Junk.drew | with_reducible apply Junk.drewN)); done) | ((try simp only [World.junk_junk, Array.append_assoc]); (repeat (first | with_reducible exact Junk.refl _ | with_reducible exact Junk.app _ _ _ _ _ | with_reducible exact Junk.app2 _ _ _ _ _ _ | with_reducible exact Junk.app3 _ _ _ _ _ _ _ | with_reducible exact Junk.app4 _ _ _ _ _ _ _ _ | with_reducible exact Junk.app5 _ _ _ _ _ _ _ _ _ | with_reducible apply Junk.alloc | with_reducible apply Junk.junk | with_reducible apply Junk.drew | with_reducible apply Junk.drewN)))))⟩)

theorem countOnce_core (W : World) (base : Nat) (v0 v1 : Value) (a0 : Arg Tryd.prog W base 26 v0) (a1 : Arg Tryd.prog W base 22 v1) (hL : laidMetH Tryd.prog Rows.countOnceRow.laid W) :
    Calls Tryd.prog 4 #[v0, v1] W fun e W' => e = .returned (.bool true) ∧ Junk W W' := by
  have hL' := hL
  have f_l := a0.slice Tryd.underlying26
  obtain ⟨l_a, l_l, l_c, l, e_l, lc_l, cm_l, S_l, r_l⟩ := f_l.slice Tryd.underlying26 (Nat.lt_of_lt_of_eq (by decide : 0 < 4) (by kernel_rfl)); cases e_l
  obtain ⟨v, rfl, w_v⟩ := a1.int Tryd.underlying22
  obtain ⟨L, hL, hS, hwf⟩ := tls_of S_l r_l
  have hlm : maxLen = 9223372036854775807 := rfl
  exact countOnce_walk L v l_a l_l l_c (min l_l 100) W (asc_laid hL') hL lc_l (by omega) hS (Cells.nil_slice Tryd.underlying26 f_l) (by omega) (by omega) (by omega) (by omega)
theorem countOnce_door (os : Os) (args : Array Value) : laidMetH Tryd.prog Rows.countOnceRow.laid ((World.doorLaid Tryd.prog 33 os).forCall (fun _ _ => 0) ⟨#[], args, []⟩).memory :=
  laidMetH_of_parts3 (fuel := 8) (laidMet_of_run' 8 (by kernel_rfl) (by kernel_rfl)) (by kernel_rfl) (by kernel_rfl)
set_option maxRecDepth 100000 in
theorem countOnce_lifted (os : Os) (started : os.Started) (H : Type) (enc : TypeId × Value → H) :
    ReturnsInHanded {} Tryd.checked os 4 .any (fun w args => (Rows.countOnceSpec.pre enc Tryd.prog Tryd.f4 [] false w args ∧ laidMetH Tryd.prog Rows.countOnceRow.laid w) ∧ sizedMet enc Tryd.prog Tryd.f4 (OpenSpec.ofChange Rows.countOnceSpec) false w args)
      (Rows.countOnceSpec.post enc Tryd.prog Tryd.f4 false true false false) := by
  refine returnsInHanded_of_change_and (C := Tryd.checked) (X := fun w _ => laidMetH Tryd.prog Rows.countOnceRow.laid w) (fun _ _ _ hh h => h.of_heap hh) (by kernel_rfl) started (by kernel_rfl) Tryd.func4
    (ChangeSpec.witness_shaped (enc := enc) (C := Tryd.checked) (os := os) (X := fun w _ => laidMetH Tryd.prog Rows.countOnceRow.laid w) false (World.doorLaid Tryd.prog 33 os) #[.slice none 0 0, .int .i64 0] 8 rfl (World.shaped_of_RefB (by kernel_rfl) (by kernel_rfl)) (by kernel_rfl) (by kernel_rfl) (by kernel_rfl) (countOnce_door os _)) ?_
  intro W base args ds gs before hval hW _ _ hL _
  obtain ⟨p, q, hA, _, _, _, _⟩ := id hW
  have hargs : Args Tryd.prog W base Tryd.f4.params.toList args.toList := args_of (fun j t v h1 h2 => hval j t v (by simpa using h1) (by simpa using h2)) hA
  rw [Tryd.params4] at hargs
  obtain ⟨v0, l0, e0, a0, r0⟩ := args_cons hargs
  obtain ⟨v1, l1, e1, a1, r1⟩ := args_cons r0
  have hn := args_nil r1
  have he : args = #[v0, v1] := by
    apply Array.ext'
    simp only [e0, e1, hn]
  subst he
  exact (countOnce_core W base v0 v1 a0 a1 hL).mono fun e W' ⟨he, hj⟩ => ⟨_, he, post_true (tb := 4) (by kernel_rfl) (by kernel_rfl) rfl (by kernel_rfl) rfl hW (fun hg hl => by
    subst hg
    match ds, hl with
    | [_, _], _ => exact ⟨rfl, rfl, rfl⟩) hj⟩
theorem countOnce_said : Rows.CountOnceSaid :=
  OpenClaim.holds_of_wide 4 Tryd.f4 rfl rfl rfl rfl rfl rfl rfl ⟨rfl, rfl, rfl, rfl, rfl⟩ rfl rfl rfl rfl rfl (by kernel_rfl) Tryd.func4 (by kernel_rfl)
    (of_decide_eq_true (by kernel_rfl)) (by unfold Func.isWrapper; first | (rw [if_pos (by decide +kernel)]; kernel_rfl) | (rw [if_neg (by decide +kernel)]; exact ⟨rfl, rfl⟩))
    (fun os started H enc _ => countOnce_lifted os started H enc)
theorem countOnce_holds : Rows.CountOnceCardSaid :=
  Claim7.holds_tied_plain_at .later [] [.listed, .data] true (true, "6b855da01afbce562a7e4b6a94d7f6d84beb6f20fbc16cd0596a4df9d6146426") false
    countOnce_said (fun _ h => by cases h) (by kernel_rfl) (fun _ h => by cases h) countOnce_row_tie rfl ⟨rfl, rfl⟩ (by kernel_rfl) rfl
    (fun f fn hf hfn => by
      obtain rfl : f = 4 := Option.some.inj ((show Tryd.prog.funcNamed Rows.countOnceRow.func = some 4 by kernel_rfl).symm.trans hf) |>.symm
      obtain rfl : fn = Tryd.f4 := (Option.some.inj (Tryd.func4.symm.trans hfn)).symm
      exact ⟨by kernel_rfl, fun j t ht => by
        rw [Tryd.params4] at ht
        rcases j with _ | _ | j
        · obtain rfl : t = 26 := by simpa using ht.symm
          exact (show Tryd.prog.wantsStandIn 26 = false by kernel_rfl)
        · obtain rfl : t = 22 := by simpa using ht.symm
          exact (show Tryd.prog.wantsStandIn 22 = false by kernel_rfl)
        · simp at ht⟩)
    (by kernel_rfl)

end Go.Proofs.YteoommoolmddaaaDoor
