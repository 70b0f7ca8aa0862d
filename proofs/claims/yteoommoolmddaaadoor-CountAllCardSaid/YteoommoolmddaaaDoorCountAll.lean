/- The law CountAll: a count adds up; it is the same in whatever order; joined of two parts. -/
import Derived.Test.YteoommoolmddaaaDoorCoK
set_option linter.unusedVariables false
set_option maxRecDepth 100000
set_option linter.unusedSimpArgs false
namespace Go.Proofs.YteoommoolmddaaaDoor
open Go.RowKit Go.ChangeShapes Go.WideShapes Go.ChangeAt Go.WideMaps Go.WideElems
theorem tmod_nat (a b : Nat) : Int.tmod (a : Int) (b : Int) = ((a % b : Nat) : Int) := by
  rw [Int.tmod_eq_emod_of_nonneg (by omega)]; rfl
theorem map_tot : ∀ {C : List Ca}, (∀ x ∈ C, x.Wf) → totN (C.map Ca.tl) = C.length ∧ 0 ≤ totB (C.map Ca.tl) ∧ totB (C.map Ca.tl) ≤ 65535 * C.length
  | [], _ => by simp [totN, totB]
  | x :: C, h => by
    obtain ⟨a, b, c⟩ := map_tot (C := C) (fun y hy => h y (by simp [hy]))
    have hx := (h x (by simp)).b
    simp only [totN, totB, List.map_cons, List.sum_cons, Ca.tl, List.length_cons] at *
    omega
theorem map_take_tot {C : List Ca} (h : ∀ x ∈ C, x.Wf) (i : Nat) : 0 ≤ totB ((C.map Ca.tl).take i) ∧ totB ((C.map Ca.tl).take i) ≤ 65535 * C.length := by
  rw [← List.map_take]
  obtain ⟨a, b, c⟩ := map_tot (C := C.take i) (fun y hy => h y (List.mem_of_mem_take hy))
  have : (C.take i).length ≤ C.length := by rw [List.length_take]; omega
  omega
theorem totB_step {T : List Tl} {i : Nat} {x : Tl} (h : T[i]? = some x) : totB (T.take (i + 1)) = totB (T.take i) + x.b := by
  rw [take_one h, (tot_app _ _).2]
  simp [totB]
/-- What the law's first loop holds. -/
structure CaSt (w wr : World) (T : List Tl) (cut s i : Nat) (b : Int) (o1 o2 o3 o4 : Option Addr) (q1 q2 q3 q4 c1 c2 c3 c4 : Nat) : Prop where
  b : b = totB (T.take i)
  f1 : ∃ X, Cn wr o1 q1 c1 X (T.take i)
  f2 : ∃ X, Cn wr o2 q2 c2 X ((T.take cut).take i)
  f3 : ∃ X, Cn wr o3 q3 c3 X ((T.drop cut).take (i - cut))
  f4 : ∃ X, Cn wr o4 q4 c4 X ((rot T s).take i)
theorem zone_at {A : List Tl} {z n : Nat} (hA : TlR A) (hn : totN A = n) (h : n ≤ 200) (hb : totB A ≤ 20000000) :
    ∃ P Q N B N2 B2 : Int, suN (fun x => x.zone == (z : Int)) A = P ∧ suB (fun x => x.zone == (z : Int)) A = Q ∧ suN (fun x => decide (x.zone < (z : Int))) A = N ∧ suB (fun x => decide (x.zone < (z : Int))) A = B ∧ suN (fun x => decide (x.zone < (z : Int) + 1)) A = N2 ∧ suB (fun x => decide (x.zone < (z : Int) + 1)) A = B2 ∧ N + P = N2 ∧ B + Q = B2 ∧ 0 ≤ N2 ∧ N2 ≤ 200 ∧ 0 ≤ B2 ∧ B2 ≤ 20000000 ∧ w64 P = P ∧ w64 Q = Q := by
  obtain ⟨a, b⟩ := zone_step A z
  have h1 := su_le (pr := fun x => x.zone == (z : Int)) hA
  have h2 := su_le (pr := fun x => decide (x.zone < (z : Int) + 1)) hA
  exact ⟨_, _, _, _, _, _, rfl, rfl, rfl, rfl, rfl, rfl, a.symm, b.symm, by omega, by omega, by omega, by omega, w64_small (by omega) (by omega), w64_small (by omega) (by omega)⟩
set_option maxHeartbeats 8000000 in
theorem countAll_walk (C0 : List Ca) (k s : Nat) (oa : Option Addr) (l c n : Nat) (w : World) (ht : AscT w) (hL : C0.length = l) (hlc : l ≤ c) (hcm : c ≤ 9223372036854775807) (hS : CsAt w oa C0) (hwf : ∀ x ∈ C0, x.Wf) (hk : k ≤ 255) (hs : s ≤ 255) (hmin : (min (l : Int) 200).toNat = n) (hmi : min (l : Int) 200 = (n : Int)) (hn : n ≤ l) (hn1 : n ≤ 200) :
    Calls Tryd.prog 5 #[.slice oa l c, .int .u8 (k : Int), .int .u8 (s : Int)] w fun e w' => e = .returned (.bool true) ∧ Junk w w' := by
  have HT := Lib.hid ht
  have HAW := Lib.hid (fun w1 (h : AscT w1) => awake30_any w1 h)
  obtain ⟨C, hCC⟩ : ∃ C, C0.take n = C := ⟨_, rfl⟩
  have hCS : CsAt w oa C := by rw [← hCC]; exact hS.take n
  have hCl : C.length = n := by rw [← hCC, List.length_take]; omega
  have hCw : ∀ x ∈ C, x.Wf := fun x hx => hwf x (by rw [← hCC] at hx; exact List.mem_of_mem_take hx)
  obtain ⟨t1, t2, t3⟩ := map_tot hCw
  obtain ⟨cut, hcut⟩ : ∃ cut, k % (n + 1) = cut := ⟨_, rfl⟩
  have hcl : cut ≤ n := by have := Nat.mod_lt k (show 0 < n + 1 by omega); omega
  obtain ⟨A, L, R, a0, l0, r0, d0, x0, y0, a1, l1, r1, an, ab, az⟩ := count_all (T := C.map Ca.tl) (n := n) (c := cut) (s := s) (fun t ht => by
    obtain ⟨x, hx, rfl⟩ := List.mem_map.1 ht
    have hw := hCw x hx
    exact ⟨hw.ok, hw.z⟩) (by rw [t1, hCl]) hn1 (by omega)
  obtain ⟨T, hTT⟩ : ∃ T, C.map Ca.tl = T := ⟨_, rfl⟩
  rw [hTT] at a0 l0 r0 d0 ab t1 t2 t3
  have hTl : T.length = n := by rw [← hTT, List.length_map, hCl]
  have HTG := Lib.hid (fun (i : Nat) (x : Ca) (h : C[i]? = some x) => show T[i]? = some x.tl by rw [← hTT, List.getElem?_map, h]; rfl)
  have HTB := Lib.hid (fun (i : Nat) => show 0 ≤ totB (T.take i) ∧ totB (T.take i) ≤ 13107000 by have := map_take_tot hCw i; rw [hTT] at this; omega)
  have HS := Lib.hid hCS
  have HCL := Lib.hid hCl
  have HCW := Lib.hid hCw
  have HTL := Lib.hid hTl
  have HF := Lib.hid (And.intro a0 (And.intro l0 (And.intro r0 d0)))
  have HJF := Lib.hid (And.intro x0 y0)
  have HAR := Lib.hid (And.intro a1 (And.intro l1 r1))
  have HAT := Lib.hid (show totN A = n ∧ totB A = totB T ∧ totB T ≤ 20000000 ∧ 0 ≤ totB T from ⟨an, ab, by omega, t2⟩)
  have HAZ := Lib.hid az
  have hb0 : (n : Int) ≤ (c : Int) := by omega
  have hb1 : (0 : Int) ≤ (n : Int) := by omega
  have hb2 : n ≤ c := by omega
  have pk := wrapk_i64 (k : Int) (by omega) (by omega)
  have ps := wrapk_i64 (s : Int) (by omega) (by omega)
  have pn := wrapk_i64 ((n : Int) + 1) (by omega) (by omega)
  have hz : ((n : Int) + 1 == 0) = false := by simp; omega
  have hz' : ¬ (n : Int) + 1 = 0 := by omega
  have hm : Int.tmod (k : Int) ((n : Int) + 1) = (cut : Int) := by rw [show (n : Int) + 1 = ((n + 1 : Nat) : Int) by omega, tmod_nat, hcut]
  clear ht hS hCS hL hwf hCC hCl hCw hTT hTl a0 l0 r0 d0 x0 y0 a1 l1 r1 an ab az t1 t2 t3 hcut hlc hn
  go_enter Tryd.func5, Tryd.ntmps5
  go_wp2_with (first | (go_at_call 7; (with_reducible refine (HAW.out _ (HT.out.on (by (first | ((repeat (first | with_reducible exact Junk.refl _ | with_reducible exact Junk.app _ _ _ _ _ | with_reducible apply Junk.alloc | with_reducible apply Junk.junk | with_reducible apply Junk.drew | with_reducible apply Junk.drewN)); done) | ((try simp only [World.junk_junk, Array.append_assoc]); (repeat (first | with_reducible exact Junk.refl _ | with_reducible exact Junk.app _ _ _ _ _ | with_reducible exact Junk.app2 _ _ _ _ _ _ | with_reducible exact Junk.app3 _ _ _ _ _ _ _ | with_reducible exact Junk.app4 _ _ _ _ _ _ _ _ | with_reducible exact Junk.app5 _ _ _ _ _ _ _ _ _ | with_reducible apply Junk.alloc | with_reducible apply Junk.junk | with_reducible apply Junk.drew | with_reducible apply Junk.drewN))))))).mono ?_); rintro e w' ⟨rfl, ⟨osj, dj, rfl⟩⟩))
  clear hm hz hz' pn pk hmin hmi
  go_loopw [7, 8, 9, 10, 11, 13] (fun v1 v2 v3 v4 v5 v6 wr => ∃ (i q1 q2 q3 q4 c1 c2 c3 c4 : Nat) (b : Int) (o1 o2 o3 o4 : Option Addr), v6 = .int .i64 (i : Int) ∧ v1 = .slice o1 q1 c1 ∧ v2 = .slice o2 q2 c2 ∧ v3 = .slice o3 q3 c3 ∧ v4 = .slice o4 q4 c4 ∧ v5 = .int .i64 b ∧ Junk w wr ∧ i ≤ n ∧ Hid (CaSt w wr T cut s i b o1 o2 o3 o4 q1 q2 q3 q4 c1 c2 c3 c4)) (fun _ _ _ _ _ i _ => n + 1 - (intOf i).toNat)
  case atStart => exact ⟨0, 0, 0, 0, 0, 0, 0, 0, 0, 0, none, none, none, none, rfl, rfl, rfl, rfl, rfl, rfl, by (first | ((repeat (first | with_reducible exact Junk.refl _ | with_reducible exact Junk.app _ _ _ _ _ | with_reducible apply Junk.alloc | with_reducible apply Junk.junk | with_reducible apply Junk.drew | with_reducible apply Junk.drewN)); done) | ((try simp only [World.junk_junk, Array.append_assoc]); (repeat (first | with_reducible exact Junk.refl _ | with_reducible exact Junk.app _ _ _ _ _ | with_reducible exact Junk.app2 _ _ _ _ _ _ | with_reducible exact Junk.app3 _ _ _ _ _ _ _ | with_reducible exact Junk.app4 _ _ _ _ _ _ _ _ | with_reducible exact Junk.app5 _ _ _ _ _ _ _ _ _ | with_reducible apply Junk.alloc | with_reducible apply Junk.junk | with_reducible apply Junk.drew | with_reducible apply Junk.drewN)))), by omega, Lib.hid ⟨by simp [totB], ⟨[], by simpa using Cn.none _⟩, ⟨[], by simpa using Cn.none _⟩, ⟨[], by simpa using Cn.none _⟩, ⟨[], by simpa using Cn.none _⟩⟩⟩
  case round =>
    obtain ⟨i, q1, q2, q3, q4, c1, c2, c3, c4, b, o1, o2, o3, o4, rfl, rfl, rfl, rfl, rfl, rfl, ⟨os, d, rfl⟩, hi, hst⟩ := hrel
    obtain ⟨hbt, ⟨X1, f1⟩, ⟨X2, f2⟩, ⟨X3, f3⟩, ⟨X4, f4⟩⟩ := hst.out
    clear hst
    have hc1 := Lib.hid f1
    have hc2 := Lib.hid f2
    have hc3 := Lib.hid f3
    have hc4 := Lib.hid f4
    have HBT := Lib.hid hbt
    clear f1 f2 f3 f4 hbt
    by_cases hil : i < n
    · have hi2 : (i : Int) < (n : Int) := by omega
      have pw := wrapk_i64 ((i : Int) + 1) (by omega) (by omega)
      have pw2 := wrapk_i64 ((i : Int) + (s : Int)) (by omega) (by omega)
      have hzn : ((n : Int) == 0) = false := by simp; omega
      have hzn' : ¬ (n : Int) = 0 := by omega
      obtain ⟨j, hj⟩ : ∃ j, (i + s) % n = j := ⟨_, rfl⟩
      have hjn : j < n := by have := Nat.mod_lt (i + s) (show 0 < n by omega); omega
      have hj2 : (j : Int) < (n : Int) := by omega
      have hmj : Int.tmod ((i : Int) + (s : Int)) (n : Int) = (j : Int) := by rw [show (i : Int) + (s : Int) = ((i + s : Nat) : Int) by omega, tmod_nat, hj]
      obtain ⟨x, hx⟩ : ∃ x, C[i]? = some x := ⟨_, List.getElem?_eq_getElem (by rw [HCL.out]; exact hil)⟩
      obtain ⟨y, hy⟩ : ∃ y, C[j]? = some y := ⟨_, List.getElem?_eq_getElem (by rw [HCL.out]; exact hjn)⟩
      have hxT := HTG.out i x hx
      have hyT := HTG.out j y hy
      have hxw := HCW.out x (List.mem_of_getElem? hx)
      have hyw := HCW.out y (List.mem_of_getElem? hy)
      have hrT : (rot T s)[i]? = some y.tl := by rw [rot_get T s i (by rw [HTL.out]; exact hil), HTL.out, hj]; exact hyT
      obtain ⟨N1, n1, n1r, ha1⟩ := cn_add hc1.out hxT HF.out.1 (by rw [HTL.out]; omega) hxw
      obtain ⟨N4, n4, n4r, ha4⟩ := cn_add hc4.out hrT HF.out.2.2.2 (by rw [rot_len, HTL.out]; omega) hyw
      have HA1 := Lib.hid ha1
      have HA4 := Lib.hid ha4
      have HN1 := Lib.hid (And.intro n1 n1r)
      have HN4 := Lib.hid (And.intro n4 n4r)
      have hB := HTB.out (i + 1)
      have hBs := totB_step hxT
      rw [← HBT.out] at hBs
      change _ = b + x.b at hBs
      rw [hBs] at hB
      have pb := wrapk_i64 (b + x.b) (by omega) (by omega)
      have HBS := Lib.hid hBs
      obtain ⟨xz, xv, xb⟩ := x
      obtain ⟨yz, yv, yb⟩ := y
      obtain ⟨⟨x0, x1⟩, ⟨x2, x3⟩, ⟨x4, x5⟩⟩ := hxw
      obtain ⟨⟨y0, y1⟩, ⟨y2, y3⟩, ⟨y4, y5⟩⟩ := hyw
      simp only at x0 x1 x2 x3 x4 x5 y0 y1 y2 y3 y4 y5 pb HA1 HA4 HBS
      have k0 := wrapk_i64 xz (by omega) (by omega)
      have k1 := wrapk_i64 xv (by omega) (by omega)
      have k2 := wrapk_i64 xb (by omega) (by omega)
      have k3 := wrapk_i64 yz (by omega) (by omega)
      have k4 := wrapk_i64 yv (by omega) (by omega)
      have k5 := wrapk_i64 yb (by omega) (by omega)
      obtain ⟨bb, off, hob, hbb, z0, z1, z2⟩ := HS.out i _ hx
      obtain ⟨bb', off', hob', hbb', u0, u1, u2⟩ := HS.out j _ hy
      rw [hob] at hob'
      cases hob'
      subst hob
      simp only at z0 z1 z2 u0 u1 u2
      have HX := Lib.hid hxT
      have hwx : Ca.Wf ⟨xz, xv, xb⟩ := ⟨⟨x0, x1⟩, ⟨x2, x3⟩, ⟨x4, x5⟩⟩
      by_cases hic : i < cut
      · have hic2 : (i : Int) < (cut : Int) := by omega
        obtain ⟨N2, n2, n2r, ha2⟩ := cn_add (x := ⟨xz, xv, xb⟩) hc2.out (by rw [List.getElem?_take, if_pos hic]; exact HX.out) HF.out.2.1 (by rw [List.length_take, HTL.out]; omega) hwx
        have HA2 := Lib.hid ha2
        have HN2 := Lib.hid (And.intro n2 n2r)
        have HE := Lib.hid (show i + 1 - cut = i - cut by omega)
        clear hx hy hxT hyT hrT ha1 ha2 ha4 n1 n1r n2 n2r n4 n4r hB hBs hj x0 x1 x2 x3 x4 x5 y0 y1 y2 y3 y4 y5 hwx hbb'
        go_wp2_with (first | (go_at_call 10; (with_reducible refine (HA1.out _ (hc1.out.at_.on ?_)).mono ?_); (· (first | ((repeat (first | with_reducible exact Junk.refl _ | with_reducible exact Junk.app _ _ _ _ _ | with_reducible apply Junk.alloc | with_reducible apply Junk.junk | with_reducible apply Junk.drew | with_reducible apply Junk.drewN)); done) | ((try simp only [World.junk_junk, Array.append_assoc]); (repeat (first | with_reducible exact Junk.refl _ | with_reducible exact Junk.app _ _ _ _ _ | with_reducible exact Junk.app2 _ _ _ _ _ _ | with_reducible exact Junk.app3 _ _ _ _ _ _ _ | with_reducible exact Junk.app4 _ _ _ _ _ _ _ _ | with_reducible exact Junk.app5 _ _ _ _ _ _ _ _ _ | with_reducible apply Junk.alloc | with_reducible apply Junk.junk | with_reducible apply Junk.drew | with_reducible apply Junk.drewN))))); rintro e w' ⟨oz1, cz1, rfl, ⟨os1, ds1, rfl⟩, hb1⟩; have Hb1 := Lib.hid hb1; clear hb1) | (go_at_call 10; (with_reducible refine (HA2.out _ (hc2.out.at_.on ?_)).mono ?_); (· (first | ((repeat (first | with_reducible exact Junk.refl _ | with_reducible exact Junk.app _ _ _ _ _ | with_reducible apply Junk.alloc | with_reducible apply Junk.junk | with_reducible apply Junk.drew | with_reducible apply Junk.drewN)); done) | ((try simp only [World.junk_junk, Array.append_assoc]); (repeat (first | with_reducible exact Junk.refl _ | with_reducible exact Junk.app _ _ _ _ _ | with_reducible exact Junk.app2 _ _ _ _ _ _ | with_reducible exact Junk.app3 _ _ _ _ _ _ _ | with_reducible exact Junk.app4 _ _ _ _ _ _ _ _ | with_reducible exact Junk.app5 _ _ _ _ _ _ _ _ _ | with_reducible apply Junk.alloc | with_reducible apply Junk.junk | with_reducible apply Junk.drew | with_reducible apply Junk.drewN))))); rintro e w' ⟨oz2, cz2, rfl, ⟨os2, ds2, rfl⟩, hb2⟩; have Hb2 := Lib.hid hb2; clear hb2) | (go_at_call 10; (with_reducible refine (HA4.out _ (hc4.out.at_.on ?_)).mono ?_); (· (first | ((repeat (first | with_reducible exact Junk.refl _ | with_reducible exact Junk.app _ _ _ _ _ | with_reducible apply Junk.alloc | with_reducible apply Junk.junk | with_reducible apply Junk.drew | with_reducible apply Junk.drewN)); done) | ((try simp only [World.junk_junk, Array.append_assoc]); (repeat (first | with_reducible exact Junk.refl _ | with_reducible exact Junk.app _ _ _ _ _ | with_reducible exact Junk.app2 _ _ _ _ _ _ | with_reducible exact Junk.app3 _ _ _ _ _ _ _ | with_reducible exact Junk.app4 _ _ _ _ _ _ _ _ | with_reducible exact Junk.app5 _ _ _ _ _ _ _ _ _ | with_reducible apply Junk.alloc | with_reducible apply Junk.junk | with_reducible apply Junk.drew | with_reducible apply Junk.drewN))))); rintro e w' ⟨oz4, cz4, rfl, ⟨os4, ds4, rfl⟩, hb4⟩; have Hb4 := Lib.hid hb4; clear hb4))
        exact ⟨⟨i + 1, N1.length, N2.length, q3, N4.length, cz1, cz2, c3, cz4, b + xb, oz1, oz2, o3, oz4, by go_num, rfl, rfl, rfl, rfl, rfl, by (first | ((repeat (first | with_reducible exact Junk.refl _ | with_reducible exact Junk.app _ _ _ _ _ | with_reducible apply Junk.alloc | with_reducible apply Junk.junk | with_reducible apply Junk.drew | with_reducible apply Junk.drewN)); done) | ((try simp only [World.junk_junk, Array.append_assoc]); (repeat (first | with_reducible exact Junk.refl _ | with_reducible exact Junk.app _ _ _ _ _ | with_reducible exact Junk.app2 _ _ _ _ _ _ | with_reducible exact Junk.app3 _ _ _ _ _ _ _ | with_reducible exact Junk.app4 _ _ _ _ _ _ _ _ | with_reducible exact Junk.app5 _ _ _ _ _ _ _ _ _ | with_reducible apply Junk.alloc | with_reducible apply Junk.junk | with_reducible apply Junk.drew | with_reducible apply Junk.drewN)))), by omega, Lib.hid ⟨HBS.out.symm, ⟨N1, Hb1.out.on (by (first | ((repeat (first | with_reducible exact Junk.refl _ | with_reducible exact Junk.app _ _ _ _ _ | with_reducible apply Junk.alloc | with_reducible apply Junk.junk | with_reducible apply Junk.drew | with_reducible apply Junk.drewN)); done) | ((try simp only [World.junk_junk, Array.append_assoc]); (repeat (first | with_reducible exact Junk.refl _ | with_reducible exact Junk.app _ _ _ _ _ | with_reducible exact Junk.app2 _ _ _ _ _ _ | with_reducible exact Junk.app3 _ _ _ _ _ _ _ | with_reducible exact Junk.app4 _ _ _ _ _ _ _ _ | with_reducible exact Junk.app5 _ _ _ _ _ _ _ _ _ | with_reducible apply Junk.alloc | with_reducible apply Junk.junk | with_reducible apply Junk.drew | with_reducible apply Junk.drewN))))), HN1.out.2, HN1.out.1⟩, ⟨N2, Hb2.out.on (by (first | ((repeat (first | with_reducible exact Junk.refl _ | with_reducible exact Junk.app _ _ _ _ _ | with_reducible apply Junk.alloc | with_reducible apply Junk.junk | with_reducible apply Junk.drew | with_reducible apply Junk.drewN)); done) | ((try simp only [World.junk_junk, Array.append_assoc]); (repeat (first | with_reducible exact Junk.refl _ | with_reducible exact Junk.app _ _ _ _ _ | with_reducible exact Junk.app2 _ _ _ _ _ _ | with_reducible exact Junk.app3 _ _ _ _ _ _ _ | with_reducible exact Junk.app4 _ _ _ _ _ _ _ _ | with_reducible exact Junk.app5 _ _ _ _ _ _ _ _ _ | with_reducible apply Junk.alloc | with_reducible apply Junk.junk | with_reducible apply Junk.drew | with_reducible apply Junk.drewN))))), HN2.out.2, HN2.out.1⟩, ⟨X3, by rw [HE.out]; exact hc3.out.on (by (first | ((repeat (first | with_reducible exact Junk.refl _ | with_reducible exact Junk.app _ _ _ _ _ | with_reducible apply Junk.alloc | with_reducible apply Junk.junk | with_reducible apply Junk.drew | with_reducible apply Junk.drewN)); done) | ((try simp only [World.junk_junk, Array.append_assoc]); (repeat (first | with_reducible exact Junk.refl _ | with_reducible exact Junk.app _ _ _ _ _ | with_reducible exact Junk.app2 _ _ _ _ _ _ | with_reducible exact Junk.app3 _ _ _ _ _ _ _ | with_reducible exact Junk.app4 _ _ _ _ _ _ _ _ | with_reducible exact Junk.app5 _ _ _ _ _ _ _ _ _ | with_reducible apply Junk.alloc | with_reducible apply Junk.junk | with_reducible apply Junk.drew | with_reducible apply Junk.drewN)))))⟩, ⟨N4, Hb4.out.on (by (first | ((repeat (first | with_reducible exact Junk.refl _ | with_reducible exact Junk.app _ _ _ _ _ | with_reducible apply Junk.alloc | with_reducible apply Junk.junk | with_reducible apply Junk.drew | with_reducible apply Junk.drewN)); done) | ((try simp only [World.junk_junk, Array.append_assoc]); (repeat (first | with_reducible exact Junk.refl _ | with_reducible exact Junk.app _ _ _ _ _ | with_reducible exact Junk.app2 _ _ _ _ _ _ | with_reducible exact Junk.app3 _ _ _ _ _ _ _ | with_reducible exact Junk.app4 _ _ _ _ _ _ _ _ | with_reducible exact Junk.app5 _ _ _ _ _ _ _ _ _ | with_reducible apply Junk.alloc | with_reducible apply Junk.junk | with_reducible apply Junk.drew | with_reducible apply Junk.drewN))))), HN4.out.2, HN4.out.1⟩⟩⟩, by simp [intOf]; omega⟩
      · have hic2 : ¬ (i : Int) < (cut : Int) := by omega
        have he : i + 1 - cut = (i - cut) + 1 := by omega
        obtain ⟨N3, n3, n3r, ha3⟩ := cn_add (x := ⟨xz, xv, xb⟩) hc3.out (by rw [List.getElem?_drop, show cut + (i - cut) = i by omega]; exact HX.out) HF.out.2.2.1 (by rw [List.length_drop, HTL.out]; omega) hwx
        rw [← he] at n3
        have HA3 := Lib.hid ha3
        have HN3 := Lib.hid (And.intro n3 n3r)
        have HE := Lib.hid (show (T.take cut).take (i + 1) = (T.take cut).take i by rw [List.take_take, List.take_take, Nat.min_eq_right (by omega), Nat.min_eq_right (by omega)])
        clear hx hy hxT hyT hrT ha1 ha3 ha4 n1 n1r n3 n3r n4 n4r hB hBs hj x0 x1 x2 x3 x4 x5 y0 y1 y2 y3 y4 y5 hwx hbb' he
        go_wp2_with (first | (go_at_call 10; (with_reducible refine (HA1.out _ (hc1.out.at_.on ?_)).mono ?_); (· (first | ((repeat (first | with_reducible exact Junk.refl _ | with_reducible exact Junk.app _ _ _ _ _ | with_reducible apply Junk.alloc | with_reducible apply Junk.junk | with_reducible apply Junk.drew | with_reducible apply Junk.drewN)); done) | ((try simp only [World.junk_junk, Array.append_assoc]); (repeat (first | with_reducible exact Junk.refl _ | with_reducible exact Junk.app _ _ _ _ _ | with_reducible exact Junk.app2 _ _ _ _ _ _ | with_reducible exact Junk.app3 _ _ _ _ _ _ _ | with_reducible exact Junk.app4 _ _ _ _ _ _ _ _ | with_reducible exact Junk.app5 _ _ _ _ _ _ _ _ _ | with_reducible apply Junk.alloc | with_reducible apply Junk.junk | with_reducible apply Junk.drew | with_reducible apply Junk.drewN))))); rintro e w' ⟨oz1, cz1, rfl, ⟨os1, ds1, rfl⟩, hb1⟩; have Hb1 := Lib.hid hb1; clear hb1) | (go_at_call 10; (with_reducible refine (HA3.out _ (hc3.out.at_.on ?_)).mono ?_); (· (first | ((repeat (first | with_reducible exact Junk.refl _ | with_reducible exact Junk.app _ _ _ _ _ | with_reducible apply Junk.alloc | with_reducible apply Junk.junk | with_reducible apply Junk.drew | with_reducible apply Junk.drewN)); done) | ((try simp only [World.junk_junk, Array.append_assoc]); (repeat (first | with_reducible exact Junk.refl _ | with_reducible exact Junk.app _ _ _ _ _ | with_reducible exact Junk.app2 _ _ _ _ _ _ | with_reducible exact Junk.app3 _ _ _ _ _ _ _ | with_reducible exact Junk.app4 _ _ _ _ _ _ _ _ | with_reducible exact Junk.app5 _ _ _ _ _ _ _ _ _ | with_reducible apply Junk.alloc | with_reducible apply Junk.junk | with_reducible apply Junk.drew | with_reducible apply Junk.drewN))))); rintro e w' ⟨oz3, cz3, rfl, ⟨os3, ds3, rfl⟩, hb3⟩; have Hb3 := Lib.hid hb3; clear hb3) | (go_at_call 10; (with_reducible refine (HA4.out _ (hc4.out.at_.on ?_)).mono ?_); (· (first | ((repeat (first | with_reducible exact Junk.refl _ | with_reducible exact Junk.app _ _ _ _ _ | with_reducible apply Junk.alloc | with_reducible apply Junk.junk | with_reducible apply Junk.drew | with_reducible apply Junk.drewN)); done) | ((try simp only [World.junk_junk, Array.append_assoc]); (repeat (first | with_reducible exact Junk.refl _ | with_reducible exact Junk.app _ _ _ _ _ | with_reducible exact Junk.app2 _ _ _ _ _ _ | with_reducible exact Junk.app3 _ _ _ _ _ _ _ | with_reducible exact Junk.app4 _ _ _ _ _ _ _ _ | with_reducible exact Junk.app5 _ _ _ _ _ _ _ _ _ | with_reducible apply Junk.alloc | with_reducible apply Junk.junk | with_reducible apply Junk.drew | with_reducible apply Junk.drewN))))); rintro e w' ⟨oz4, cz4, rfl, ⟨os4, ds4, rfl⟩, hb4⟩; have Hb4 := Lib.hid hb4; clear hb4))
        exact ⟨⟨i + 1, N1.length, q2, N3.length, N4.length, cz1, c2, cz3, cz4, b + xb, oz1, o2, oz3, oz4, by go_num, rfl, rfl, rfl, rfl, rfl, by (first | ((repeat (first | with_reducible exact Junk.refl _ | with_reducible exact Junk.app _ _ _ _ _ | with_reducible apply Junk.alloc | with_reducible apply Junk.junk | with_reducible apply Junk.drew | with_reducible apply Junk.drewN)); done) | ((try simp only [World.junk_junk, Array.append_assoc]); (repeat (first | with_reducible exact Junk.refl _ | with_reducible exact Junk.app _ _ _ _ _ | with_reducible exact Junk.app2 _ _ _ _ _ _ | with_reducible exact Junk.app3 _ _ _ _ _ _ _ | with_reducible exact Junk.app4 _ _ _ _ _ _ _ _ | with_reducible exact Junk.app5 _ _ _ _ _ _ _ _ _ | with_reducible apply Junk.alloc | with_reducible apply Junk.junk | with_reducible apply Junk.drew | with_reducible apply Junk.drewN)))), by omega, Lib.hid ⟨HBS.out.symm, ⟨N1, Hb1.out.on (by (first | ((repeat (first | with_reducible exact Junk.refl _ | with_reducible exact Junk.app _ _ _ _ _ | with_reducible apply Junk.alloc | with_reducible apply Junk.junk | with_reducible apply Junk.drew | with_reducible apply Junk.drewN)); done) | ((try simp only [World.junk_junk, Array.append_assoc]); (repeat (first | with_reducible exact Junk.refl _ | with_reducible exact Junk.app _ _ _ _ _ | with_reducible exact Junk.app2 _ _ _ _ _ _ | with_reducible exact Junk.app3 _ _ _ _ _ _ _ | with_reducible exact Junk.app4 _ _ _ _ _ _ _ _ | with_reducible exact Junk.app5 _ _ _ _ _ _ _ _ _ | with_reducible apply Junk.alloc | with_reducible apply Junk.junk | with_reducible apply Junk.drew | with_reducible apply Junk.drewN))))), HN1.out.2, HN1.out.1⟩, ⟨X2, by rw [HE.out]; exact hc2.out.on (by (first | ((repeat (first | with_reducible exact Junk.refl _ | with_reducible exact Junk.app _ _ _ _ _ | with_reducible apply Junk.alloc | with_reducible apply Junk.junk | with_reducible apply Junk.drew | with_reducible apply Junk.drewN)); done) | ((try simp only [World.junk_junk, Array.append_assoc]); (repeat (first | with_reducible exact Junk.refl _ | with_reducible exact Junk.app _ _ _ _ _ | with_reducible exact Junk.app2 _ _ _ _ _ _ | with_reducible exact Junk.app3 _ _ _ _ _ _ _ | with_reducible exact Junk.app4 _ _ _ _ _ _ _ _ | with_reducible exact Junk.app5 _ _ _ _ _ _ _ _ _ | with_reducible apply Junk.alloc | with_reducible apply Junk.junk | with_reducible apply Junk.drew | with_reducible apply Junk.drewN)))))⟩, ⟨N3, Hb3.out.on (by (first | ((repeat (first | with_reducible exact Junk.refl _ | with_reducible exact Junk.app _ _ _ _ _ | with_reducible apply Junk.alloc | with_reducible apply Junk.junk | with_reducible apply Junk.drew | with_reducible apply Junk.drewN)); done) | ((try simp only [World.junk_junk, Array.append_assoc]); (repeat (first | with_reducible exact Junk.refl _ | with_reducible exact Junk.app _ _ _ _ _ | with_reducible exact Junk.app2 _ _ _ _ _ _ | with_reducible exact Junk.app3 _ _ _ _ _ _ _ | with_reducible exact Junk.app4 _ _ _ _ _ _ _ _ | with_reducible exact Junk.app5 _ _ _ _ _ _ _ _ _ | with_reducible apply Junk.alloc | with_reducible apply Junk.junk | with_reducible apply Junk.drew | with_reducible apply Junk.drewN))))), HN3.out.2, HN3.out.1⟩, ⟨N4, Hb4.out.on (by (first | ((repeat (first | with_reducible exact Junk.refl _ | with_reducible exact Junk.app _ _ _ _ _ | with_reducible apply Junk.alloc | with_reducible apply Junk.junk | with_reducible apply Junk.drew | with_reducible apply Junk.drewN)); done) | ((try simp only [World.junk_junk, Array.append_assoc]); (repeat (first | with_reducible exact Junk.refl _ | with_reducible exact Junk.app _ _ _ _ _ | with_reducible exact Junk.app2 _ _ _ _ _ _ | with_reducible exact Junk.app3 _ _ _ _ _ _ _ | with_reducible exact Junk.app4 _ _ _ _ _ _ _ _ | with_reducible exact Junk.app5 _ _ _ _ _ _ _ _ _ | with_reducible apply Junk.alloc | with_reducible apply Junk.junk | with_reducible apply Junk.drew | with_reducible apply Junk.drewN))))), HN4.out.2, HN4.out.1⟩⟩⟩, by simp [intOf]; omega⟩
    · have hi2 : ¬ (i : Int) < (n : Int) := by omega
      obtain rfl : i = n := by omega
      have f1 := hc1.out.is (M := A) (by rw [List.take_of_length_le (by rw [HTL.out]; omega)]; exact HF.out.1)
      have f2 := hc2.out.is (M := L) (by rw [List.take_of_length_le (by rw [List.length_take, HTL.out]; omega)]; exact HF.out.2.1)
      have f3 := hc3.out.is (M := R) (by rw [List.take_of_length_le (by rw [List.length_drop, HTL.out]; omega)]; exact HF.out.2.2.1)
      have f4 := hc4.out.is (M := A) (by rw [List.take_of_length_le (by rw [rot_len, HTL.out]; omega)]; exact HF.out.2.2.2)
      have hq1 : q1 ≤ 1000 := hc1.out.short (by rw [List.length_take, HTL.out]; omega)
      have hq2 : q2 ≤ 1000 := hc2.out.short (by rw [List.length_take, List.length_take, HTL.out]; omega)
      have hq3 : q3 ≤ 1000 := hc3.out.short (by rw [List.length_take, List.length_drop, HTL.out]; omega)
      have HC1 := Lib.hid (show TsB (w.junk os d) o1 q1 c1 A by have := hc1.out.at_; rw [f1] at this; exact this)
      have HC2 := Lib.hid (show TsB (w.junk os d) o2 q2 c2 L by have := hc2.out.at_; rw [f2] at this; exact this)
      have HC3 := Lib.hid (show TsB (w.junk os d) o3 q3 c3 R by have := hc3.out.at_; rw [f3] at this; exact this)
      have HC4 := Lib.hid (show TsB (w.junk os d) o4 q4 c4 A by have := hc4.out.at_; rw [f4] at this; exact this)
      have HJV := Lib.hid (show Junk w (w.junk os d) by (first | ((repeat (first | with_reducible exact Junk.refl _ | with_reducible exact Junk.app _ _ _ _ _ | with_reducible apply Junk.alloc | with_reducible apply Junk.junk | with_reducible apply Junk.drew | with_reducible apply Junk.drewN)); done) | ((try simp only [World.junk_junk, Array.append_assoc]); (repeat (first | with_reducible exact Junk.refl _ | with_reducible exact Junk.app _ _ _ _ _ | with_reducible exact Junk.app2 _ _ _ _ _ _ | with_reducible exact Junk.app3 _ _ _ _ _ _ _ | with_reducible exact Junk.app4 _ _ _ _ _ _ _ _ | with_reducible exact Junk.app5 _ _ _ _ _ _ _ _ _ | with_reducible apply Junk.alloc | with_reducible apply Junk.junk | with_reducible apply Junk.drew | with_reducible apply Junk.drewN)))))
      have HBT2 := Lib.hid (show b = totB T by have := HBT.out; rw [List.take_of_length_le (by rw [HTL.out]; omega)] at this; exact this)
      clear f1 f2 f3 f4 hc1 hc2 hc3 hc4 HBT HS HTG HTB HCL HCW HF HAW
      generalize w.junk os d = V at HC1 HC2 HC3 HC4 HJV ⊢
      have HRT := Lib.hid (fun w1 (h : TsB w1 o1 q1 c1 A) => show Calls Tryd.prog 13 #[.slice o1 q1 c1] w1 fun e w' => e = .returned (.bool true) ∧ Junk w1 w' from by have := cright_any o1 q1 c1 A w1 (by omega) h; rw [right_tlr.2 HAR.out.1] at this; exact this)
      have HSM := Lib.hid (fun (oq : Option Addr) (q cq : Nat) w1 (h : TsB w1 oq q cq A) (g : TsB w1 o1 q1 c1 A) => show Calls Tryd.prog 14 #[.slice oq q cq, .slice o1 q1 c1] w1 fun e w' => e = .returned (.bool true) ∧ Junk w1 w' from by have := rsame_any oq o1 q cq q1 c1 A A w1 (by have := h.len; have := g.len; omega) (by omega) h.len g.len h.at_ g.at_; rw [decide_eq_true rfl] at this; exact this)
      have HJ1 := Lib.hid (fun w1 (h : TsB w1 o2 q2 c2 L) (g : TsB w1 o3 q3 c3 R) => join_ok o2 q2 c2 L o3 q3 c3 R A w1 hq2 hq3 h g HAR.out.2.1 HAR.out.2.2 HJF.out.1)
      have HJ2 := Lib.hid (fun w1 (h : TsB w1 o3 q3 c3 R) (g : TsB w1 o2 q2 c2 L) => join_ok o3 q3 c3 R o2 q2 c2 L A w1 hq3 hq2 h g HAR.out.2.2 HAR.out.2.1 HJF.out.2)
      go_wp2
      go_loopw [16, 17, 18] (fun v1 v2 v3 wr => ∃ (z : Nat) (N B : Int), v3 = .int .i64 (z : Int) ∧ v1 = .int .i64 N ∧ v2 = .int .i64 B ∧ Junk V wr ∧ z ≤ 256 ∧ Hid (N = suN (fun x => decide (x.zone < (z : Int))) A ∧ B = suB (fun x => decide (x.zone < (z : Int))) A)) (fun _ _ z _ => 257 - (intOf z).toNat)
      case atStart => exact ⟨0, 0, 0, rfl, rfl, rfl, by (first | ((repeat (first | with_reducible exact Junk.refl _ | with_reducible exact Junk.app _ _ _ _ _ | with_reducible apply Junk.alloc | with_reducible apply Junk.junk | with_reducible apply Junk.drew | with_reducible apply Junk.drewN)); done) | ((try simp only [World.junk_junk, Array.append_assoc]); (repeat (first | with_reducible exact Junk.refl _ | with_reducible exact Junk.app _ _ _ _ _ | with_reducible exact Junk.app2 _ _ _ _ _ _ | with_reducible exact Junk.app3 _ _ _ _ _ _ _ | with_reducible exact Junk.app4 _ _ _ _ _ _ _ _ | with_reducible exact Junk.app5 _ _ _ _ _ _ _ _ _ | with_reducible apply Junk.alloc | with_reducible apply Junk.junk | with_reducible apply Junk.drew | with_reducible apply Junk.drewN)))), by omega, Lib.hid ⟨(zone_zero A (fun x hx => (HAZ.out x hx).1)).1.symm, (zone_zero A (fun x hx => (HAZ.out x hx).1)).2.symm⟩⟩
      case round =>
        obtain ⟨z, N, B, rfl, rfl, rfl, ⟨os2, d2, rfl⟩, hz, hNB⟩ := hrel
        by_cases hzl : z < 256
        · have hz2 : (z : Int) < 256 := by omega
          have pw := wrapk_i64 ((z : Int) + 1) (by omega) (by omega)
          obtain ⟨P, Q, N1, B1, N2, B2, e1, e2, e3, e4, e5, e6, e7, e8, g1, g2, g3, g4, wp, wq⟩ := zone_at (z := z) HAR.out.1 HAT.out.1 hn1 (by have := HAT.out; omega)
          obtain rfl : N = N1 := hNB.out.1.trans e3
          obtain rfl : B = B1 := hNB.out.2.trans e4
          have pN : IntKind.i64.wrap (N + P) = N2 := by rw [wrapk_i64 (N + P) (by omega) (by omega)]; exact e7
          have pB : IntKind.i64.wrap (B + Q) = B2 := by rw [wrapk_i64 (B + Q) (by omega) (by omega)]; exact e8
          have HZ := Lib.hid (fun w1 (h : TsB w1 o1 q1 c1 A) => show Calls Tryd.prog 11 #[.slice o1 q1 c1, .int .i64 (z : Int)] w1 fun e w' => e = .returned (.tuple #[.int .i64 P, .int .i64 Q]) ∧ Junk w1 w' from by have := cZone_any o1 q1 c1 A z w1 (by omega) h; rw [e1, e2, wp, wq] at this; exact this)
          have HI := Lib.hid (show N2 = suN (fun x => decide (x.zone < ((z + 1 : Nat) : Int))) A ∧ B2 = suB (fun x => decide (x.zone < ((z + 1 : Nat) : Int))) A from by
            rw [show ((z + 1 : Nat) : Int) = (z : Int) + 1 by omega]
            exact ⟨e5.symm, e6.symm⟩)
          clear e1 e2 e3 e4 e5 e6 e7 e8 g1 g2 g3 g4 wp wq hNB
          go_wp2_with (first | (go_at_call 11; (with_reducible refine (HZ.out _ (HC1.out.on ?_)).mono ?_); (· (first | ((repeat (first | with_reducible exact Junk.refl _ | with_reducible exact Junk.app _ _ _ _ _ | with_reducible apply Junk.alloc | with_reducible apply Junk.junk | with_reducible apply Junk.drew | with_reducible apply Junk.drewN)); done) | ((try simp only [World.junk_junk, Array.append_assoc]); (repeat (first | with_reducible exact Junk.refl _ | with_reducible exact Junk.app _ _ _ _ _ | with_reducible exact Junk.app2 _ _ _ _ _ _ | with_reducible exact Junk.app3 _ _ _ _ _ _ _ | with_reducible exact Junk.app4 _ _ _ _ _ _ _ _ | with_reducible exact Junk.app5 _ _ _ _ _ _ _ _ _ | with_reducible apply Junk.alloc | with_reducible apply Junk.junk | with_reducible apply Junk.drew | with_reducible apply Junk.drewN))))); rintro e w' ⟨rfl, ⟨osZ, dZ, rfl⟩⟩))
          exact ⟨⟨z + 1, N2, B2, by go_num, rfl, rfl, by (first | ((repeat (first | with_reducible exact Junk.refl _ | with_reducible exact Junk.app _ _ _ _ _ | with_reducible apply Junk.alloc | with_reducible apply Junk.junk | with_reducible apply Junk.drew | with_reducible apply Junk.drewN)); done) | ((try simp only [World.junk_junk, Array.append_assoc]); (repeat (first | with_reducible exact Junk.refl _ | with_reducible exact Junk.app _ _ _ _ _ | with_reducible exact Junk.app2 _ _ _ _ _ _ | with_reducible exact Junk.app3 _ _ _ _ _ _ _ | with_reducible exact Junk.app4 _ _ _ _ _ _ _ _ | with_reducible exact Junk.app5 _ _ _ _ _ _ _ _ _ | with_reducible apply Junk.alloc | with_reducible apply Junk.junk | with_reducible apply Junk.drew | with_reducible apply Junk.drewN)))), by omega, HI⟩, by simp [intOf]; omega⟩
        · have hz2 : ¬ (z : Int) < 256 := by omega
          obtain rfl : z = 256 := by omega
          have za := zone_all A (fun x hx => (HAZ.out x hx).2)
          have eN : N = (i : Int) := by rw [hNB.out.1]; exact za.1.trans HAT.out.1
          have eB : B = b := by rw [hNB.out.2, HBT2.out]; exact za.2.trans HAT.out.2.1
          subst eN eB
          clear za hNB
          go_wp2_with (first | (go_at_call 12; (with_reducible refine (HJ1.out _ (HC2.out.on ?_) (HC3.out.on ?_)).mono ?_); (· (first | ((repeat (first | with_reducible exact Junk.refl _ | with_reducible exact Junk.app _ _ _ _ _ | with_reducible apply Junk.alloc | with_reducible apply Junk.junk | with_reducible apply Junk.drew | with_reducible apply Junk.drewN)); done) | ((try simp only [World.junk_junk, Array.append_assoc]); (repeat (first | with_reducible exact Junk.refl _ | with_reducible exact Junk.app _ _ _ _ _ | with_reducible exact Junk.app2 _ _ _ _ _ _ | with_reducible exact Junk.app3 _ _ _ _ _ _ _ | with_reducible exact Junk.app4 _ _ _ _ _ _ _ _ | with_reducible exact Junk.app5 _ _ _ _ _ _ _ _ _ | with_reducible apply Junk.alloc | with_reducible apply Junk.junk | with_reducible apply Junk.drew | with_reducible apply Junk.drewN))))); (· (first | ((repeat (first | with_reducible exact Junk.refl _ | with_reducible exact Junk.app _ _ _ _ _ | with_reducible apply Junk.alloc | with_reducible apply Junk.junk | with_reducible apply Junk.drew | with_reducible apply Junk.drewN)); done) | ((try simp only [World.junk_junk, Array.append_assoc]); (repeat (first | with_reducible exact Junk.refl _ | with_reducible exact Junk.app _ _ _ _ _ | with_reducible exact Junk.app2 _ _ _ _ _ _ | with_reducible exact Junk.app3 _ _ _ _ _ _ _ | with_reducible exact Junk.app4 _ _ _ _ _ _ _ _ | with_reducible exact Junk.app5 _ _ _ _ _ _ _ _ _ | with_reducible apply Junk.alloc | with_reducible apply Junk.junk | with_reducible apply Junk.drew | with_reducible apply Junk.drewN))))); rintro e w' ⟨oj1, cj1, rfl, ⟨osj1, dj1, rfl⟩, hbj1⟩; have Hj1 := Lib.hid hbj1; clear hbj1) | (go_at_call 12; (with_reducible refine (HJ2.out _ (HC3.out.on ?_) (HC2.out.on ?_)).mono ?_); (· (first | ((repeat (first | with_reducible exact Junk.refl _ | with_reducible exact Junk.app _ _ _ _ _ | with_reducible apply Junk.alloc | with_reducible apply Junk.junk | with_reducible apply Junk.drew | with_reducible apply Junk.drewN)); done) | ((try simp only [World.junk_junk, Array.append_assoc]); (repeat (first | with_reducible exact Junk.refl _ | with_reducible exact Junk.app _ _ _ _ _ | with_reducible exact Junk.app2 _ _ _ _ _ _ | with_reducible exact Junk.app3 _ _ _ _ _ _ _ | with_reducible exact Junk.app4 _ _ _ _ _ _ _ _ | with_reducible exact Junk.app5 _ _ _ _ _ _ _ _ _ | with_reducible apply Junk.alloc | with_reducible apply Junk.junk | with_reducible apply Junk.drew | with_reducible apply Junk.drewN))))); (· (first | ((repeat (first | with_reducible exact Junk.refl _ | with_reducible exact Junk.app _ _ _ _ _ | with_reducible apply Junk.alloc | with_reducible apply Junk.junk | with_reducible apply Junk.drew | with_reducible apply Junk.drewN)); done) | ((try simp only [World.junk_junk, Array.append_assoc]); (repeat (first | with_reducible exact Junk.refl _ | with_reducible exact Junk.app _ _ _ _ _ | with_reducible exact Junk.app2 _ _ _ _ _ _ | with_reducible exact Junk.app3 _ _ _ _ _ _ _ | with_reducible exact Junk.app4 _ _ _ _ _ _ _ _ | with_reducible exact Junk.app5 _ _ _ _ _ _ _ _ _ | with_reducible apply Junk.alloc | with_reducible apply Junk.junk | with_reducible apply Junk.drew | with_reducible apply Junk.drewN))))); rintro e w' ⟨oj2, cj2, rfl, ⟨osj2, dj2, rfl⟩, hbj2⟩; have Hj2 := Lib.hid hbj2; clear hbj2) | (go_at_call 13; (with_reducible refine (HRT.out _ (HC1.out.on ?_)).mono ?_); (· (first | ((repeat (first | with_reducible exact Junk.refl _ | with_reducible exact Junk.app _ _ _ _ _ | with_reducible apply Junk.alloc | with_reducible apply Junk.junk | with_reducible apply Junk.drew | with_reducible apply Junk.drewN)); done) | ((try simp only [World.junk_junk, Array.append_assoc]); (repeat (first | with_reducible exact Junk.refl _ | with_reducible exact Junk.app _ _ _ _ _ | with_reducible exact Junk.app2 _ _ _ _ _ _ | with_reducible exact Junk.app3 _ _ _ _ _ _ _ | with_reducible exact Junk.app4 _ _ _ _ _ _ _ _ | with_reducible exact Junk.app5 _ _ _ _ _ _ _ _ _ | with_reducible apply Junk.alloc | with_reducible apply Junk.junk | with_reducible apply Junk.drew | with_reducible apply Junk.drewN))))); rintro e w' ⟨rfl, ⟨osR, dR, rfl⟩⟩) | (go_at_call 14; (with_reducible refine (HSM.out oj1 A.length cj1 _ (Hj1.out.on ?_) (HC1.out.on ?_)).mono ?_); (· (first | ((repeat (first | with_reducible exact Junk.refl _ | with_reducible exact Junk.app _ _ _ _ _ | with_reducible apply Junk.alloc | with_reducible apply Junk.junk | with_reducible apply Junk.drew | with_reducible apply Junk.drewN)); done) | ((try simp only [World.junk_junk, Array.append_assoc]); (repeat (first | with_reducible exact Junk.refl _ | with_reducible exact Junk.app _ _ _ _ _ | with_reducible exact Junk.app2 _ _ _ _ _ _ | with_reducible exact Junk.app3 _ _ _ _ _ _ _ | with_reducible exact Junk.app4 _ _ _ _ _ _ _ _ | with_reducible exact Junk.app5 _ _ _ _ _ _ _ _ _ | with_reducible apply Junk.alloc | with_reducible apply Junk.junk | with_reducible apply Junk.drew | with_reducible apply Junk.drewN))))); (· (first | ((repeat (first | with_reducible exact Junk.refl _ | with_reducible exact Junk.app _ _ _ _ _ | with_reducible apply Junk.alloc | with_reducible apply Junk.junk | with_reducible apply Junk.drew | with_reducible apply Junk.drewN)); done) | ((try simp only [World.junk_junk, Array.append_assoc]); (repeat (first | with_reducible exact Junk.refl _ | with_reducible exact Junk.app _ _ _ _ _ | with_reducible exact Junk.app2 _ _ _ _ _ _ | with_reducible exact Junk.app3 _ _ _ _ _ _ _ | with_reducible exact Junk.app4 _ _ _ _ _ _ _ _ | with_reducible exact Junk.app5 _ _ _ _ _ _ _ _ _ | with_reducible apply Junk.alloc | with_reducible apply Junk.junk | with_reducible apply Junk.drew | with_reducible apply Junk.drewN))))); rintro e w' ⟨rfl, ⟨osS1, dS1, rfl⟩⟩) | (go_at_call 14; (with_reducible refine (HSM.out oj2 A.length cj2 _ (Hj2.out.on ?_) (HC1.out.on ?_)).mono ?_); (· (first | ((repeat (first | with_reducible exact Junk.refl _ | with_reducible exact Junk.app _ _ _ _ _ | with_reducible apply Junk.alloc | with_reducible apply Junk.junk | with_reducible apply Junk.drew | with_reducible apply Junk.drewN)); done) | ((try simp only [World.junk_junk, Array.append_assoc]); (repeat (first | with_reducible exact Junk.refl _ | with_reducible exact Junk.app _ _ _ _ _ | with_reducible exact Junk.app2 _ _ _ _ _ _ | with_reducible exact Junk.app3 _ _ _ _ _ _ _ | with_reducible exact Junk.app4 _ _ _ _ _ _ _ _ | with_reducible exact Junk.app5 _ _ _ _ _ _ _ _ _ | with_reducible apply Junk.alloc | with_reducible apply Junk.junk | with_reducible apply Junk.drew | with_reducible apply Junk.drewN))))); (· (first | ((repeat (first | with_reducible exact Junk.refl _ | with_reducible exact Junk.app _ _ _ _ _ | with_reducible apply Junk.alloc | with_reducible apply Junk.junk | with_reducible apply Junk.drew | with_reducible apply Junk.drewN)); done) | ((try simp only [World.junk_junk, Array.append_assoc]); (repeat (first | with_reducible exact Junk.refl _ | with_reducible exact Junk.app _ _ _ _ _ | with_reducible exact Junk.app2 _ _ _ _ _ _ | with_reducible exact Junk.app3 _ _ _ _ _ _ _ | with_reducible exact Junk.app4 _ _ _ _ _ _ _ _ | with_reducible exact Junk.app5 _ _ _ _ _ _ _ _ _ | with_reducible apply Junk.alloc | with_reducible apply Junk.junk | with_reducible apply Junk.drew | with_reducible apply Junk.drewN))))); rintro e w' ⟨rfl, ⟨osS2, dS2, rfl⟩⟩) | (go_at_call 14; (with_reducible refine (HSM.out o4 q4 c4 _ (HC4.out.on ?_) (HC1.out.on ?_)).mono ?_); (· (first | ((repeat (first | with_reducible exact Junk.refl _ | with_reducible exact Junk.app _ _ _ _ _ | with_reducible apply Junk.alloc | with_reducible apply Junk.junk | with_reducible apply Junk.drew | with_reducible apply Junk.drewN)); done) | ((try simp only [World.junk_junk, Array.append_assoc]); (repeat (first | with_reducible exact Junk.refl _ | with_reducible exact Junk.app _ _ _ _ _ | with_reducible exact Junk.app2 _ _ _ _ _ _ | with_reducible exact Junk.app3 _ _ _ _ _ _ _ | with_reducible exact Junk.app4 _ _ _ _ _ _ _ _ | with_reducible exact Junk.app5 _ _ _ _ _ _ _ _ _ | with_reducible apply Junk.alloc | with_reducible apply Junk.junk | with_reducible apply Junk.drew | with_reducible apply Junk.drewN))))); (· (first | ((repeat (first | with_reducible exact Junk.refl _ | with_reducible exact Junk.app _ _ _ _ _ | with_reducible apply Junk.alloc | with_reducible apply Junk.junk | with_reducible apply Junk.drew | with_reducible apply Junk.drewN)); done) | ((try simp only [World.junk_junk, Array.append_assoc]); (repeat (first | with_reducible exact Junk.refl _ | with_reducible exact Junk.app _ _ _ _ _ | with_reducible exact Junk.app2 _ _ _ _ _ _ | with_reducible exact Junk.app3 _ _ _ _ _ _ _ | with_reducible exact Junk.app4 _ _ _ _ _ _ _ _ | with_reducible exact Junk.app5 _ _ _ _ _ _ _ _ _ | with_reducible apply Junk.alloc | with_reducible apply Junk.junk | with_reducible apply Junk.drew | with_reducible apply Junk.drewN))))); rintro e w' ⟨rfl, ⟨osS3, dS3, rfl⟩⟩))
          all_goals (go_ret; exact ⟨ret_bool rfl, HJV.out.trans (by (first | ((repeat (first | with_reducible exact Junk.refl _ | with_reducible exact Junk.app _ _ _ _ _ | with_reducible apply Junk.alloc | with_reducible apply Junk.junk | with_reducible apply Junk.drew | with_reducible apply Junk.drewN)); done) | ((try simp only [World.junk_junk, Array.append_assoc]); (repeat (first | with_reducible exact Junk.refl _ | with_reducible exact Junk.app _ _ _ _ _ | with_reducible exact Junk.app2 _ _ _ _ _ _ | with_reducible exact Junk.app3 _ _ _ _ _ _ _ | with_reducible exact Junk.app4 _ _ _ _ _ _ _ _ | with_reducible exact Junk.app5 _ _ _ _ _ _ _ _ _ | with_reducible apply Junk.alloc | with_reducible apply Junk.junk | with_reducible apply Junk.drew | with_reducible apply Junk.drewN)))))⟩)

theorem countAll_core (W : World) (base : Nat) (v0 v1 v2 : Value) (a0 : Arg Tryd.prog W base 32 v0) (a1 : Arg Tryd.prog W base 5 v1) (a2 : Arg Tryd.prog W base 5 v2) (hL : laidMetH Tryd.prog Rows.countAllRow.laid W) :
    Calls Tryd.prog 5 #[v0, v1, v2] W fun e W' => e = .returned (.bool true) ∧ Junk W W' := by
  have hL' := hL
  have f_l := a0.slice Tryd.underlying32
  obtain ⟨l_a, l_l, l_c, l, e_l, lc_l, cm_l, S_l, r_l⟩ := f_l.slice Tryd.underlying32 (Nat.lt_of_lt_of_eq (by decide : 0 < 3) (by kernel_rfl)); cases e_l
  obtain ⟨k, rfl, w_k⟩ := a1.int Tryd.underlying5
  obtain ⟨y, rfl, w_y⟩ := a2.int Tryd.underlying5
  obtain ⟨L, hL, hS, hwf⟩ := cas_of S_l r_l
  have hlm : maxLen = 9223372036854775807 := rfl
  have hk := bounds_u8 w_k
  have hb := bounds_u8 w_y
  obtain ⟨k', rfl⟩ : ∃ k' : Nat, k = k' := ⟨k.toNat, by omega⟩
  obtain ⟨b', rfl⟩ : ∃ b' : Nat, y = b' := ⟨y.toNat, by omega⟩
  exact countAll_walk L k' b' l_a l_l l_c (min l_l 200) W (asc_laid hL') hL lc_l (by omega) hS hwf (by omega) (by omega) (by omega) (by omega) (by omega) (by omega)
theorem countAll_door (os : Os) (args : Array Value) : laidMetH Tryd.prog Rows.countAllRow.laid ((World.doorLaid Tryd.prog 33 os).forCall (fun _ _ => 0) ⟨#[], args, []⟩).memory :=
  laidMetH_of_parts3 (fuel := 8) (laidMet_of_run' 8 (by kernel_rfl) (by kernel_rfl)) (by kernel_rfl) (by kernel_rfl)
set_option maxRecDepth 100000 in
theorem countAll_lifted (os : Os) (started : os.Started) (H : Type) (enc : TypeId × Value → H) :
    ReturnsInHanded {} Tryd.checked os 5 .any (fun w args => (Rows.countAllSpec.pre enc Tryd.prog Tryd.f5 [] false w args ∧ laidMetH Tryd.prog Rows.countAllRow.laid w) ∧ sizedMet enc Tryd.prog Tryd.f5 (OpenSpec.ofChange Rows.countAllSpec) false w args)
      (Rows.countAllSpec.post enc Tryd.prog Tryd.f5 false true false false) := by
  refine returnsInHanded_of_change_and (C := Tryd.checked) (X := fun w _ => laidMetH Tryd.prog Rows.countAllRow.laid w) (fun _ _ _ hh h => h.of_heap hh) (by kernel_rfl) started (by kernel_rfl) Tryd.func5
    (ChangeSpec.witness_shaped (enc := enc) (C := Tryd.checked) (os := os) (X := fun w _ => laidMetH Tryd.prog Rows.countAllRow.laid w) false (World.doorLaid Tryd.prog 33 os) #[.slice none 0 0, .int .u8 0, .int .u8 0] 8 rfl (World.shaped_of_RefB (by kernel_rfl) (by kernel_rfl)) (by kernel_rfl) (by kernel_rfl) (by kernel_rfl) (countAll_door os _)) ?_
  intro W base args ds gs before hval hW _ _ hL _
  obtain ⟨p, q, hA, _, _, _, _⟩ := id hW
  have hargs : Args Tryd.prog W base Tryd.f5.params.toList args.toList := args_of (fun j t v h1 h2 => hval j t v (by simpa using h1) (by simpa using h2)) hA
  rw [Tryd.params5] at hargs
  obtain ⟨v0, l0, e0, a0, r0⟩ := args_cons hargs
  obtain ⟨v1, l1, e1, a1, r1⟩ := args_cons r0
  obtain ⟨v2, l2, e2, a2, r2⟩ := args_cons r1
  have hn := args_nil r2
  have he : args = #[v0, v1, v2] := by
    apply Array.ext'
    simp only [e0, e1, e2, hn]
  subst he
  exact (countAll_core W base v0 v1 v2 a0 a1 a2 hL).mono fun e W' ⟨he, hj⟩ => ⟨_, he, post_true (tb := 4) (by kernel_rfl) (by kernel_rfl) rfl (by kernel_rfl) rfl hW (fun hg hl => by
    subst hg
    match ds, hl with
    | [_, _, _], _ => exact ⟨rfl, rfl, rfl⟩) hj⟩
theorem countAll_said : Rows.CountAllSaid :=
  OpenClaim.holds_of_wide 5 Tryd.f5 rfl rfl rfl rfl rfl rfl rfl ⟨rfl, rfl, rfl, rfl, rfl⟩ rfl rfl rfl rfl rfl (by kernel_rfl) Tryd.func5 (by kernel_rfl)
    (of_decide_eq_true (by kernel_rfl)) (by unfold Func.isWrapper; first | (rw [if_pos (by decide +kernel)]; kernel_rfl) | (rw [if_neg (by decide +kernel)]; exact ⟨rfl, rfl⟩))
    (fun os started H enc _ => countAll_lifted os started H enc)
theorem countAll_holds : Rows.CountAllCardSaid :=
  Claim7.holds_tied_plain_at .later [] [.listed, .data] true (true, "6b855da01afbce562a7e4b6a94d7f6d84beb6f20fbc16cd0596a4df9d6146426") false
    countAll_said (fun _ h => by cases h) (by kernel_rfl) (fun _ h => by cases h) countAll_row_tie rfl ⟨rfl, rfl⟩ (by kernel_rfl) rfl
    (fun f fn hf hfn => by
      obtain rfl : f = 5 := Option.some.inj ((show Tryd.prog.funcNamed Rows.countAllRow.func = some 5 by kernel_rfl).symm.trans hf) |>.symm
      obtain rfl : fn = Tryd.f5 := (Option.some.inj (Tryd.func5.symm.trans hfn)).symm
      exact ⟨by kernel_rfl, fun j t ht => by
        rw [Tryd.params5] at ht
        rcases j with _ | _ | _ | j
        · obtain rfl : t = 32 := by simpa using ht.symm
          exact (show Tryd.prog.wantsStandIn 32 = false by kernel_rfl)
        · obtain rfl : t = 5 := by simpa using ht.symm
          exact (show Tryd.prog.wantsStandIn 5 = false by kernel_rfl)
        · obtain rfl : t = 5 := by simpa using ht.symm
          exact (show Tryd.prog.wantsStandIn 5 = false by kernel_rfl)
        · simp at ht⟩)
    (by kernel_rfl)

end Go.Proofs.YteoommoolmddaaaDoor
