/- The law ErrorRight: any message names, and is turned at either side of the packet that it is about, as the document says, or is refused. -/
import Derived.Test.YtnefphinmjeacaaInR
import Derived.Test.YtnefphinmjeacaaInQ
import Derived.Deep.DeepCutAuto
import Derived.Deep.CutBlock
import Derived.Test.YtnefphinmjeacaaInE
import Derived.Test.YtnefphinmjeacaaLift2
set_option linter.unusedVariables false
set_option maxRecDepth 100000
set_option linter.unusedSimpArgs false
namespace Go.Proofs.Ytnefphinmjeacaa
open Go.RowKit
theorem places {k Z a A : Nat} : k = 10 ∨ k = 10 + 1 ∨ k = A ∨ k = A + 1 ∨ k = A + 2 ∨ k = A + 2 + 1 ∨ k = Z ∨ k = Z + 1 ∨ k = a ∨ k = a + 1 ∨
    (k ≠ 10 ∧ k ≠ 10 + 1 ∧ k ≠ A ∧ k ≠ A + 1 ∧ k ≠ A + 2 ∧ k ≠ A + 2 + 1 ∧ k ≠ Z ∧ k ≠ Z + 1 ∧ k ≠ a ∧ k ≠ a + 1) := by omega
theorem side_eq3 (xs : Nat → Int) (Z a A : Nat) (p hi lo c1 c2 c3 m1 m2 : Int) (hA : 12 ≤ A) (ha : A + 4 ≤ a) (hZ : A + 4 ≤ Z) (hd : Z + 1 < a ∨ a + 1 < Z) (k : Nat) :
    w2 (w2 (w2 (w2 (w2 (w2 (w2 (w2 xs Z c1) a p) 10 m1) Z c2) A hi) 10 m2) Z c3) (A + 2) lo k = w2 (w2 (w2 (w2 (w2 xs 10 m2) Z c3) a p) A hi) (A + 2) lo k := by
  rcases places (k := k) (Z := Z) (a := a) (A := A) with rfl | rfl | rfl | rfl | rfl | rfl | rfl | rfl | rfl | rfl | h
  all_goals (repeat (first | rw [w2_ne (by omega) (by omega)] | rw [w2_hi] | rw [w2_lo]))
theorem side_eq1 (xs : Nat → Int) (Z a A : Nat) (p hi lo c1 m1 m2 : Int) (hA : 12 ≤ A) (ha : A + 4 ≤ a) (hZ : A + 4 ≤ Z) (hd : Z + 1 < a ∨ a + 1 < Z) (k : Nat) :
    w2 (w2 (w2 (w2 (w2 (w2 xs Z c1) a p) 10 m1) A hi) 10 m2) (A + 2) lo k = w2 (w2 (w2 (w2 (w2 xs 10 m2) Z c1) a p) A hi) (A + 2) lo k := by
  rcases places (k := k) (Z := Z) (a := a) (A := A) with rfl | rfl | rfl | rfl | rfl | rfl | rfl | rfl | rfl | rfl | h
  all_goals (repeat (first | rw [w2_ne (by omega) (by omega)] | rw [w2_hi] | rw [w2_lo]))
theorem side_eq0 (xs : Nat → Int) (a A : Nat) (p hi lo m1 m2 : Int) (hA : 12 ≤ A) (ha : A + 4 ≤ a) (k : Nat) :
    w2 (w2 (w2 (w2 (w2 xs a p) 10 m1) A hi) 10 m2) (A + 2) lo k = w2 (w2 (w2 (w2 xs 10 m2) a p) A hi) (A + 2) lo k := by
  rcases places (k := k) (Z := a) (a := a) (A := A) with rfl | rfl | rfl | rfl | rfl | rfl | rfl | rfl | rfl | rfl | h
  all_goals (repeat (first | rw [w2_ne (by omega) (by omega)] | rw [w2_hi] | rw [w2_lo]))
theorem side_full (xs : Nat → Int) (Z a A : Nat) (p hi lo c m2 : Int) (hA : 12 ≤ A) (ha : A + 4 ≤ a) (hZ : A + 4 ≤ Z) (hd : Z + 1 < a ∨ a + 1 < Z) (k : Nat) :
    w2 (w2 (w2 (w2 (w2 (w2 xs 10 m2) Z c) a p) A hi) (A + 2) lo) Z 65535 k = w2 (w2 (w2 (w2 (w2 xs 10 m2) Z 65535) a p) A hi) (A + 2) lo k := by
  rcases places (k := k) (Z := Z) (a := a) (A := A) with rfl | rfl | rfl | rfl | rfl | rfl | rfl | rfl | rfl | rfl | h
  all_goals (repeat (first | rw [w2_ne (by omega) (by omega)] | rw [w2_hi] | rw [w2_lo]))
set_option maxHeartbeats 8000000 in
theorem rside12_ok (kind code rest addr port : Int) (oa : Option Addr) (l c : Nat) (xs : Nat → Int) (w : World) (hl : l ≤ 100000000) (hB : Bts w oa l c xs) (haddr : 0 ≤ addr ∧ addr ≤ 4294967295) (h0 : nmErr kind xs l = 0) (hport : 0 ≤ port ∧ port ≤ 65535) :
    Calls Try.prog 14 #[.agg #[.int .i64 kind, .int .i64 code, .int .u32 rest, .slice oa l c], .int .i64 0, .int .u32 addr, .int .i64 port] w (TnM w kind code rest (tnErr kind xs l port) l (tnB xs l 12 0 addr port)) := by
  have HB := Lib.hid hB
  obtain ⟨t, ht⟩ : ∃ t, nmTup xs l = t := ⟨_, rfl⟩
  have HNM := Lib.hid (fun w1 (hb : Bts w1 oa l c xs) => show Calls Try.prog 12 #[.agg #[.int .i64 kind, .int .i64 code, .int .u32 rest, .slice oa l c]] w1 fun e w' => e = .returned (.tuple #[.agg #[.int .i64 t.proto, .int .u32 t.src, .int .i64 t.sport, .int .u32 t.dst, .int .i64 t.dport], .int .i64 0]) ∧ Junk w1 w' by rw [← ht]; exact (rnames_any kind code rest oa l c xs w1 hl hb).mono fun e w' hp => hp.ok h0)
  obtain ⟨hk, hW, hoff, hbl, hpr⟩ := nmErr_zero h0
  have HE := Lib.hid (show tnErr kind xs l port = 0 by unfold tnErr; rw [if_neg (by rw [h0]; decide), if_neg (by omega)])
  obtain ⟨hp0, hp1⟩ := hport
  have hp0' : ¬ port < 0 := by omega
  have hp1' : ¬ 65535 < port := by omega
  have hW20 := hW.l20
  obtain ⟨ad, rfl⟩ : ∃ ad, oa = some ad := by
    obtain ⟨b, off, he, _⟩ := hB.at_ 0 (by omega)
    exact ⟨_, he⟩
  have HX := Lib.hid hB.byte
  obtain ⟨S, hS⟩ : ∃ S, ipSize xs = S := ⟨_, rfl⟩
  obtain ⟨T, hT⟩ : ∃ T, ipTotal xs = T := ⟨_, rfl⟩
  obtain ⟨U, hU⟩ : ∃ U, min T l = U := ⟨_, rfl⟩
  have hblU : (aboutIp xs l).bl = U - S := by show min (ipTotal xs) l - ipSize xs = U - S; rw [hS, hT, hU]
  have hSl := hW.sl
  have hST := hW.st
  have hS20 := hW.s20
  have x0 := hB.byte 0 (by omega)
  have x2 := hB.byte 2 (by omega)
  have x3 := hB.byte 3 (by omega)
  have hS60 : ipSize xs ≤ 60 := by unfold ipSize; omega
  have e0 : xs 0 % 16 * 4 = (S : Int) := by rw [← hS]; unfold ipSize; omega
  have HTW := Lib.hid (show wd xs 2 = (T : Int) by show xs 2 * 256 + xs 3 = (T : Int); rw [← hT]; unfold ipTotal; omega)
  have hT64 : T ≤ 65535 := by rw [← hT]; unfold ipTotal; omega
  rw [hS] at hSl hST hS20 hS60
  rw [hT] at hST
  rw [hblU] at hbl
  have hUl : U ≤ l := by rw [← hU]; exact Nat.min_le_right _ _
  have hUT : (U = T ∧ ¬ (l : Int) < (T : Int)) ∨ (U = l ∧ (l : Int) < (T : Int)) := by omega
  have hSU : S + 8 ≤ U := by omega
  have hpt : t.proto = (aboutIp xs l).proto := by rw [← ht]; rfl
  have HPT := Lib.hid hpt
  have HSS := Lib.hid hS
  have HPR := Lib.hid hpr
  have HBLU := Lib.hid hblU
  have c0 : (0 : Int) < (l : Int) := by omega
  have c0' : 0 < l := by omega
  have x0r : Int.tmod (xs 0) 16 = xs 0 % 16 := Int.tmod_eq_emod_of_nonneg x0.1
  have x0a : IntKind.u8.wrap (xs 0 % 16) = xs 0 % 16 := wrapk_u8 _ (by omega) (by omega)
  have x0b : IntKind.i64.wrap (xs 0 % 16) = xs 0 % 16 := wrapk_i64 _ (by omega) (by omega)
  have x0c : IntKind.i64.wrap (S : Int) = (S : Int) := wrapk_i64 _ (by omega) (by omega)
  clear hB h0 ht hk hW hoff hpr hS hT hU hblU hpt
  go_enter Try.func14, Try.ntmps14
  go_upto_region 7 with (first | (go_at_call 12; (with_reducible refine (HNM.out _ (HB.out.on (by (first | ((repeat (first | with_reducible exact Junk.refl _ | with_reducible exact Junk.app _ _ _ _ _ | with_reducible apply Junk.alloc | with_reducible apply Junk.junk | with_reducible apply Junk.drew | with_reducible apply Junk.drewN)); done) | ((try simp only [World.junk_junk, Array.append_assoc]); (repeat (first | with_reducible exact Junk.refl _ | with_reducible exact Junk.app _ _ _ _ _ | with_reducible exact Junk.app2 _ _ _ _ _ _ | with_reducible exact Junk.app3 _ _ _ _ _ _ _ | with_reducible exact Junk.app4 _ _ _ _ _ _ _ _ | with_reducible exact Junk.app5 _ _ _ _ _ _ _ _ _ | with_reducible apply Junk.alloc | with_reducible apply Junk.junk | with_reducible apply Junk.drew | with_reducible apply Junk.drewN))))))).mono ?_); rintro e w' ⟨rfl, ⟨osN, dN, rfl⟩⟩) | (at_builtin; (refine ap_own rfl _ _ 23 rfl 5 (.int .u8 0) 1 1 (by kernel_rfl) rfl (by decide) Try.underlying23 ((Junk.refl _).alloc _) _ 0 0 [] rfl (own_made _ _ 1 0 _ _ (by simp) (Nat.le_refl _) (Nat.zero_le _) rfl) _ l c rfl ((List.range l).map fun i => .int .u8 (xs i)) (by simp) (HB.out.on (by (first | ((repeat (first | with_reducible exact Junk.refl _ | with_reducible exact Junk.app _ _ _ _ _ | with_reducible apply Junk.alloc | with_reducible apply Junk.junk | with_reducible apply Junk.drew | with_reducible apply Junk.drewN)); done) | ((try simp only [World.junk_junk, Array.append_assoc]); (repeat (first | with_reducible exact Junk.refl _ | with_reducible exact Junk.app _ _ _ _ _ | with_reducible exact Junk.app2 _ _ _ _ _ _ | with_reducible exact Junk.app3 _ _ _ _ _ _ _ | with_reducible exact Junk.app4 _ _ _ _ _ _ _ _ | with_reducible exact Junk.app5 _ _ _ _ _ _ _ _ _ | with_reducible apply Junk.alloc | with_reducible apply Junk.junk | with_reducible apply Junk.drew | with_reducible apply Junk.drewN)))))).at_.src (fun h => by cases h) (by simp [Value.oneCell']) (by simp only [maxLen]; omega) (by omega) ?_; intro oc cap osC dC hown _; rw [List.nil_append, Nat.zero_add] at hown; have HOWN := Lib.hid hown; clear hown)))
  obtain ⟨g, rfl, hgB, hgS, hcells⟩ := own_some HOWN.out (by omega)
  have hcap := HOWN.out.capLe
  have HCS : CsH [((w.heap.size + 1 + 1 + osN.size), 0, .int .i64 t.proto), (w.heap.size, 0, .int .i64 kind), (w.heap.size, 1, .int .i64 code), (w.heap.size, 2, .int .u32 rest), (w.heap.size, 3, .slice (some ad) l c), (w.heap.size + 1, 0, .int .i64 0), (w.heap.size + 1, 1, .int .i64 0), (w.heap.size + 1, 2, .int .u32 0), (w.heap.size + 1, 3, .slice none 0 0)] ((((((w.alloc (.cells #[.int .i64 kind, .int .i64 code, .int .u32 rest, .slice (some ad) l c] 25)).alloc (.cells #[.int .i64 0, .int .i64 0, .int .u32 0, .slice none 0 0] 25)).junk osN dN).alloc (.cells #[.int .i64 t.proto, .int .u32 t.src, .int .i64 t.sport, .int .u32 t.dst, .int .i64 t.dport] 28))).junk osC dC) := by
    repeat (refine CsH.cons.2 ⟨⟨(by simp; try omega), (by go_simp), (by go_simp)⟩, ?_⟩)
    exact CsH.nil _
  have hg1 : w.heap.size + 1 + 1 + osN.size + 1 ≤ g := by simp at hgB; omega
  have HS0 : St (CsH [((w.heap.size + 1 + 1 + osN.size), 0, .int .i64 t.proto), (w.heap.size, 0, .int .i64 kind), (w.heap.size, 1, .int .i64 code), (w.heap.size, 2, .int .u32 rest), (w.heap.size, 3, .slice (some ad) l c), (w.heap.size + 1, 0, .int .i64 0), (w.heap.size + 1, 1, .int .i64 0), (w.heap.size + 1, 2, .int .u32 0), (w.heap.size + 1, 3, .slice none 0 0)]) w ((((((w.alloc (.cells #[.int .i64 kind, .int .i64 code, .int .u32 rest, .slice (some ad) l c] 25)).alloc (.cells #[.int .i64 0, .int .i64 0, .int .u32 0, .slice none 0 0] 25)).junk osN dN).alloc (.cells #[.int .i64 t.proto, .int .u32 t.src, .int .i64 t.sport, .int .u32 t.dst, .int .i64 t.dport] 28))).junk osC dC) g l cap xs := ⟨by (first | ((repeat (first | with_reducible exact Junk.refl _ | with_reducible exact Junk.app _ _ _ _ _ | with_reducible apply Junk.alloc | with_reducible apply Junk.junk | with_reducible apply Junk.drew | with_reducible apply Junk.drewN)); done) | ((try simp only [World.junk_junk, Array.append_assoc]); (repeat (first | with_reducible exact Junk.refl _ | with_reducible exact Junk.app _ _ _ _ _ | with_reducible exact Junk.app2 _ _ _ _ _ _ | with_reducible exact Junk.app3 _ _ _ _ _ _ _ | with_reducible exact Junk.app4 _ _ _ _ _ _ _ _ | with_reducible exact Junk.app5 _ _ _ _ _ _ _ _ _ | with_reducible apply Junk.alloc | with_reducible apply Junk.junk | with_reducible apply Junk.drew | with_reducible apply Junk.drewN)))), by omega, hgS, own_bts HOWN.out HX.out, fun i hi => (hcells i (.int .u8 (xs i)) (by simp [hi])).2, HCS⟩
  have HN1 : ∀ q ∈ ([((w.heap.size + 1 + 1 + osN.size), 0, .int .i64 t.proto), (w.heap.size, 0, .int .i64 kind), (w.heap.size, 1, .int .i64 code), (w.heap.size, 2, .int .u32 rest), (w.heap.size, 3, .slice (some ad) l c), (w.heap.size + 1, 0, .int .i64 0), (w.heap.size + 1, 1, .int .i64 0), (w.heap.size + 1, 2, .int .u32 0), (w.heap.size + 1, 3, .slice none 0 0)] : List (Nat × Nat × Value)), q.1 ≠ g := by simp; omega
  have HK1 := Lib.hid (CsH.keeps HN1)
  have HN1 := Lib.hid HN1
  clear hcells HOWN HCS hgB hgS
  generalize (((((w.alloc (.cells #[.int .i64 kind, .int .i64 code, .int .u32 rest, .slice (some ad) l c] 25)).alloc (.cells #[.int .i64 0, .int .i64 0, .int .u32 0, .slice none 0 0] 25)).junk osN dN).alloc (.cells #[.int .i64 t.proto, .int .u32 t.src, .int .i64 t.sport, .int .u32 t.dst, .int .i64 t.dport] 28))).junk osC dC = V at HS0 ⊢
  have HS0' := Lib.hid HS0
  have hx0 := HS0.cell 0 (by omega)
  have hgs0 := HS0.gs
  obtain ⟨kq1, kq2, _⟩ := HS0.f ((w.heap.size + 1 + 1 + osN.size), 0, .int .i64 t.proto) (by simp)
  clear HS0
  go_upto_if 52 with (first | (go_at_call 34; (with_reducible refine (rpair_k (HS0'.out.b.on (by (first | ((repeat (first | with_reducible exact Junk.refl _ | with_reducible exact Junk.app _ _ _ _ _ | with_reducible apply Junk.alloc | with_reducible apply Junk.junk | with_reducible apply Junk.drew | with_reducible apply Junk.drewN)); done) | ((try simp only [World.junk_junk, Array.append_assoc]); (repeat (first | with_reducible exact Junk.refl _ | with_reducible exact Junk.app _ _ _ _ _ | with_reducible exact Junk.app2 _ _ _ _ _ _ | with_reducible exact Junk.app3 _ _ _ _ _ _ _ | with_reducible exact Junk.app4 _ _ _ _ _ _ _ _ | with_reducible exact Junk.app5 _ _ _ _ _ _ _ _ _ | with_reducible apply Junk.alloc | with_reducible apply Junk.junk | with_reducible apply Junk.drew | with_reducible apply Junk.drewN)))))) 2 _ T HTW.out (by omega) (by omega)).mono ?_); rintro e w' ⟨rfl, ⟨os8, d8, rfl⟩⟩))
  go_cut [14] (fun v wx => v = .int .i64 (U : Int) ∧ wx = V.junk os8 d8)
  case first =>
    rcases hUT with ⟨rfl, hc⟩ | ⟨rfl, hc⟩
    all_goals
      go_wp2
      go_meet
      exact ⟨rfl, rfl⟩
  case rest =>
    obtain ⟨rfl, rfl⟩ := hcut
    have HSA : St (CsH [((w.heap.size + 1 + 1 + osN.size), 0, .int .i64 t.proto), (w.heap.size, 0, .int .i64 kind), (w.heap.size, 1, .int .i64 code), (w.heap.size, 2, .int .u32 rest), (w.heap.size, 3, .slice (some ad) l c), (w.heap.size + 1, 0, .int .i64 0), (w.heap.size + 1, 1, .int .i64 0), (w.heap.size + 1, 2, .int .u32 0), (w.heap.size + 1, 3, .slice none 0 0)]) w (V.junk os8 d8) g l cap xs := HS0'.out.on HK1.out ⟨_, _, rfl⟩
    clear hx0 hgs0 kq1 kq2 HS0' hUT
    generalize V.junk os8 d8 = VA at HSA ⊢
    have HS0' := Lib.hid HSA
    obtain ⟨kq1, kq2, _⟩ := HSA.f ((w.heap.size + 1 + 1 + osN.size), 0, .int .i64 t.proto) (by simp)
    clear HSA
    obtain ⟨Bd, hBd⟩ : ∃ B, U - S = B := ⟨_, rfl⟩
    have HBd := Lib.hid hBd
    have hUS : (U : Int) - (S : Int) = (Bd : Int) := by omega
    clear hBd
    go_upto_block 0 with (fail)
    obtain ⟨T4, hT4⟩ : ∃ n, tnAt (aboutIp xs l) 0 = n := ⟨_, rfl⟩
    have HT4 := Lib.hid hT4
    have hT41 : t.proto = 1 → T4 = 4 := fun h => by rw [← hT4]; unfold tnAt; rw [if_pos (by rw [← HPT.out]; exact h)]
    have hT40 : t.proto ≠ 1 → T4 = 0 := fun h => by rw [← hT4]; unfold tnAt; rw [if_neg (by rw [← HPT.out]; exact h)]
    clear hT4
    have w2s := wrapk_i64 ((S : Int) + 2) (by omega) (by omega)
    have w4s := wrapk_i64 ((S : Int) + 4) (by omega) (by omega)
    have w6s := wrapk_i64 ((S : Int) + 6) (by omega) (by omega)
    have w16s := wrapk_i64 ((S : Int) + 16) (by omega) (by omega)
    obtain ⟨WU, hWU⟩ : ∃ v, wd xs (S + 6) = v := ⟨_, rfl⟩
    have HWU := Lib.hid hWU
    have htn1 : wd (tn1 xs 12 addr) (S + 6) = WU := by unfold tn1; rw [wd_w2_ne (by omega), hWU]
    have HTN1 := Lib.hid htn1
    clear hWU htn1
    go_cut [16, 17] (fun a s wx => ∃ (VB : World) (aT sm : Int), VB = wx ∧ a = .int .i64 aT ∧ s = .int .i64 sm ∧ aT = ((S + T4 : Nat) : Int) ∧ Hid (St (CsH [((w.heap.size + 1 + 1 + osN.size), 0, .int .i64 t.proto), (w.heap.size, 0, .int .i64 kind), (w.heap.size, 1, .int .i64 code), (w.heap.size, 2, .int .u32 rest), (w.heap.size, 3, .slice (some ad) l c), (w.heap.size + 1, 0, .int .i64 0), (w.heap.size + 1, 1, .int .i64 0), (w.heap.size + 1, 2, .int .u32 0), (w.heap.size + 1, 3, .slice none 0 0)]) w VB g l cap xs) ∧
      Hid ((sm = -1 ∧ tn2 xs l 12 0 addr port = tn1 xs 12 addr) ∨ (∃ Z : Nat, sm = (Z : Int) ∧ Z + 2 ≤ l ∧ S ≤ Z ∧ (Z + 1 < S + T4 ∨ S + T4 + 1 < Z) ∧
        ((t.proto = 1 ∧ tn2 xs l 12 0 addr port = w2 (tn1 xs 12 addr) Z (fullI (mendW (wd (tn1 xs 12 addr) Z) (tnAll xs l 12 0 addr port) 1))) ∨
         (t.proto ≠ 1 ∧ tn2 xs l 12 0 addr port = w2 (tn1 xs 12 addr) Z (fullI (mendW (wd (tn1 xs 12 addr) Z) (tnAll xs l 12 0 addr port) 3)))))))
    case first =>
      rcases HPR.out with h6 | h17 | ⟨h1, _⟩
      · rw [← HPT.out] at h6
        have q1 : (t.proto == 1) = false := by rw [h6]; rfl
        have q17 : (t.proto == 17) = false := by rw [h6]; rfl
        have g4 := hT40 (by rw [h6]; decide)
        have H6 := Lib.hid h6
        clear h6 hT41 hT40
        by_cases hz : 18 ≤ Bd
        · have hz1 : (18 : Int) ≤ (Bd : Int) := by omega
          have HZ := Lib.hid hz
          clear hz
          go_wp2
          go_meet
          refine ⟨_, _, _, rfl, rfl, rfl, by omega, Lib.hid (HS0'.out.on HK1.out (by (first | ((repeat (first | with_reducible exact Junk.refl _ | with_reducible exact Junk.app _ _ _ _ _ | with_reducible apply Junk.alloc | with_reducible apply Junk.junk | with_reducible apply Junk.drew | with_reducible apply Junk.drewN)); done) | ((try simp only [World.junk_junk, Array.append_assoc]); (repeat (first | with_reducible exact Junk.refl _ | with_reducible exact Junk.app _ _ _ _ _ | with_reducible exact Junk.app2 _ _ _ _ _ _ | with_reducible exact Junk.app3 _ _ _ _ _ _ _ | with_reducible exact Junk.app4 _ _ _ _ _ _ _ _ | with_reducible exact Junk.app5 _ _ _ _ _ _ _ _ _ | with_reducible apply Junk.alloc | with_reducible apply Junk.junk | with_reducible apply Junk.drew | with_reducible apply Junk.drewN)))))), Lib.hid (.inr ⟨S + 16, by omega, by have := HZ.out; have := HBd.out; omega, by omega, by omega, .inr ⟨by rw [H6.out]; decide, ?_⟩⟩)⟩
          unfold tn2
          rw [if_neg (by rw [← HPT.out, H6.out]; decide), if_neg (by rw [← HPT.out, H6.out]; decide), if_pos (by rw [HBLU.out, HBd.out]; exact HZ.out), HSS.out]
        · have hz1 : ¬ (18 : Int) ≤ (Bd : Int) := by omega
          have HZ := Lib.hid hz
          clear hz
          go_wp2
          go_meet
          refine ⟨_, _, _, rfl, rfl, rfl, by omega, Lib.hid (HS0'.out.on HK1.out (by (first | ((repeat (first | with_reducible exact Junk.refl _ | with_reducible exact Junk.app _ _ _ _ _ | with_reducible apply Junk.alloc | with_reducible apply Junk.junk | with_reducible apply Junk.drew | with_reducible apply Junk.drewN)); done) | ((try simp only [World.junk_junk, Array.append_assoc]); (repeat (first | with_reducible exact Junk.refl _ | with_reducible exact Junk.app _ _ _ _ _ | with_reducible exact Junk.app2 _ _ _ _ _ _ | with_reducible exact Junk.app3 _ _ _ _ _ _ _ | with_reducible exact Junk.app4 _ _ _ _ _ _ _ _ | with_reducible exact Junk.app5 _ _ _ _ _ _ _ _ _ | with_reducible apply Junk.alloc | with_reducible apply Junk.junk | with_reducible apply Junk.drew | with_reducible apply Junk.drewN)))))), Lib.hid (.inl ⟨rfl, ?_⟩)⟩
          unfold tn2
          rw [if_neg (by rw [← HPT.out, H6.out]; decide), if_neg (by rw [← HPT.out, H6.out]; decide), if_neg (by rw [HBLU.out, HBd.out]; exact HZ.out)]
      · rw [← HPT.out] at h17
        have q1 : (t.proto == 1) = false := by rw [h17]; rfl
        have q17 : (t.proto == 17) = true := by rw [h17]; rfl
        have g4 := hT40 (by rw [h17]; decide)
        have H17 := Lib.hid h17
        clear h17 hT41 hT40
        by_cases hz : WU = 0
        · have hz1 : (WU != 0) = false := by simpa using hz
          have HZ := Lib.hid hz
          clear hz
          go_wp2_with (first | (go_at_call 34; (with_reducible refine (rpair_k (HS0'.out.b.on (by (first | ((repeat (first | with_reducible exact Junk.refl _ | with_reducible exact Junk.app _ _ _ _ _ | with_reducible apply Junk.alloc | with_reducible apply Junk.junk | with_reducible apply Junk.drew | with_reducible apply Junk.drewN)); done) | ((try simp only [World.junk_junk, Array.append_assoc]); (repeat (first | with_reducible exact Junk.refl _ | with_reducible exact Junk.app _ _ _ _ _ | with_reducible exact Junk.app2 _ _ _ _ _ _ | with_reducible exact Junk.app3 _ _ _ _ _ _ _ | with_reducible exact Junk.app4 _ _ _ _ _ _ _ _ | with_reducible exact Junk.app5 _ _ _ _ _ _ _ _ _ | with_reducible apply Junk.alloc | with_reducible apply Junk.junk | with_reducible apply Junk.drew | with_reducible apply Junk.drewN)))))) (S + 6) _ WU HWU.out (by omega) (by omega)).mono ?_); rintro e w' ⟨rfl, ⟨osU, dU, rfl⟩⟩))
          go_meet
          refine ⟨_, _, _, rfl, rfl, rfl, by omega, Lib.hid (HS0'.out.on HK1.out (by (first | ((repeat (first | with_reducible exact Junk.refl _ | with_reducible exact Junk.app _ _ _ _ _ | with_reducible apply Junk.alloc | with_reducible apply Junk.junk | with_reducible apply Junk.drew | with_reducible apply Junk.drewN)); done) | ((try simp only [World.junk_junk, Array.append_assoc]); (repeat (first | with_reducible exact Junk.refl _ | with_reducible exact Junk.app _ _ _ _ _ | with_reducible exact Junk.app2 _ _ _ _ _ _ | with_reducible exact Junk.app3 _ _ _ _ _ _ _ | with_reducible exact Junk.app4 _ _ _ _ _ _ _ _ | with_reducible exact Junk.app5 _ _ _ _ _ _ _ _ _ | with_reducible apply Junk.alloc | with_reducible apply Junk.junk | with_reducible apply Junk.drew | with_reducible apply Junk.drewN)))))), Lib.hid (.inl ⟨rfl, ?_⟩)⟩
          unfold tn2
          rw [if_neg (by rw [← HPT.out, H17.out]; decide), if_pos (by rw [← HPT.out, H17.out]), if_pos (by rw [HSS.out, HTN1.out]; exact HZ.out)]
        · have hz1 : (WU != 0) = true := by simpa using hz
          have HZ := Lib.hid hz
          clear hz
          go_wp2_with (first | (go_at_call 34; (with_reducible refine (rpair_k (HS0'.out.b.on (by (first | ((repeat (first | with_reducible exact Junk.refl _ | with_reducible exact Junk.app _ _ _ _ _ | with_reducible apply Junk.alloc | with_reducible apply Junk.junk | with_reducible apply Junk.drew | with_reducible apply Junk.drewN)); done) | ((try simp only [World.junk_junk, Array.append_assoc]); (repeat (first | with_reducible exact Junk.refl _ | with_reducible exact Junk.app _ _ _ _ _ | with_reducible exact Junk.app2 _ _ _ _ _ _ | with_reducible exact Junk.app3 _ _ _ _ _ _ _ | with_reducible exact Junk.app4 _ _ _ _ _ _ _ _ | with_reducible exact Junk.app5 _ _ _ _ _ _ _ _ _ | with_reducible apply Junk.alloc | with_reducible apply Junk.junk | with_reducible apply Junk.drew | with_reducible apply Junk.drewN)))))) (S + 6) _ WU HWU.out (by omega) (by omega)).mono ?_); rintro e w' ⟨rfl, ⟨osU, dU, rfl⟩⟩))
          go_meet
          refine ⟨_, _, _, rfl, rfl, rfl, by omega, Lib.hid (HS0'.out.on HK1.out (by (first | ((repeat (first | with_reducible exact Junk.refl _ | with_reducible exact Junk.app _ _ _ _ _ | with_reducible apply Junk.alloc | with_reducible apply Junk.junk | with_reducible apply Junk.drew | with_reducible apply Junk.drewN)); done) | ((try simp only [World.junk_junk, Array.append_assoc]); (repeat (first | with_reducible exact Junk.refl _ | with_reducible exact Junk.app _ _ _ _ _ | with_reducible exact Junk.app2 _ _ _ _ _ _ | with_reducible exact Junk.app3 _ _ _ _ _ _ _ | with_reducible exact Junk.app4 _ _ _ _ _ _ _ _ | with_reducible exact Junk.app5 _ _ _ _ _ _ _ _ _ | with_reducible apply Junk.alloc | with_reducible apply Junk.junk | with_reducible apply Junk.drew | with_reducible apply Junk.drewN)))))), Lib.hid (.inr ⟨S + 6, by omega, by omega, by omega, by omega, .inr ⟨by rw [H17.out]; decide, ?_⟩⟩)⟩
          unfold tn2
          rw [if_neg (by rw [← HPT.out, H17.out]; decide), if_pos (by rw [← HPT.out, H17.out]), if_neg (by rw [HSS.out, HTN1.out]; exact HZ.out), HSS.out]
      · rw [← HPT.out] at h1
        have q1 : (t.proto == 1) = true := by rw [h1]; rfl
        have g4 := hT41 h1
        have H1 := Lib.hid h1
        clear h1 hT41 hT40
        go_wp2
        go_meet
        refine ⟨_, _, _, rfl, rfl, rfl, by omega, Lib.hid (HS0'.out.on HK1.out (by (first | ((repeat (first | with_reducible exact Junk.refl _ | with_reducible exact Junk.app _ _ _ _ _ | with_reducible apply Junk.alloc | with_reducible apply Junk.junk | with_reducible apply Junk.drew | with_reducible apply Junk.drewN)); done) | ((try simp only [World.junk_junk, Array.append_assoc]); (repeat (first | with_reducible exact Junk.refl _ | with_reducible exact Junk.app _ _ _ _ _ | with_reducible exact Junk.app2 _ _ _ _ _ _ | with_reducible exact Junk.app3 _ _ _ _ _ _ _ | with_reducible exact Junk.app4 _ _ _ _ _ _ _ _ | with_reducible exact Junk.app5 _ _ _ _ _ _ _ _ _ | with_reducible apply Junk.alloc | with_reducible apply Junk.junk | with_reducible apply Junk.drew | with_reducible apply Junk.drewN)))))), Lib.hid (.inr ⟨S + 2, by omega, by omega, by omega, by omega, .inl ⟨H1.out, ?_⟩⟩)⟩
        unfold tn2
        rw [if_pos (by rw [← HPT.out, H1.out]), HSS.out]
    case rest =>
      obtain ⟨VB, aT, sm, rfl, rfl, rfl, haT, HSB, HCL⟩ := hcut
      have hT4b : T4 ≤ 4 := by
        by_cases h : t.proto = 1
        · have := hT41 h; omega
        · have := hT40 h; omega
      obtain ⟨a4, ha4⟩ : ∃ a, S + T4 = a := ⟨_, rfl⟩
      have HA4 := Lib.hid ha4
      rw [ha4] at haT
      subst haT
      have ha4l : a4 + 2 ≤ l := by omega
      have ha4S : S ≤ a4 := by omega
      obtain ⟨PW, hPW⟩ : ∃ v, wd xs a4 = v := ⟨_, rfl⟩
      obtain ⟨WA, hWA⟩ : ∃ v, wd xs 12 = v := ⟨_, rfl⟩
      obtain ⟨WB, hWB⟩ : ∃ v, wd xs 14 = v := ⟨_, rfl⟩
      obtain ⟨W10, hW10⟩ : ∃ v, wd xs 10 = v := ⟨_, rfl⟩
      have bPW : 0 ≤ PW ∧ PW ≤ 65535 := by rw [← hPW]; exact wd_bd (HX.out _ (by omega)) (HX.out _ (by omega))
      have bWA : 0 ≤ WA ∧ WA ≤ 65535 := by rw [← hWA]; exact wd_bd (HX.out _ (by omega)) (HX.out _ (by omega))
      have bWB : 0 ≤ WB ∧ WB ≤ 65535 := by rw [← hWB]; exact wd_bd (HX.out _ (by omega)) (HX.out _ (by omega))
      have bhi : 0 ≤ addr / 65536 ∧ addr / 65536 ≤ 65535 := by omega
      have blo : 0 ≤ addr % 65536 ∧ addr % 65536 ≤ 65535 := by omega
      have bpo : 0 ≤ port ∧ port ≤ 65535 := ⟨hp0, hp1⟩
      have td1 : Int.tdiv addr 65536 = addr / 65536 := Int.tdiv_eq_ediv_of_nonneg haddr.1
      have td2 : Int.tmod addr 65536 = addr % 65536 := Int.tmod_eq_emod_of_nonneg haddr.1
      have wu1 := wrapk_u32 (addr / 65536) (by omega) (by omega)
      have wu2 := wrapk_u32 (addr % 65536) (by omega) (by omega)
      have wu3 := wrapk_i64 (addr / 65536) (by omega) (by omega)
      have wu4 := wrapk_i64 (addr % 65536) (by omega) (by omega)
      have HPW := Lib.hid hPW
      have HWA := Lib.hid hWA
      have HWB := Lib.hid hWB
      have HW10 := Lib.hid hW10
      clear hPW hWA hWB hW10 hT41 hT40 ha4 hUS w2s w4s w6s w16s
      obtain ⟨kq1, kq2, _⟩ := HSB.out.f ((w.heap.size + 1 + 1 + osN.size), 0, .int .i64 t.proto) (by simp)
      rcases HCL.out with ⟨hsm, htn⟩ | ⟨Z, hsm, hZl, hSZ, hd, ⟨hpr1, htn⟩ | ⟨hpr1, htn⟩⟩
      · subst hsm
        have HTN := Lib.hid htn
        have HWA2 := Lib.hid (show wd (w2 xs a4 port) 12 = WA by rw [wd_w2_ne (by omega)]; exact HWA.out)
        obtain ⟨m1, hm1⟩ : ∃ v, mendI W10 WA (addr / 65536) = v := ⟨_, rfl⟩
        have HM1 := Lib.hid (show mendI (wd (w2 xs a4 port) 10) WA (addr / 65536) = m1 by rw [wd_w2_ne (by omega), HW10.out]; exact hm1)
        have HWB2 := Lib.hid (show wd (w2 (w2 (w2 xs a4 port) 10 m1) 12 (addr / 65536)) 14 = WB by rw [wd_w2_ne (by omega), wd_w2_ne (by omega), wd_w2_ne (by omega)]; exact HWB.out)
        obtain ⟨m2, hm2⟩ : ∃ v, mendI m1 WB (addr % 65536) = v := ⟨_, rfl⟩
        have HM2 := Lib.hid (show mendI (wd (w2 (w2 (w2 xs a4 port) 10 m1) 12 (addr / 65536)) 10) WB (addr % 65536) = m2 by rw [wd_w2_ne (by omega), wd_w2]; exact hm2)
        have HMM := Lib.hid (show mendW (wd xs 10) (tnNm xs 12 addr) 2 = m2 by show mendI (mendI (wd xs 10) (wd xs 12) (addr / 65536)) (wd xs (12 + 2)) (addr % 65536) = m2; rw [HW10.out, HWA.out, HWB.out, hm1]; exact hm2)
        clear hm1 hm2 htn
        go_upto_region 26 with (first | (go_at_call 37; (with_reducible refine (rset_k (HSB.out.on HK1.out (by (first | ((repeat (first | with_reducible exact Junk.refl _ | with_reducible exact Junk.app _ _ _ _ _ | with_reducible apply Junk.alloc | with_reducible apply Junk.junk | with_reducible apply Junk.drew | with_reducible apply Junk.drewN)); done) | ((try simp only [World.junk_junk, Array.append_assoc]); (repeat (first | with_reducible exact Junk.refl _ | with_reducible exact Junk.app _ _ _ _ _ | with_reducible exact Junk.app2 _ _ _ _ _ _ | with_reducible exact Junk.app3 _ _ _ _ _ _ _ | with_reducible exact Junk.app4 _ _ _ _ _ _ _ _ | with_reducible exact Junk.app5 _ _ _ _ _ _ _ _ _ | with_reducible apply Junk.alloc | with_reducible apply Junk.junk | with_reducible apply Junk.drew | with_reducible apply Junk.drewN)))))) HK1.out (a4) _ port (by omega) (by omega) hl bpo).mono ?_); rintro e V2 ⟨rfl, hS⟩; obtain ⟨kq1, kq2, _⟩ := hS.f ((w.heap.size + 1 + 1 + osN.size), 0, .int .i64 t.proto) (by simp); have HS2 := Lib.hid hS; clear hS))
        go_wp2
        refine wp_loop_rounds 3 ?_
        rw [rounds_succ]
        go_wp2_with (first | (go_at_call 34; (with_reducible refine (rpair_k (HS2.out.b.on (by (first | ((repeat (first | with_reducible exact Junk.refl _ | with_reducible exact Junk.app _ _ _ _ _ | with_reducible apply Junk.alloc | with_reducible apply Junk.junk | with_reducible apply Junk.drew | with_reducible apply Junk.drewN)); done) | ((try simp only [World.junk_junk, Array.append_assoc]); (repeat (first | with_reducible exact Junk.refl _ | with_reducible exact Junk.app _ _ _ _ _ | with_reducible exact Junk.app2 _ _ _ _ _ _ | with_reducible exact Junk.app3 _ _ _ _ _ _ _ | with_reducible exact Junk.app4 _ _ _ _ _ _ _ _ | with_reducible exact Junk.app5 _ _ _ _ _ _ _ _ _ | with_reducible apply Junk.alloc | with_reducible apply Junk.junk | with_reducible apply Junk.drew | with_reducible apply Junk.drewN)))))) (12) _ WA HWA2.out (by omega) (by omega)).mono ?_); rintro e w' ⟨rfl, ⟨osA, dA, rfl⟩⟩) | (go_at_call 36; (with_reducible refine (rmend_k (HS2.out.on HK1.out (by (first | ((repeat (first | with_reducible exact Junk.refl _ | with_reducible exact Junk.app _ _ _ _ _ | with_reducible apply Junk.alloc | with_reducible apply Junk.junk | with_reducible apply Junk.drew | with_reducible apply Junk.drewN)); done) | ((try simp only [World.junk_junk, Array.append_assoc]); (repeat (first | with_reducible exact Junk.refl _ | with_reducible exact Junk.app _ _ _ _ _ | with_reducible exact Junk.app2 _ _ _ _ _ _ | with_reducible exact Junk.app3 _ _ _ _ _ _ _ | with_reducible exact Junk.app4 _ _ _ _ _ _ _ _ | with_reducible exact Junk.app5 _ _ _ _ _ _ _ _ _ | with_reducible apply Junk.alloc | with_reducible apply Junk.junk | with_reducible apply Junk.drew | with_reducible apply Junk.drewN)))))) HK1.out (10) _ WA (addr / 65536) m1 HM1.out (by omega) (by omega) hl bWA bhi).mono ?_); rintro e V3 ⟨rfl, hS⟩; obtain ⟨kq1, kq2, _⟩ := hS.f ((w.heap.size + 1 + 1 + osN.size), 0, .int .i64 t.proto) (by simp); have HS3 := Lib.hid hS; clear hS) | (go_at_call 37; (with_reducible refine (rset_k (HS3.out.on HK1.out (by (first | ((repeat (first | with_reducible exact Junk.refl _ | with_reducible exact Junk.app _ _ _ _ _ | with_reducible apply Junk.alloc | with_reducible apply Junk.junk | with_reducible apply Junk.drew | with_reducible apply Junk.drewN)); done) | ((try simp only [World.junk_junk, Array.append_assoc]); (repeat (first | with_reducible exact Junk.refl _ | with_reducible exact Junk.app _ _ _ _ _ | with_reducible exact Junk.app2 _ _ _ _ _ _ | with_reducible exact Junk.app3 _ _ _ _ _ _ _ | with_reducible exact Junk.app4 _ _ _ _ _ _ _ _ | with_reducible exact Junk.app5 _ _ _ _ _ _ _ _ _ | with_reducible apply Junk.alloc | with_reducible apply Junk.junk | with_reducible apply Junk.drew | with_reducible apply Junk.drewN)))))) HK1.out (12) _ (addr / 65536) (by omega) (by omega) hl bhi).mono ?_); rintro e V5 ⟨rfl, hS⟩; obtain ⟨kq1, kq2, _⟩ := hS.f ((w.heap.size + 1 + 1 + osN.size), 0, .int .i64 t.proto) (by simp); have HS5 := Lib.hid hS; clear hS))
        rw [rounds_succ]
        go_wp2_with (first | (go_at_call 34; (with_reducible refine (rpair_k (HS5.out.b.on (by (first | ((repeat (first | with_reducible exact Junk.refl _ | with_reducible exact Junk.app _ _ _ _ _ | with_reducible apply Junk.alloc | with_reducible apply Junk.junk | with_reducible apply Junk.drew | with_reducible apply Junk.drewN)); done) | ((try simp only [World.junk_junk, Array.append_assoc]); (repeat (first | with_reducible exact Junk.refl _ | with_reducible exact Junk.app _ _ _ _ _ | with_reducible exact Junk.app2 _ _ _ _ _ _ | with_reducible exact Junk.app3 _ _ _ _ _ _ _ | with_reducible exact Junk.app4 _ _ _ _ _ _ _ _ | with_reducible exact Junk.app5 _ _ _ _ _ _ _ _ _ | with_reducible apply Junk.alloc | with_reducible apply Junk.junk | with_reducible apply Junk.drew | with_reducible apply Junk.drewN)))))) (14) _ WB HWB2.out (by omega) (by omega)).mono ?_); rintro e w' ⟨rfl, ⟨osB, dB, rfl⟩⟩) | (go_at_call 36; (with_reducible refine (rmend_k (HS5.out.on HK1.out (by (first | ((repeat (first | with_reducible exact Junk.refl _ | with_reducible exact Junk.app _ _ _ _ _ | with_reducible apply Junk.alloc | with_reducible apply Junk.junk | with_reducible apply Junk.drew | with_reducible apply Junk.drewN)); done) | ((try simp only [World.junk_junk, Array.append_assoc]); (repeat (first | with_reducible exact Junk.refl _ | with_reducible exact Junk.app _ _ _ _ _ | with_reducible exact Junk.app2 _ _ _ _ _ _ | with_reducible exact Junk.app3 _ _ _ _ _ _ _ | with_reducible exact Junk.app4 _ _ _ _ _ _ _ _ | with_reducible exact Junk.app5 _ _ _ _ _ _ _ _ _ | with_reducible apply Junk.alloc | with_reducible apply Junk.junk | with_reducible apply Junk.drew | with_reducible apply Junk.drewN)))))) HK1.out (10) _ WB (addr % 65536) m2 HM2.out (by omega) (by omega) hl bWB blo).mono ?_); rintro e V6 ⟨rfl, hS⟩; obtain ⟨kq1, kq2, _⟩ := hS.f ((w.heap.size + 1 + 1 + osN.size), 0, .int .i64 t.proto) (by simp); have HS6 := Lib.hid hS; clear hS) | (go_at_call 37; (with_reducible refine (rset_k (HS6.out.on HK1.out (by (first | ((repeat (first | with_reducible exact Junk.refl _ | with_reducible exact Junk.app _ _ _ _ _ | with_reducible apply Junk.alloc | with_reducible apply Junk.junk | with_reducible apply Junk.drew | with_reducible apply Junk.drewN)); done) | ((try simp only [World.junk_junk, Array.append_assoc]); (repeat (first | with_reducible exact Junk.refl _ | with_reducible exact Junk.app _ _ _ _ _ | with_reducible exact Junk.app2 _ _ _ _ _ _ | with_reducible exact Junk.app3 _ _ _ _ _ _ _ | with_reducible exact Junk.app4 _ _ _ _ _ _ _ _ | with_reducible exact Junk.app5 _ _ _ _ _ _ _ _ _ | with_reducible apply Junk.alloc | with_reducible apply Junk.junk | with_reducible apply Junk.drew | with_reducible apply Junk.drewN)))))) HK1.out (14) _ (addr % 65536) (by omega) (by omega) hl blo).mono ?_); rintro e V8 ⟨rfl, hS⟩; obtain ⟨kq1, kq2, _⟩ := hS.f ((w.heap.size + 1 + 1 + osN.size), 0, .int .i64 t.proto) (by simp); have HS8 := Lib.hid hS; clear hS))
        obtain ⟨m00, m01, _⟩ := HS8.out.f (w.heap.size, 0, .int .i64 kind) (by simp)
        obtain ⟨_, m11, _⟩ := HS8.out.f (w.heap.size, 1, .int .i64 code) (by simp)
        obtain ⟨_, m21, _⟩ := HS8.out.f (w.heap.size, 2, .int .u32 rest) (by simp)
        obtain ⟨_, m31, m32⟩ := HS8.out.f (w.heap.size, 3, .slice (some ad) l c) (by simp)
        obtain ⟨r00, r01, r02⟩ := HS8.out.f (w.heap.size + 1, 0, .int .i64 0) (by simp)
        obtain ⟨_, r11, r12⟩ := HS8.out.f (w.heap.size + 1, 1, .int .i64 0) (by simp)
        obtain ⟨_, r21, r22⟩ := HS8.out.f (w.heap.size + 1, 2, .int .u32 0) (by simp)
        obtain ⟨_, r31, r32⟩ := HS8.out.f (w.heap.size + 1, 3, .slice none 0 0) (by simp)
        rw [rounds_succ]
        repeat (first | go_values | go_skip | go_guarded | go_step)
        have HSF := Lib.hid HS8.out
        have HBE := Lib.hid (fun i (hi : i < l) => show (w2 (w2 (w2 (w2 (w2 xs a4 port) 10 m1) 12 (addr / 65536)) 10 m2) 14 (addr % 65536)) i = tnB xs l 12 0 addr port i from by
          rw [side_eq0 xs a4 12 port (addr / 65536) (addr % 65536) m1 m2 (by omega) (by omega) i]
          unfold tnB
          rw [HTN.out, HSS.out, HT4.out, HA4.out]
          unfold tn1
          rw [HMM.out])
        have HSG := Lib.hid (HSF.out.congr HBE.out)
        obtain ⟨m00, m01, _⟩ := HSG.out.f (w.heap.size, 0, .int .i64 kind) (by simp)
        obtain ⟨_, m11, _⟩ := HSG.out.f (w.heap.size, 1, .int .i64 code) (by simp)
        obtain ⟨_, m21, _⟩ := HSG.out.f (w.heap.size, 2, .int .u32 rest) (by simp)
        obtain ⟨_, m31, m32⟩ := HSG.out.f (w.heap.size, 3, .slice (some ad) l c) (by simp)
        obtain ⟨r00, r01, r02⟩ := HSG.out.f (w.heap.size + 1, 0, .int .i64 0) (by simp)
        obtain ⟨_, r11, r12⟩ := HSG.out.f (w.heap.size + 1, 1, .int .i64 0) (by simp)
        obtain ⟨_, r21, r22⟩ := HSG.out.f (w.heap.size + 1, 2, .int .u32 0) (by simp)
        obtain ⟨_, r31, r32⟩ := HSG.out.f (w.heap.size + 1, 3, .slice none 0 0) (by simp)
        have hgm : w.heap.size ≠ g := by omega
        have hgr : w.heap.size + 1 ≠ g := by omega
        obtain ⟨wz0, wz1, wz2, wz3⟩ := set4_cells (V := (V8).setCell ⟨w.heap.size, 3, none⟩ (.slice (some ⟨g, 0, none⟩) l cap)) (b := w.heap.size + 1) (v0 := .int .i64 kind) (v1 := .int .i64 code) (v2 := .int .u32 rest) (v3 := (.slice (some ⟨g, 0, none⟩) l cap)) (cell_far _ r01 (by omega)) (cell_far _ r11 (by omega)) (cell_far _ r21 (by omega)) (cell_far _ r31 (by omega))
        have hJZ := ((((HSG.out.j.setCell (a := ⟨w.heap.size, 3, none⟩) (Nat.le_refl _) (.slice (some ⟨g, 0, none⟩) l cap)).setCell (a := ⟨w.heap.size + 1, 0, none⟩) (by show w.heap.size ≤ w.heap.size + 1; omega) (.int .i64 kind)).setCell (a := ⟨w.heap.size + 1, 1, none⟩) (by show w.heap.size ≤ w.heap.size + 1; omega) (.int .i64 code)).setCell (a := ⟨w.heap.size + 1, 2, none⟩) (by show w.heap.size ≤ w.heap.size + 1; omega) (.int .u32 rest)).setCell (a := ⟨w.heap.size + 1, 3, none⟩) (by show w.heap.size ≤ w.heap.size + 1; omega) (.slice (some ⟨g, 0, none⟩) l cap)
        have hBZ := bts_far (bts_far (bts_far (bts_far (bts_far HSG.out.b (i := 3) (.slice (some ⟨g, 0, none⟩) l cap) hgm) (i := 0) (.int .i64 kind) hgr) (i := 1) (.int .i64 code) hgr) (i := 2) (.int .u32 rest) hgr) (i := 3) (.slice (some ⟨g, 0, none⟩) l cap) hgr
        have HBZ := Lib.hid hBZ
        have HJZ := Lib.hid hJZ
        clear hBZ hJZ m01 m11 m21 m31 m32 r01 r02 r11 r12 r21 r22 r31 r32
        generalize (((((V8).setCell ⟨w.heap.size, 3, none⟩ (.slice (some ⟨g, 0, none⟩) l cap)).setCell ⟨w.heap.size + 1, 0, none⟩ (.int .i64 kind)).setCell ⟨w.heap.size + 1, 1, none⟩ (.int .i64 code)).setCell ⟨w.heap.size + 1, 2, none⟩ (.int .u32 rest)).setCell ⟨w.heap.size + 1, 3, none⟩ (.slice (some ⟨g, 0, none⟩) l cap) = WZ at wz0 wz1 wz2 wz3 HBZ HJZ ⊢
        refine bodyPost_ret (by simp [results, Try.results14, go_sem, wz0, wz1, wz2, wz3]; try rfl) rfl ?_
        exact ⟨HJZ.out, .inr ⟨HE.out, some ⟨g, 0, none⟩, cap, HBZ.out, rfl⟩⟩
      · subst hsm
        have q1 : (t.proto != 1) = false := by simpa using hpr1
        have n0 : (0 : Int) ≤ (Z : Int) := by omega
        have HTN := Lib.hid htn
        rw [HA4.out] at hd
        obtain ⟨WZ, hWZ⟩ : ∃ v, wd xs Z = v := ⟨_, rfl⟩
        have bWZ : 0 ≤ WZ ∧ WZ ≤ 65535 := by rw [← hWZ]; exact wd_bd (HX.out _ (by omega)) (HX.out _ (by omega))
        obtain ⟨c1, hc1⟩ : ∃ v, mendI WZ PW port = v := ⟨_, rfl⟩
        have HC1 := Lib.hid (show mendI (wd xs Z) PW port = c1 by rw [hWZ]; exact hc1)
        have HWA2 := Lib.hid (show wd (w2 (w2 xs Z c1) a4 port) 12 = WA by rw [wd_w2_ne (by omega), wd_w2_ne (by omega)]; exact HWA.out)
        obtain ⟨m1, hm1⟩ : ∃ v, mendI W10 WA (addr / 65536) = v := ⟨_, rfl⟩
        have HM1 := Lib.hid (show mendI (wd (w2 (w2 xs Z c1) a4 port) 10) WA (addr / 65536) = m1 by rw [wd_w2_ne (by omega), wd_w2_ne (by omega), HW10.out]; exact hm1)
        have HWB2 := Lib.hid (show wd (w2 (w2 (w2 (w2 xs Z c1) a4 port) 10 m1) 12 (addr / 65536)) 14 = WB by rw [wd_w2_ne (by omega), wd_w2_ne (by omega), wd_w2_ne (by omega), wd_w2_ne (by omega)]; exact HWB.out)
        obtain ⟨m2, hm2⟩ : ∃ v, mendI m1 WB (addr % 65536) = v := ⟨_, rfl⟩
        have HM2 := Lib.hid (show mendI (wd (w2 (w2 (w2 (w2 xs Z c1) a4 port) 10 m1) 12 (addr / 65536)) 10) WB (addr % 65536) = m2 by rw [wd_w2_ne (by omega), wd_w2]; exact hm2)
        have HCF := Lib.hid (show wd (w2 (w2 (w2 (w2 (w2 (w2 xs Z c1) a4 port) 10 m1) 12 (addr / 65536)) 10 m2) 14 (addr % 65536)) Z = c1 by rw [wd_w2_ne (by omega), wd_w2_ne (by omega), wd_w2_ne (by omega), wd_w2_ne (by omega), wd_w2_ne (by omega), wd_w2])
        have HMM := Lib.hid (show mendW (wd xs 10) (tnNm xs 12 addr) 2 = m2 by show mendI (mendI (wd xs 10) (wd xs 12) (addr / 65536)) (wd xs (12 + 2)) (addr % 65536) = m2; rw [HW10.out, HWA.out, HWB.out, hm1]; exact hm2)
        have HCC := Lib.hid (show mendW (wd (tn1 xs 12 addr) Z) (tnAll xs l 12 0 addr port) 1 = c1 by show mendI (wd (tn1 xs 12 addr) Z) (wd xs (ipSize xs + tnAt (aboutIp xs l) 0)) port = c1; rw [HSS.out, HT4.out, HA4.out, HPW.out, show wd (tn1 xs 12 addr) Z = WZ by unfold tn1; rw [wd_w2_ne (by omega)]; exact hWZ]; exact hc1)
        clear hm1 hm2 htn hWZ hc1 hpr1
        go_upto_region 26 with (first | (go_at_call 34; (with_reducible refine (rpair_k (HSB.out.b.on (by (first | ((repeat (first | with_reducible exact Junk.refl _ | with_reducible exact Junk.app _ _ _ _ _ | with_reducible apply Junk.alloc | with_reducible apply Junk.junk | with_reducible apply Junk.drew | with_reducible apply Junk.drewN)); done) | ((try simp only [World.junk_junk, Array.append_assoc]); (repeat (first | with_reducible exact Junk.refl _ | with_reducible exact Junk.app _ _ _ _ _ | with_reducible exact Junk.app2 _ _ _ _ _ _ | with_reducible exact Junk.app3 _ _ _ _ _ _ _ | with_reducible exact Junk.app4 _ _ _ _ _ _ _ _ | with_reducible exact Junk.app5 _ _ _ _ _ _ _ _ _ | with_reducible apply Junk.alloc | with_reducible apply Junk.junk | with_reducible apply Junk.drew | with_reducible apply Junk.drewN)))))) (a4) _ PW HPW.out (by omega) (by omega)).mono ?_); rintro e w' ⟨rfl, ⟨osP, dP, rfl⟩⟩) | (go_at_call 36; (with_reducible refine (rmend_k (HSB.out.on HK1.out (by (first | ((repeat (first | with_reducible exact Junk.refl _ | with_reducible exact Junk.app _ _ _ _ _ | with_reducible apply Junk.alloc | with_reducible apply Junk.junk | with_reducible apply Junk.drew | with_reducible apply Junk.drewN)); done) | ((try simp only [World.junk_junk, Array.append_assoc]); (repeat (first | with_reducible exact Junk.refl _ | with_reducible exact Junk.app _ _ _ _ _ | with_reducible exact Junk.app2 _ _ _ _ _ _ | with_reducible exact Junk.app3 _ _ _ _ _ _ _ | with_reducible exact Junk.app4 _ _ _ _ _ _ _ _ | with_reducible exact Junk.app5 _ _ _ _ _ _ _ _ _ | with_reducible apply Junk.alloc | with_reducible apply Junk.junk | with_reducible apply Junk.drew | with_reducible apply Junk.drewN)))))) HK1.out (Z) _ PW port c1 HC1.out (by omega) (by omega) hl bPW bpo).mono ?_); rintro e V1 ⟨rfl, hS⟩; obtain ⟨kq1, kq2, _⟩ := hS.f ((w.heap.size + 1 + 1 + osN.size), 0, .int .i64 t.proto) (by simp); have HS1 := Lib.hid hS; clear hS) | (go_at_call 37; (with_reducible refine (rset_k (HS1.out.on HK1.out (by (first | ((repeat (first | with_reducible exact Junk.refl _ | with_reducible exact Junk.app _ _ _ _ _ | with_reducible apply Junk.alloc | with_reducible apply Junk.junk | with_reducible apply Junk.drew | with_reducible apply Junk.drewN)); done) | ((try simp only [World.junk_junk, Array.append_assoc]); (repeat (first | with_reducible exact Junk.refl _ | with_reducible exact Junk.app _ _ _ _ _ | with_reducible exact Junk.app2 _ _ _ _ _ _ | with_reducible exact Junk.app3 _ _ _ _ _ _ _ | with_reducible exact Junk.app4 _ _ _ _ _ _ _ _ | with_reducible exact Junk.app5 _ _ _ _ _ _ _ _ _ | with_reducible apply Junk.alloc | with_reducible apply Junk.junk | with_reducible apply Junk.drew | with_reducible apply Junk.drewN)))))) HK1.out (a4) _ port (by omega) (by omega) hl bpo).mono ?_); rintro e V2 ⟨rfl, hS⟩; obtain ⟨kq1, kq2, _⟩ := hS.f ((w.heap.size + 1 + 1 + osN.size), 0, .int .i64 t.proto) (by simp); have HS2 := Lib.hid hS; clear hS))
        go_wp2
        refine wp_loop_rounds 3 ?_
        rw [rounds_succ]
        go_wp2_with (first | (go_at_call 34; (with_reducible refine (rpair_k (HS2.out.b.on (by (first | ((repeat (first | with_reducible exact Junk.refl _ | with_reducible exact Junk.app _ _ _ _ _ | with_reducible apply Junk.alloc | with_reducible apply Junk.junk | with_reducible apply Junk.drew | with_reducible apply Junk.drewN)); done) | ((try simp only [World.junk_junk, Array.append_assoc]); (repeat (first | with_reducible exact Junk.refl _ | with_reducible exact Junk.app _ _ _ _ _ | with_reducible exact Junk.app2 _ _ _ _ _ _ | with_reducible exact Junk.app3 _ _ _ _ _ _ _ | with_reducible exact Junk.app4 _ _ _ _ _ _ _ _ | with_reducible exact Junk.app5 _ _ _ _ _ _ _ _ _ | with_reducible apply Junk.alloc | with_reducible apply Junk.junk | with_reducible apply Junk.drew | with_reducible apply Junk.drewN)))))) (12) _ WA HWA2.out (by omega) (by omega)).mono ?_); rintro e w' ⟨rfl, ⟨osA, dA, rfl⟩⟩) | (go_at_call 36; (with_reducible refine (rmend_k (HS2.out.on HK1.out (by (first | ((repeat (first | with_reducible exact Junk.refl _ | with_reducible exact Junk.app _ _ _ _ _ | with_reducible apply Junk.alloc | with_reducible apply Junk.junk | with_reducible apply Junk.drew | with_reducible apply Junk.drewN)); done) | ((try simp only [World.junk_junk, Array.append_assoc]); (repeat (first | with_reducible exact Junk.refl _ | with_reducible exact Junk.app _ _ _ _ _ | with_reducible exact Junk.app2 _ _ _ _ _ _ | with_reducible exact Junk.app3 _ _ _ _ _ _ _ | with_reducible exact Junk.app4 _ _ _ _ _ _ _ _ | with_reducible exact Junk.app5 _ _ _ _ _ _ _ _ _ | with_reducible apply Junk.alloc | with_reducible apply Junk.junk | with_reducible apply Junk.drew | with_reducible apply Junk.drewN)))))) HK1.out (10) _ WA (addr / 65536) m1 HM1.out (by omega) (by omega) hl bWA bhi).mono ?_); rintro e V3 ⟨rfl, hS⟩; obtain ⟨kq1, kq2, _⟩ := hS.f ((w.heap.size + 1 + 1 + osN.size), 0, .int .i64 t.proto) (by simp); have HS3 := Lib.hid hS; clear hS) | (go_at_call 37; (with_reducible refine (rset_k (HS3.out.on HK1.out (by (first | ((repeat (first | with_reducible exact Junk.refl _ | with_reducible exact Junk.app _ _ _ _ _ | with_reducible apply Junk.alloc | with_reducible apply Junk.junk | with_reducible apply Junk.drew | with_reducible apply Junk.drewN)); done) | ((try simp only [World.junk_junk, Array.append_assoc]); (repeat (first | with_reducible exact Junk.refl _ | with_reducible exact Junk.app _ _ _ _ _ | with_reducible exact Junk.app2 _ _ _ _ _ _ | with_reducible exact Junk.app3 _ _ _ _ _ _ _ | with_reducible exact Junk.app4 _ _ _ _ _ _ _ _ | with_reducible exact Junk.app5 _ _ _ _ _ _ _ _ _ | with_reducible apply Junk.alloc | with_reducible apply Junk.junk | with_reducible apply Junk.drew | with_reducible apply Junk.drewN)))))) HK1.out (12) _ (addr / 65536) (by omega) (by omega) hl bhi).mono ?_); rintro e V5 ⟨rfl, hS⟩; obtain ⟨kq1, kq2, _⟩ := hS.f ((w.heap.size + 1 + 1 + osN.size), 0, .int .i64 t.proto) (by simp); have HS5 := Lib.hid hS; clear hS))
        rw [rounds_succ]
        go_wp2_with (first | (go_at_call 34; (with_reducible refine (rpair_k (HS5.out.b.on (by (first | ((repeat (first | with_reducible exact Junk.refl _ | with_reducible exact Junk.app _ _ _ _ _ | with_reducible apply Junk.alloc | with_reducible apply Junk.junk | with_reducible apply Junk.drew | with_reducible apply Junk.drewN)); done) | ((try simp only [World.junk_junk, Array.append_assoc]); (repeat (first | with_reducible exact Junk.refl _ | with_reducible exact Junk.app _ _ _ _ _ | with_reducible exact Junk.app2 _ _ _ _ _ _ | with_reducible exact Junk.app3 _ _ _ _ _ _ _ | with_reducible exact Junk.app4 _ _ _ _ _ _ _ _ | with_reducible exact Junk.app5 _ _ _ _ _ _ _ _ _ | with_reducible apply Junk.alloc | with_reducible apply Junk.junk | with_reducible apply Junk.drew | with_reducible apply Junk.drewN)))))) (14) _ WB HWB2.out (by omega) (by omega)).mono ?_); rintro e w' ⟨rfl, ⟨osB, dB, rfl⟩⟩) | (go_at_call 36; (with_reducible refine (rmend_k (HS5.out.on HK1.out (by (first | ((repeat (first | with_reducible exact Junk.refl _ | with_reducible exact Junk.app _ _ _ _ _ | with_reducible apply Junk.alloc | with_reducible apply Junk.junk | with_reducible apply Junk.drew | with_reducible apply Junk.drewN)); done) | ((try simp only [World.junk_junk, Array.append_assoc]); (repeat (first | with_reducible exact Junk.refl _ | with_reducible exact Junk.app _ _ _ _ _ | with_reducible exact Junk.app2 _ _ _ _ _ _ | with_reducible exact Junk.app3 _ _ _ _ _ _ _ | with_reducible exact Junk.app4 _ _ _ _ _ _ _ _ | with_reducible exact Junk.app5 _ _ _ _ _ _ _ _ _ | with_reducible apply Junk.alloc | with_reducible apply Junk.junk | with_reducible apply Junk.drew | with_reducible apply Junk.drewN)))))) HK1.out (10) _ WB (addr % 65536) m2 HM2.out (by omega) (by omega) hl bWB blo).mono ?_); rintro e V6 ⟨rfl, hS⟩; obtain ⟨kq1, kq2, _⟩ := hS.f ((w.heap.size + 1 + 1 + osN.size), 0, .int .i64 t.proto) (by simp); have HS6 := Lib.hid hS; clear hS) | (go_at_call 37; (with_reducible refine (rset_k (HS6.out.on HK1.out (by (first | ((repeat (first | with_reducible exact Junk.refl _ | with_reducible exact Junk.app _ _ _ _ _ | with_reducible apply Junk.alloc | with_reducible apply Junk.junk | with_reducible apply Junk.drew | with_reducible apply Junk.drewN)); done) | ((try simp only [World.junk_junk, Array.append_assoc]); (repeat (first | with_reducible exact Junk.refl _ | with_reducible exact Junk.app _ _ _ _ _ | with_reducible exact Junk.app2 _ _ _ _ _ _ | with_reducible exact Junk.app3 _ _ _ _ _ _ _ | with_reducible exact Junk.app4 _ _ _ _ _ _ _ _ | with_reducible exact Junk.app5 _ _ _ _ _ _ _ _ _ | with_reducible apply Junk.alloc | with_reducible apply Junk.junk | with_reducible apply Junk.drew | with_reducible apply Junk.drewN)))))) HK1.out (14) _ (addr % 65536) (by omega) (by omega) hl blo).mono ?_); rintro e V8 ⟨rfl, hS⟩; obtain ⟨kq1, kq2, _⟩ := hS.f ((w.heap.size + 1 + 1 + osN.size), 0, .int .i64 t.proto) (by simp); have HS8 := Lib.hid hS; clear hS))
        rw [rounds_succ]
        by_cases hz : c1 = 0
        · have hz1 : (c1 == 0) = true := by simpa using hz
          have HZ0 := Lib.hid hz
          clear hz
          go_upto_region 39 with (first | (go_at_call 34; (with_reducible refine (rpair_k (HS8.out.b.on (by (first | ((repeat (first | with_reducible exact Junk.refl _ | with_reducible exact Junk.app _ _ _ _ _ | with_reducible apply Junk.alloc | with_reducible apply Junk.junk | with_reducible apply Junk.drew | with_reducible apply Junk.drewN)); done) | ((try simp only [World.junk_junk, Array.append_assoc]); (repeat (first | with_reducible exact Junk.refl _ | with_reducible exact Junk.app _ _ _ _ _ | with_reducible exact Junk.app2 _ _ _ _ _ _ | with_reducible exact Junk.app3 _ _ _ _ _ _ _ | with_reducible exact Junk.app4 _ _ _ _ _ _ _ _ | with_reducible exact Junk.app5 _ _ _ _ _ _ _ _ _ | with_reducible apply Junk.alloc | with_reducible apply Junk.junk | with_reducible apply Junk.drew | with_reducible apply Junk.drewN)))))) (Z) _ c1 HCF.out (by omega) (by omega)).mono ?_); rintro e w' ⟨rfl, ⟨osE, dE, rfl⟩⟩) | (go_at_call 37; (with_reducible refine (rset_k (HS8.out.on HK1.out (by (first | ((repeat (first | with_reducible exact Junk.refl _ | with_reducible exact Junk.app _ _ _ _ _ | with_reducible apply Junk.alloc | with_reducible apply Junk.junk | with_reducible apply Junk.drew | with_reducible apply Junk.drewN)); done) | ((try simp only [World.junk_junk, Array.append_assoc]); (repeat (first | with_reducible exact Junk.refl _ | with_reducible exact Junk.app _ _ _ _ _ | with_reducible exact Junk.app2 _ _ _ _ _ _ | with_reducible exact Junk.app3 _ _ _ _ _ _ _ | with_reducible exact Junk.app4 _ _ _ _ _ _ _ _ | with_reducible exact Junk.app5 _ _ _ _ _ _ _ _ _ | with_reducible apply Junk.alloc | with_reducible apply Junk.junk | with_reducible apply Junk.drew | with_reducible apply Junk.drewN)))))) HK1.out (Z) _ 65535 (by omega) (by omega) hl ⟨by decide, by decide⟩).mono ?_); rintro e V9 ⟨rfl, hS⟩; obtain ⟨kq1, kq2, _⟩ := hS.f ((w.heap.size + 1 + 1 + osN.size), 0, .int .i64 t.proto) (by simp); have HS9 := Lib.hid hS; clear hS))
          obtain ⟨m00, m01, _⟩ := HS9.out.f (w.heap.size, 0, .int .i64 kind) (by simp)
          obtain ⟨_, m11, _⟩ := HS9.out.f (w.heap.size, 1, .int .i64 code) (by simp)
          obtain ⟨_, m21, _⟩ := HS9.out.f (w.heap.size, 2, .int .u32 rest) (by simp)
          obtain ⟨_, m31, m32⟩ := HS9.out.f (w.heap.size, 3, .slice (some ad) l c) (by simp)
          obtain ⟨r00, r01, r02⟩ := HS9.out.f (w.heap.size + 1, 0, .int .i64 0) (by simp)
          obtain ⟨_, r11, r12⟩ := HS9.out.f (w.heap.size + 1, 1, .int .i64 0) (by simp)
          obtain ⟨_, r21, r22⟩ := HS9.out.f (w.heap.size + 1, 2, .int .u32 0) (by simp)
          obtain ⟨_, r31, r32⟩ := HS9.out.f (w.heap.size + 1, 3, .slice none 0 0) (by simp)
          repeat (first | go_values | go_skip | go_guarded | go_step)
          have HSF := Lib.hid HS9.out
          have HBE := Lib.hid (fun i (hi : i < l) => show (w2 (w2 (w2 (w2 (w2 (w2 (w2 xs Z c1) a4 port) 10 m1) 12 (addr / 65536)) 10 m2) 14 (addr % 65536)) Z 65535) i = tnB xs l 12 0 addr port i from by
            rw [w2_congr (side_eq1 xs Z a4 12 port (addr / 65536) (addr % 65536) c1 m1 m2 (by omega) (by omega) (by omega) hd i), side_full xs Z a4 12 port (addr / 65536) (addr % 65536) c1 m2 (by omega) (by omega) (by omega) hd i]
            unfold tnB
            rw [HTN.out, HSS.out, HT4.out, HA4.out, HCC.out]
            unfold fullI tn1
            rw [HMM.out, if_pos HZ0.out])
          have HSG := Lib.hid (HSF.out.congr HBE.out)
          obtain ⟨m00, m01, _⟩ := HSG.out.f (w.heap.size, 0, .int .i64 kind) (by simp)
          obtain ⟨_, m11, _⟩ := HSG.out.f (w.heap.size, 1, .int .i64 code) (by simp)
          obtain ⟨_, m21, _⟩ := HSG.out.f (w.heap.size, 2, .int .u32 rest) (by simp)
          obtain ⟨_, m31, m32⟩ := HSG.out.f (w.heap.size, 3, .slice (some ad) l c) (by simp)
          obtain ⟨r00, r01, r02⟩ := HSG.out.f (w.heap.size + 1, 0, .int .i64 0) (by simp)
          obtain ⟨_, r11, r12⟩ := HSG.out.f (w.heap.size + 1, 1, .int .i64 0) (by simp)
          obtain ⟨_, r21, r22⟩ := HSG.out.f (w.heap.size + 1, 2, .int .u32 0) (by simp)
          obtain ⟨_, r31, r32⟩ := HSG.out.f (w.heap.size + 1, 3, .slice none 0 0) (by simp)
          have hgm : w.heap.size ≠ g := by omega
          have hgr : w.heap.size + 1 ≠ g := by omega
          obtain ⟨wz0, wz1, wz2, wz3⟩ := set4_cells (V := (V9).setCell ⟨w.heap.size, 3, none⟩ (.slice (some ⟨g, 0, none⟩) l cap)) (b := w.heap.size + 1) (v0 := .int .i64 kind) (v1 := .int .i64 code) (v2 := .int .u32 rest) (v3 := (.slice (some ⟨g, 0, none⟩) l cap)) (cell_far _ r01 (by omega)) (cell_far _ r11 (by omega)) (cell_far _ r21 (by omega)) (cell_far _ r31 (by omega))
          have hJZ := ((((HSG.out.j.setCell (a := ⟨w.heap.size, 3, none⟩) (Nat.le_refl _) (.slice (some ⟨g, 0, none⟩) l cap)).setCell (a := ⟨w.heap.size + 1, 0, none⟩) (by show w.heap.size ≤ w.heap.size + 1; omega) (.int .i64 kind)).setCell (a := ⟨w.heap.size + 1, 1, none⟩) (by show w.heap.size ≤ w.heap.size + 1; omega) (.int .i64 code)).setCell (a := ⟨w.heap.size + 1, 2, none⟩) (by show w.heap.size ≤ w.heap.size + 1; omega) (.int .u32 rest)).setCell (a := ⟨w.heap.size + 1, 3, none⟩) (by show w.heap.size ≤ w.heap.size + 1; omega) (.slice (some ⟨g, 0, none⟩) l cap)
          have hBZ := bts_far (bts_far (bts_far (bts_far (bts_far HSG.out.b (i := 3) (.slice (some ⟨g, 0, none⟩) l cap) hgm) (i := 0) (.int .i64 kind) hgr) (i := 1) (.int .i64 code) hgr) (i := 2) (.int .u32 rest) hgr) (i := 3) (.slice (some ⟨g, 0, none⟩) l cap) hgr
          have HBZ := Lib.hid hBZ
          have HJZ := Lib.hid hJZ
          clear hBZ hJZ m01 m11 m21 m31 m32 r01 r02 r11 r12 r21 r22 r31 r32
          generalize (((((V9).setCell ⟨w.heap.size, 3, none⟩ (.slice (some ⟨g, 0, none⟩) l cap)).setCell ⟨w.heap.size + 1, 0, none⟩ (.int .i64 kind)).setCell ⟨w.heap.size + 1, 1, none⟩ (.int .i64 code)).setCell ⟨w.heap.size + 1, 2, none⟩ (.int .u32 rest)).setCell ⟨w.heap.size + 1, 3, none⟩ (.slice (some ⟨g, 0, none⟩) l cap) = WZ at wz0 wz1 wz2 wz3 HBZ HJZ ⊢
          refine bodyPost_ret (by simp [results, Try.results14, go_sem, wz0, wz1, wz2, wz3]; try rfl) rfl ?_
          exact ⟨HJZ.out, .inr ⟨HE.out, some ⟨g, 0, none⟩, cap, HBZ.out, rfl⟩⟩
        · have hz1 : (c1 == 0) = false := by simpa using hz
          have HZ0 := Lib.hid hz
          clear hz
          go_upto_region 39 with (first | (go_at_call 34; (with_reducible refine (rpair_k (HS8.out.b.on (by (first | ((repeat (first | with_reducible exact Junk.refl _ | with_reducible exact Junk.app _ _ _ _ _ | with_reducible apply Junk.alloc | with_reducible apply Junk.junk | with_reducible apply Junk.drew | with_reducible apply Junk.drewN)); done) | ((try simp only [World.junk_junk, Array.append_assoc]); (repeat (first | with_reducible exact Junk.refl _ | with_reducible exact Junk.app _ _ _ _ _ | with_reducible exact Junk.app2 _ _ _ _ _ _ | with_reducible exact Junk.app3 _ _ _ _ _ _ _ | with_reducible exact Junk.app4 _ _ _ _ _ _ _ _ | with_reducible exact Junk.app5 _ _ _ _ _ _ _ _ _ | with_reducible apply Junk.alloc | with_reducible apply Junk.junk | with_reducible apply Junk.drew | with_reducible apply Junk.drewN)))))) (Z) _ c1 HCF.out (by omega) (by omega)).mono ?_); rintro e w' ⟨rfl, ⟨osE, dE, rfl⟩⟩))
          have HS9 := Lib.hid (HS8.out.on HK1.out (V' := V8.junk osE dE) ⟨_, _, rfl⟩)
          generalize V8.junk osE dE = V9 at HS9 ⊢
          obtain ⟨m00, m01, _⟩ := HS9.out.f (w.heap.size, 0, .int .i64 kind) (by simp)
          obtain ⟨_, m11, _⟩ := HS9.out.f (w.heap.size, 1, .int .i64 code) (by simp)
          obtain ⟨_, m21, _⟩ := HS9.out.f (w.heap.size, 2, .int .u32 rest) (by simp)
          obtain ⟨_, m31, m32⟩ := HS9.out.f (w.heap.size, 3, .slice (some ad) l c) (by simp)
          obtain ⟨r00, r01, r02⟩ := HS9.out.f (w.heap.size + 1, 0, .int .i64 0) (by simp)
          obtain ⟨_, r11, r12⟩ := HS9.out.f (w.heap.size + 1, 1, .int .i64 0) (by simp)
          obtain ⟨_, r21, r22⟩ := HS9.out.f (w.heap.size + 1, 2, .int .u32 0) (by simp)
          obtain ⟨_, r31, r32⟩ := HS9.out.f (w.heap.size + 1, 3, .slice none 0 0) (by simp)
          repeat (first | go_values | go_skip | go_guarded | go_step)
          have HSF := Lib.hid HS9.out
          have HBE := Lib.hid (fun i (hi : i < l) => show (w2 (w2 (w2 (w2 (w2 (w2 xs Z c1) a4 port) 10 m1) 12 (addr / 65536)) 10 m2) 14 (addr % 65536)) i = tnB xs l 12 0 addr port i from by
            rw [side_eq1 xs Z a4 12 port (addr / 65536) (addr % 65536) c1 m1 m2 (by omega) (by omega) (by omega) hd i]
            unfold tnB
            rw [HTN.out, HSS.out, HT4.out, HA4.out, HCC.out]
            unfold fullI tn1
            rw [HMM.out, if_neg HZ0.out])
          have HSG := Lib.hid (HSF.out.congr HBE.out)
          obtain ⟨m00, m01, _⟩ := HSG.out.f (w.heap.size, 0, .int .i64 kind) (by simp)
          obtain ⟨_, m11, _⟩ := HSG.out.f (w.heap.size, 1, .int .i64 code) (by simp)
          obtain ⟨_, m21, _⟩ := HSG.out.f (w.heap.size, 2, .int .u32 rest) (by simp)
          obtain ⟨_, m31, m32⟩ := HSG.out.f (w.heap.size, 3, .slice (some ad) l c) (by simp)
          obtain ⟨r00, r01, r02⟩ := HSG.out.f (w.heap.size + 1, 0, .int .i64 0) (by simp)
          obtain ⟨_, r11, r12⟩ := HSG.out.f (w.heap.size + 1, 1, .int .i64 0) (by simp)
          obtain ⟨_, r21, r22⟩ := HSG.out.f (w.heap.size + 1, 2, .int .u32 0) (by simp)
          obtain ⟨_, r31, r32⟩ := HSG.out.f (w.heap.size + 1, 3, .slice none 0 0) (by simp)
          have hgm : w.heap.size ≠ g := by omega
          have hgr : w.heap.size + 1 ≠ g := by omega
          obtain ⟨wz0, wz1, wz2, wz3⟩ := set4_cells (V := (V9).setCell ⟨w.heap.size, 3, none⟩ (.slice (some ⟨g, 0, none⟩) l cap)) (b := w.heap.size + 1) (v0 := .int .i64 kind) (v1 := .int .i64 code) (v2 := .int .u32 rest) (v3 := (.slice (some ⟨g, 0, none⟩) l cap)) (cell_far _ r01 (by omega)) (cell_far _ r11 (by omega)) (cell_far _ r21 (by omega)) (cell_far _ r31 (by omega))
          have hJZ := ((((HSG.out.j.setCell (a := ⟨w.heap.size, 3, none⟩) (Nat.le_refl _) (.slice (some ⟨g, 0, none⟩) l cap)).setCell (a := ⟨w.heap.size + 1, 0, none⟩) (by show w.heap.size ≤ w.heap.size + 1; omega) (.int .i64 kind)).setCell (a := ⟨w.heap.size + 1, 1, none⟩) (by show w.heap.size ≤ w.heap.size + 1; omega) (.int .i64 code)).setCell (a := ⟨w.heap.size + 1, 2, none⟩) (by show w.heap.size ≤ w.heap.size + 1; omega) (.int .u32 rest)).setCell (a := ⟨w.heap.size + 1, 3, none⟩) (by show w.heap.size ≤ w.heap.size + 1; omega) (.slice (some ⟨g, 0, none⟩) l cap)
          have hBZ := bts_far (bts_far (bts_far (bts_far (bts_far HSG.out.b (i := 3) (.slice (some ⟨g, 0, none⟩) l cap) hgm) (i := 0) (.int .i64 kind) hgr) (i := 1) (.int .i64 code) hgr) (i := 2) (.int .u32 rest) hgr) (i := 3) (.slice (some ⟨g, 0, none⟩) l cap) hgr
          have HBZ := Lib.hid hBZ
          have HJZ := Lib.hid hJZ
          clear hBZ hJZ m01 m11 m21 m31 m32 r01 r02 r11 r12 r21 r22 r31 r32
          generalize (((((V9).setCell ⟨w.heap.size, 3, none⟩ (.slice (some ⟨g, 0, none⟩) l cap)).setCell ⟨w.heap.size + 1, 0, none⟩ (.int .i64 kind)).setCell ⟨w.heap.size + 1, 1, none⟩ (.int .i64 code)).setCell ⟨w.heap.size + 1, 2, none⟩ (.int .u32 rest)).setCell ⟨w.heap.size + 1, 3, none⟩ (.slice (some ⟨g, 0, none⟩) l cap) = WZ at wz0 wz1 wz2 wz3 HBZ HJZ ⊢
          refine bodyPost_ret (by simp [results, Try.results14, go_sem, wz0, wz1, wz2, wz3]; try rfl) rfl ?_
          exact ⟨HJZ.out, .inr ⟨HE.out, some ⟨g, 0, none⟩, cap, HBZ.out, rfl⟩⟩
      · subst hsm
        have q1 : (t.proto != 1) = true := by simpa using hpr1
        have n0 : (0 : Int) ≤ (Z : Int) := by omega
        have HTN := Lib.hid htn
        rw [HA4.out] at hd
        obtain ⟨WZ, hWZ⟩ : ∃ v, wd xs Z = v := ⟨_, rfl⟩
        have bWZ : 0 ≤ WZ ∧ WZ ≤ 65535 := by rw [← hWZ]; exact wd_bd (HX.out _ (by omega)) (HX.out _ (by omega))
        obtain ⟨c1, hc1⟩ : ∃ v, mendI WZ PW port = v := ⟨_, rfl⟩
        have HC1 := Lib.hid (show mendI (wd xs Z) PW port = c1 by rw [hWZ]; exact hc1)
        have HWA2 := Lib.hid (show wd (w2 (w2 xs Z c1) a4 port) 12 = WA by rw [wd_w2_ne (by omega), wd_w2_ne (by omega)]; exact HWA.out)
        obtain ⟨m1, hm1⟩ : ∃ v, mendI W10 WA (addr / 65536) = v := ⟨_, rfl⟩
        have HM1 := Lib.hid (show mendI (wd (w2 (w2 xs Z c1) a4 port) 10) WA (addr / 65536) = m1 by rw [wd_w2_ne (by omega), wd_w2_ne (by omega), HW10.out]; exact hm1)
        obtain ⟨c2, hc2⟩ : ∃ v, mendI c1 WA (addr / 65536) = v := ⟨_, rfl⟩
        have HC2 := Lib.hid (show mendI (wd (w2 (w2 (w2 xs Z c1) a4 port) 10 m1) Z) WA (addr / 65536) = c2 by rw [wd_w2_ne (by omega), wd_w2_ne (by omega), wd_w2]; exact hc2)
        have HWB2 := Lib.hid (show wd (w2 (w2 (w2 (w2 (w2 xs Z c1) a4 port) 10 m1) Z c2) 12 (addr / 65536)) 14 = WB by rw [wd_w2_ne (by omega), wd_w2_ne (by omega), wd_w2_ne (by omega), wd_w2_ne (by omega), wd_w2_ne (by omega)]; exact HWB.out)
        obtain ⟨m2, hm2⟩ : ∃ v, mendI m1 WB (addr % 65536) = v := ⟨_, rfl⟩
        have HM2 := Lib.hid (show mendI (wd (w2 (w2 (w2 (w2 (w2 xs Z c1) a4 port) 10 m1) Z c2) 12 (addr / 65536)) 10) WB (addr % 65536) = m2 by rw [wd_w2_ne (by omega), wd_w2_ne (by omega), wd_w2]; exact hm2)
        obtain ⟨c3, hc3⟩ : ∃ v, mendI c2 WB (addr % 65536) = v := ⟨_, rfl⟩
        have HC3 := Lib.hid (show mendI (wd (w2 (w2 (w2 (w2 (w2 (w2 xs Z c1) a4 port) 10 m1) Z c2) 12 (addr / 65536)) 10 m2) Z) WB (addr % 65536) = c3 by rw [wd_w2_ne (by omega), wd_w2_ne (by omega), wd_w2]; exact hc3)
        have HCF := Lib.hid (show wd (w2 (w2 (w2 (w2 (w2 (w2 (w2 (w2 xs Z c1) a4 port) 10 m1) Z c2) 12 (addr / 65536)) 10 m2) Z c3) 14 (addr % 65536)) Z = c3 by rw [wd_w2_ne (by omega), wd_w2])
        have HMM := Lib.hid (show mendW (wd xs 10) (tnNm xs 12 addr) 2 = m2 by show mendI (mendI (wd xs 10) (wd xs 12) (addr / 65536)) (wd xs (12 + 2)) (addr % 65536) = m2; rw [HW10.out, HWA.out, HWB.out, hm1]; exact hm2)
        have HCC := Lib.hid (show mendW (wd (tn1 xs 12 addr) Z) (tnAll xs l 12 0 addr port) 3 = c3 by show mendI (mendI (mendI (wd (tn1 xs 12 addr) Z) (wd xs (ipSize xs + tnAt (aboutIp xs l) 0)) port) (wd xs 12) (addr / 65536)) (wd xs (12 + 2)) (addr % 65536) = c3; rw [HSS.out, HT4.out, HA4.out, HPW.out, HWA.out, HWB.out, show wd (tn1 xs 12 addr) Z = WZ by unfold tn1; rw [wd_w2_ne (by omega)]; exact hWZ, hc1, hc2]; exact hc3)
        clear hm1 hm2 htn hWZ hc1 hpr1 hc2 hc3
        go_upto_region 26 with (first | (go_at_call 34; (with_reducible refine (rpair_k (HSB.out.b.on (by (first | ((repeat (first | with_reducible exact Junk.refl _ | with_reducible exact Junk.app _ _ _ _ _ | with_reducible apply Junk.alloc | with_reducible apply Junk.junk | with_reducible apply Junk.drew | with_reducible apply Junk.drewN)); done) | ((try simp only [World.junk_junk, Array.append_assoc]); (repeat (first | with_reducible exact Junk.refl _ | with_reducible exact Junk.app _ _ _ _ _ | with_reducible exact Junk.app2 _ _ _ _ _ _ | with_reducible exact Junk.app3 _ _ _ _ _ _ _ | with_reducible exact Junk.app4 _ _ _ _ _ _ _ _ | with_reducible exact Junk.app5 _ _ _ _ _ _ _ _ _ | with_reducible apply Junk.alloc | with_reducible apply Junk.junk | with_reducible apply Junk.drew | with_reducible apply Junk.drewN)))))) (a4) _ PW HPW.out (by omega) (by omega)).mono ?_); rintro e w' ⟨rfl, ⟨osP, dP, rfl⟩⟩) | (go_at_call 36; (with_reducible refine (rmend_k (HSB.out.on HK1.out (by (first | ((repeat (first | with_reducible exact Junk.refl _ | with_reducible exact Junk.app _ _ _ _ _ | with_reducible apply Junk.alloc | with_reducible apply Junk.junk | with_reducible apply Junk.drew | with_reducible apply Junk.drewN)); done) | ((try simp only [World.junk_junk, Array.append_assoc]); (repeat (first | with_reducible exact Junk.refl _ | with_reducible exact Junk.app _ _ _ _ _ | with_reducible exact Junk.app2 _ _ _ _ _ _ | with_reducible exact Junk.app3 _ _ _ _ _ _ _ | with_reducible exact Junk.app4 _ _ _ _ _ _ _ _ | with_reducible exact Junk.app5 _ _ _ _ _ _ _ _ _ | with_reducible apply Junk.alloc | with_reducible apply Junk.junk | with_reducible apply Junk.drew | with_reducible apply Junk.drewN)))))) HK1.out (Z) _ PW port c1 HC1.out (by omega) (by omega) hl bPW bpo).mono ?_); rintro e V1 ⟨rfl, hS⟩; obtain ⟨kq1, kq2, _⟩ := hS.f ((w.heap.size + 1 + 1 + osN.size), 0, .int .i64 t.proto) (by simp); have HS1 := Lib.hid hS; clear hS) | (go_at_call 37; (with_reducible refine (rset_k (HS1.out.on HK1.out (by (first | ((repeat (first | with_reducible exact Junk.refl _ | with_reducible exact Junk.app _ _ _ _ _ | with_reducible apply Junk.alloc | with_reducible apply Junk.junk | with_reducible apply Junk.drew | with_reducible apply Junk.drewN)); done) | ((try simp only [World.junk_junk, Array.append_assoc]); (repeat (first | with_reducible exact Junk.refl _ | with_reducible exact Junk.app _ _ _ _ _ | with_reducible exact Junk.app2 _ _ _ _ _ _ | with_reducible exact Junk.app3 _ _ _ _ _ _ _ | with_reducible exact Junk.app4 _ _ _ _ _ _ _ _ | with_reducible exact Junk.app5 _ _ _ _ _ _ _ _ _ | with_reducible apply Junk.alloc | with_reducible apply Junk.junk | with_reducible apply Junk.drew | with_reducible apply Junk.drewN)))))) HK1.out (a4) _ port (by omega) (by omega) hl bpo).mono ?_); rintro e V2 ⟨rfl, hS⟩; obtain ⟨kq1, kq2, _⟩ := hS.f ((w.heap.size + 1 + 1 + osN.size), 0, .int .i64 t.proto) (by simp); have HS2 := Lib.hid hS; clear hS))
        go_wp2
        refine wp_loop_rounds 3 ?_
        rw [rounds_succ]
        go_wp2_with (first | (go_at_call 34; (with_reducible refine (rpair_k (HS2.out.b.on (by (first | ((repeat (first | with_reducible exact Junk.refl _ | with_reducible exact Junk.app _ _ _ _ _ | with_reducible apply Junk.alloc | with_reducible apply Junk.junk | with_reducible apply Junk.drew | with_reducible apply Junk.drewN)); done) | ((try simp only [World.junk_junk, Array.append_assoc]); (repeat (first | with_reducible exact Junk.refl _ | with_reducible exact Junk.app _ _ _ _ _ | with_reducible exact Junk.app2 _ _ _ _ _ _ | with_reducible exact Junk.app3 _ _ _ _ _ _ _ | with_reducible exact Junk.app4 _ _ _ _ _ _ _ _ | with_reducible exact Junk.app5 _ _ _ _ _ _ _ _ _ | with_reducible apply Junk.alloc | with_reducible apply Junk.junk | with_reducible apply Junk.drew | with_reducible apply Junk.drewN)))))) (12) _ WA HWA2.out (by omega) (by omega)).mono ?_); rintro e w' ⟨rfl, ⟨osA, dA, rfl⟩⟩) | (go_at_call 36; (with_reducible refine (rmend_k (HS2.out.on HK1.out (by (first | ((repeat (first | with_reducible exact Junk.refl _ | with_reducible exact Junk.app _ _ _ _ _ | with_reducible apply Junk.alloc | with_reducible apply Junk.junk | with_reducible apply Junk.drew | with_reducible apply Junk.drewN)); done) | ((try simp only [World.junk_junk, Array.append_assoc]); (repeat (first | with_reducible exact Junk.refl _ | with_reducible exact Junk.app _ _ _ _ _ | with_reducible exact Junk.app2 _ _ _ _ _ _ | with_reducible exact Junk.app3 _ _ _ _ _ _ _ | with_reducible exact Junk.app4 _ _ _ _ _ _ _ _ | with_reducible exact Junk.app5 _ _ _ _ _ _ _ _ _ | with_reducible apply Junk.alloc | with_reducible apply Junk.junk | with_reducible apply Junk.drew | with_reducible apply Junk.drewN)))))) HK1.out (10) _ WA (addr / 65536) m1 HM1.out (by omega) (by omega) hl bWA bhi).mono ?_); rintro e V3 ⟨rfl, hS⟩; obtain ⟨kq1, kq2, _⟩ := hS.f ((w.heap.size + 1 + 1 + osN.size), 0, .int .i64 t.proto) (by simp); have HS3 := Lib.hid hS; clear hS) | (go_at_call 36; (with_reducible refine (rmend_k (HS3.out.on HK1.out (by (first | ((repeat (first | with_reducible exact Junk.refl _ | with_reducible exact Junk.app _ _ _ _ _ | with_reducible apply Junk.alloc | with_reducible apply Junk.junk | with_reducible apply Junk.drew | with_reducible apply Junk.drewN)); done) | ((try simp only [World.junk_junk, Array.append_assoc]); (repeat (first | with_reducible exact Junk.refl _ | with_reducible exact Junk.app _ _ _ _ _ | with_reducible exact Junk.app2 _ _ _ _ _ _ | with_reducible exact Junk.app3 _ _ _ _ _ _ _ | with_reducible exact Junk.app4 _ _ _ _ _ _ _ _ | with_reducible exact Junk.app5 _ _ _ _ _ _ _ _ _ | with_reducible apply Junk.alloc | with_reducible apply Junk.junk | with_reducible apply Junk.drew | with_reducible apply Junk.drewN)))))) HK1.out (Z) _ WA (addr / 65536) c2 HC2.out (by omega) (by omega) hl bWA bhi).mono ?_); rintro e V4 ⟨rfl, hS⟩; obtain ⟨kq1, kq2, _⟩ := hS.f ((w.heap.size + 1 + 1 + osN.size), 0, .int .i64 t.proto) (by simp); have HS4 := Lib.hid hS; clear hS) | (go_at_call 37; (with_reducible refine (rset_k (HS4.out.on HK1.out (by (first | ((repeat (first | with_reducible exact Junk.refl _ | with_reducible exact Junk.app _ _ _ _ _ | with_reducible apply Junk.alloc | with_reducible apply Junk.junk | with_reducible apply Junk.drew | with_reducible apply Junk.drewN)); done) | ((try simp only [World.junk_junk, Array.append_assoc]); (repeat (first | with_reducible exact Junk.refl _ | with_reducible exact Junk.app _ _ _ _ _ | with_reducible exact Junk.app2 _ _ _ _ _ _ | with_reducible exact Junk.app3 _ _ _ _ _ _ _ | with_reducible exact Junk.app4 _ _ _ _ _ _ _ _ | with_reducible exact Junk.app5 _ _ _ _ _ _ _ _ _ | with_reducible apply Junk.alloc | with_reducible apply Junk.junk | with_reducible apply Junk.drew | with_reducible apply Junk.drewN)))))) HK1.out (12) _ (addr / 65536) (by omega) (by omega) hl bhi).mono ?_); rintro e V5 ⟨rfl, hS⟩; obtain ⟨kq1, kq2, _⟩ := hS.f ((w.heap.size + 1 + 1 + osN.size), 0, .int .i64 t.proto) (by simp); have HS5 := Lib.hid hS; clear hS))
        rw [rounds_succ]
        go_wp2_with (first | (go_at_call 34; (with_reducible refine (rpair_k (HS5.out.b.on (by (first | ((repeat (first | with_reducible exact Junk.refl _ | with_reducible exact Junk.app _ _ _ _ _ | with_reducible apply Junk.alloc | with_reducible apply Junk.junk | with_reducible apply Junk.drew | with_reducible apply Junk.drewN)); done) | ((try simp only [World.junk_junk, Array.append_assoc]); (repeat (first | with_reducible exact Junk.refl _ | with_reducible exact Junk.app _ _ _ _ _ | with_reducible exact Junk.app2 _ _ _ _ _ _ | with_reducible exact Junk.app3 _ _ _ _ _ _ _ | with_reducible exact Junk.app4 _ _ _ _ _ _ _ _ | with_reducible exact Junk.app5 _ _ _ _ _ _ _ _ _ | with_reducible apply Junk.alloc | with_reducible apply Junk.junk | with_reducible apply Junk.drew | with_reducible apply Junk.drewN)))))) (14) _ WB HWB2.out (by omega) (by omega)).mono ?_); rintro e w' ⟨rfl, ⟨osB, dB, rfl⟩⟩) | (go_at_call 36; (with_reducible refine (rmend_k (HS5.out.on HK1.out (by (first | ((repeat (first | with_reducible exact Junk.refl _ | with_reducible exact Junk.app _ _ _ _ _ | with_reducible apply Junk.alloc | with_reducible apply Junk.junk | with_reducible apply Junk.drew | with_reducible apply Junk.drewN)); done) | ((try simp only [World.junk_junk, Array.append_assoc]); (repeat (first | with_reducible exact Junk.refl _ | with_reducible exact Junk.app _ _ _ _ _ | with_reducible exact Junk.app2 _ _ _ _ _ _ | with_reducible exact Junk.app3 _ _ _ _ _ _ _ | with_reducible exact Junk.app4 _ _ _ _ _ _ _ _ | with_reducible exact Junk.app5 _ _ _ _ _ _ _ _ _ | with_reducible apply Junk.alloc | with_reducible apply Junk.junk | with_reducible apply Junk.drew | with_reducible apply Junk.drewN)))))) HK1.out (10) _ WB (addr % 65536) m2 HM2.out (by omega) (by omega) hl bWB blo).mono ?_); rintro e V6 ⟨rfl, hS⟩; obtain ⟨kq1, kq2, _⟩ := hS.f ((w.heap.size + 1 + 1 + osN.size), 0, .int .i64 t.proto) (by simp); have HS6 := Lib.hid hS; clear hS) | (go_at_call 36; (with_reducible refine (rmend_k (HS6.out.on HK1.out (by (first | ((repeat (first | with_reducible exact Junk.refl _ | with_reducible exact Junk.app _ _ _ _ _ | with_reducible apply Junk.alloc | with_reducible apply Junk.junk | with_reducible apply Junk.drew | with_reducible apply Junk.drewN)); done) | ((try simp only [World.junk_junk, Array.append_assoc]); (repeat (first | with_reducible exact Junk.refl _ | with_reducible exact Junk.app _ _ _ _ _ | with_reducible exact Junk.app2 _ _ _ _ _ _ | with_reducible exact Junk.app3 _ _ _ _ _ _ _ | with_reducible exact Junk.app4 _ _ _ _ _ _ _ _ | with_reducible exact Junk.app5 _ _ _ _ _ _ _ _ _ | with_reducible apply Junk.alloc | with_reducible apply Junk.junk | with_reducible apply Junk.drew | with_reducible apply Junk.drewN)))))) HK1.out (Z) _ WB (addr % 65536) c3 HC3.out (by omega) (by omega) hl bWB blo).mono ?_); rintro e V7 ⟨rfl, hS⟩; obtain ⟨kq1, kq2, _⟩ := hS.f ((w.heap.size + 1 + 1 + osN.size), 0, .int .i64 t.proto) (by simp); have HS7 := Lib.hid hS; clear hS) | (go_at_call 37; (with_reducible refine (rset_k (HS7.out.on HK1.out (by (first | ((repeat (first | with_reducible exact Junk.refl _ | with_reducible exact Junk.app _ _ _ _ _ | with_reducible apply Junk.alloc | with_reducible apply Junk.junk | with_reducible apply Junk.drew | with_reducible apply Junk.drewN)); done) | ((try simp only [World.junk_junk, Array.append_assoc]); (repeat (first | with_reducible exact Junk.refl _ | with_reducible exact Junk.app _ _ _ _ _ | with_reducible exact Junk.app2 _ _ _ _ _ _ | with_reducible exact Junk.app3 _ _ _ _ _ _ _ | with_reducible exact Junk.app4 _ _ _ _ _ _ _ _ | with_reducible exact Junk.app5 _ _ _ _ _ _ _ _ _ | with_reducible apply Junk.alloc | with_reducible apply Junk.junk | with_reducible apply Junk.drew | with_reducible apply Junk.drewN)))))) HK1.out (14) _ (addr % 65536) (by omega) (by omega) hl blo).mono ?_); rintro e V8 ⟨rfl, hS⟩; obtain ⟨kq1, kq2, _⟩ := hS.f ((w.heap.size + 1 + 1 + osN.size), 0, .int .i64 t.proto) (by simp); have HS8 := Lib.hid hS; clear hS))
        rw [rounds_succ]
        by_cases hz : c3 = 0
        · have hz1 : (c3 == 0) = true := by simpa using hz
          have HZ0 := Lib.hid hz
          clear hz
          go_upto_region 39 with (first | (go_at_call 34; (with_reducible refine (rpair_k (HS8.out.b.on (by (first | ((repeat (first | with_reducible exact Junk.refl _ | with_reducible exact Junk.app _ _ _ _ _ | with_reducible apply Junk.alloc | with_reducible apply Junk.junk | with_reducible apply Junk.drew | with_reducible apply Junk.drewN)); done) | ((try simp only [World.junk_junk, Array.append_assoc]); (repeat (first | with_reducible exact Junk.refl _ | with_reducible exact Junk.app _ _ _ _ _ | with_reducible exact Junk.app2 _ _ _ _ _ _ | with_reducible exact Junk.app3 _ _ _ _ _ _ _ | with_reducible exact Junk.app4 _ _ _ _ _ _ _ _ | with_reducible exact Junk.app5 _ _ _ _ _ _ _ _ _ | with_reducible apply Junk.alloc | with_reducible apply Junk.junk | with_reducible apply Junk.drew | with_reducible apply Junk.drewN)))))) (Z) _ c3 HCF.out (by omega) (by omega)).mono ?_); rintro e w' ⟨rfl, ⟨osE, dE, rfl⟩⟩) | (go_at_call 37; (with_reducible refine (rset_k (HS8.out.on HK1.out (by (first | ((repeat (first | with_reducible exact Junk.refl _ | with_reducible exact Junk.app _ _ _ _ _ | with_reducible apply Junk.alloc | with_reducible apply Junk.junk | with_reducible apply Junk.drew | with_reducible apply Junk.drewN)); done) | ((try simp only [World.junk_junk, Array.append_assoc]); (repeat (first | with_reducible exact Junk.refl _ | with_reducible exact Junk.app _ _ _ _ _ | with_reducible exact Junk.app2 _ _ _ _ _ _ | with_reducible exact Junk.app3 _ _ _ _ _ _ _ | with_reducible exact Junk.app4 _ _ _ _ _ _ _ _ | with_reducible exact Junk.app5 _ _ _ _ _ _ _ _ _ | with_reducible apply Junk.alloc | with_reducible apply Junk.junk | with_reducible apply Junk.drew | with_reducible apply Junk.drewN)))))) HK1.out (Z) _ 65535 (by omega) (by omega) hl ⟨by decide, by decide⟩).mono ?_); rintro e V9 ⟨rfl, hS⟩; obtain ⟨kq1, kq2, _⟩ := hS.f ((w.heap.size + 1 + 1 + osN.size), 0, .int .i64 t.proto) (by simp); have HS9 := Lib.hid hS; clear hS))
          obtain ⟨m00, m01, _⟩ := HS9.out.f (w.heap.size, 0, .int .i64 kind) (by simp)
          obtain ⟨_, m11, _⟩ := HS9.out.f (w.heap.size, 1, .int .i64 code) (by simp)
          obtain ⟨_, m21, _⟩ := HS9.out.f (w.heap.size, 2, .int .u32 rest) (by simp)
          obtain ⟨_, m31, m32⟩ := HS9.out.f (w.heap.size, 3, .slice (some ad) l c) (by simp)
          obtain ⟨r00, r01, r02⟩ := HS9.out.f (w.heap.size + 1, 0, .int .i64 0) (by simp)
          obtain ⟨_, r11, r12⟩ := HS9.out.f (w.heap.size + 1, 1, .int .i64 0) (by simp)
          obtain ⟨_, r21, r22⟩ := HS9.out.f (w.heap.size + 1, 2, .int .u32 0) (by simp)
          obtain ⟨_, r31, r32⟩ := HS9.out.f (w.heap.size + 1, 3, .slice none 0 0) (by simp)
          repeat (first | go_values | go_skip | go_guarded | go_step)
          have HSF := Lib.hid HS9.out
          have HBE := Lib.hid (fun i (hi : i < l) => show (w2 (w2 (w2 (w2 (w2 (w2 (w2 (w2 (w2 xs Z c1) a4 port) 10 m1) Z c2) 12 (addr / 65536)) 10 m2) Z c3) 14 (addr % 65536)) Z 65535) i = tnB xs l 12 0 addr port i from by
            rw [w2_congr (side_eq3 xs Z a4 12 port (addr / 65536) (addr % 65536) c1 c2 c3 m1 m2 (by omega) (by omega) (by omega) hd i), side_full xs Z a4 12 port (addr / 65536) (addr % 65536) c3 m2 (by omega) (by omega) (by omega) hd i]
            unfold tnB
            rw [HTN.out, HSS.out, HT4.out, HA4.out, HCC.out]
            unfold fullI tn1
            rw [HMM.out, if_pos HZ0.out])
          have HSG := Lib.hid (HSF.out.congr HBE.out)
          obtain ⟨m00, m01, _⟩ := HSG.out.f (w.heap.size, 0, .int .i64 kind) (by simp)
          obtain ⟨_, m11, _⟩ := HSG.out.f (w.heap.size, 1, .int .i64 code) (by simp)
          obtain ⟨_, m21, _⟩ := HSG.out.f (w.heap.size, 2, .int .u32 rest) (by simp)
          obtain ⟨_, m31, m32⟩ := HSG.out.f (w.heap.size, 3, .slice (some ad) l c) (by simp)
          obtain ⟨r00, r01, r02⟩ := HSG.out.f (w.heap.size + 1, 0, .int .i64 0) (by simp)
          obtain ⟨_, r11, r12⟩ := HSG.out.f (w.heap.size + 1, 1, .int .i64 0) (by simp)
          obtain ⟨_, r21, r22⟩ := HSG.out.f (w.heap.size + 1, 2, .int .u32 0) (by simp)
          obtain ⟨_, r31, r32⟩ := HSG.out.f (w.heap.size + 1, 3, .slice none 0 0) (by simp)
          have hgm : w.heap.size ≠ g := by omega
          have hgr : w.heap.size + 1 ≠ g := by omega
          obtain ⟨wz0, wz1, wz2, wz3⟩ := set4_cells (V := (V9).setCell ⟨w.heap.size, 3, none⟩ (.slice (some ⟨g, 0, none⟩) l cap)) (b := w.heap.size + 1) (v0 := .int .i64 kind) (v1 := .int .i64 code) (v2 := .int .u32 rest) (v3 := (.slice (some ⟨g, 0, none⟩) l cap)) (cell_far _ r01 (by omega)) (cell_far _ r11 (by omega)) (cell_far _ r21 (by omega)) (cell_far _ r31 (by omega))
          have hJZ := ((((HSG.out.j.setCell (a := ⟨w.heap.size, 3, none⟩) (Nat.le_refl _) (.slice (some ⟨g, 0, none⟩) l cap)).setCell (a := ⟨w.heap.size + 1, 0, none⟩) (by show w.heap.size ≤ w.heap.size + 1; omega) (.int .i64 kind)).setCell (a := ⟨w.heap.size + 1, 1, none⟩) (by show w.heap.size ≤ w.heap.size + 1; omega) (.int .i64 code)).setCell (a := ⟨w.heap.size + 1, 2, none⟩) (by show w.heap.size ≤ w.heap.size + 1; omega) (.int .u32 rest)).setCell (a := ⟨w.heap.size + 1, 3, none⟩) (by show w.heap.size ≤ w.heap.size + 1; omega) (.slice (some ⟨g, 0, none⟩) l cap)
          have hBZ := bts_far (bts_far (bts_far (bts_far (bts_far HSG.out.b (i := 3) (.slice (some ⟨g, 0, none⟩) l cap) hgm) (i := 0) (.int .i64 kind) hgr) (i := 1) (.int .i64 code) hgr) (i := 2) (.int .u32 rest) hgr) (i := 3) (.slice (some ⟨g, 0, none⟩) l cap) hgr
          have HBZ := Lib.hid hBZ
          have HJZ := Lib.hid hJZ
          clear hBZ hJZ m01 m11 m21 m31 m32 r01 r02 r11 r12 r21 r22 r31 r32
          generalize (((((V9).setCell ⟨w.heap.size, 3, none⟩ (.slice (some ⟨g, 0, none⟩) l cap)).setCell ⟨w.heap.size + 1, 0, none⟩ (.int .i64 kind)).setCell ⟨w.heap.size + 1, 1, none⟩ (.int .i64 code)).setCell ⟨w.heap.size + 1, 2, none⟩ (.int .u32 rest)).setCell ⟨w.heap.size + 1, 3, none⟩ (.slice (some ⟨g, 0, none⟩) l cap) = WZ at wz0 wz1 wz2 wz3 HBZ HJZ ⊢
          refine bodyPost_ret (by simp [results, Try.results14, go_sem, wz0, wz1, wz2, wz3]; try rfl) rfl ?_
          exact ⟨HJZ.out, .inr ⟨HE.out, some ⟨g, 0, none⟩, cap, HBZ.out, rfl⟩⟩
        · have hz1 : (c3 == 0) = false := by simpa using hz
          have HZ0 := Lib.hid hz
          clear hz
          go_upto_region 39 with (first | (go_at_call 34; (with_reducible refine (rpair_k (HS8.out.b.on (by (first | ((repeat (first | with_reducible exact Junk.refl _ | with_reducible exact Junk.app _ _ _ _ _ | with_reducible apply Junk.alloc | with_reducible apply Junk.junk | with_reducible apply Junk.drew | with_reducible apply Junk.drewN)); done) | ((try simp only [World.junk_junk, Array.append_assoc]); (repeat (first | with_reducible exact Junk.refl _ | with_reducible exact Junk.app _ _ _ _ _ | with_reducible exact Junk.app2 _ _ _ _ _ _ | with_reducible exact Junk.app3 _ _ _ _ _ _ _ | with_reducible exact Junk.app4 _ _ _ _ _ _ _ _ | with_reducible exact Junk.app5 _ _ _ _ _ _ _ _ _ | with_reducible apply Junk.alloc | with_reducible apply Junk.junk | with_reducible apply Junk.drew | with_reducible apply Junk.drewN)))))) (Z) _ c3 HCF.out (by omega) (by omega)).mono ?_); rintro e w' ⟨rfl, ⟨osE, dE, rfl⟩⟩))
          have HS9 := Lib.hid (HS8.out.on HK1.out (V' := V8.junk osE dE) ⟨_, _, rfl⟩)
          generalize V8.junk osE dE = V9 at HS9 ⊢
          obtain ⟨m00, m01, _⟩ := HS9.out.f (w.heap.size, 0, .int .i64 kind) (by simp)
          obtain ⟨_, m11, _⟩ := HS9.out.f (w.heap.size, 1, .int .i64 code) (by simp)
          obtain ⟨_, m21, _⟩ := HS9.out.f (w.heap.size, 2, .int .u32 rest) (by simp)
          obtain ⟨_, m31, m32⟩ := HS9.out.f (w.heap.size, 3, .slice (some ad) l c) (by simp)
          obtain ⟨r00, r01, r02⟩ := HS9.out.f (w.heap.size + 1, 0, .int .i64 0) (by simp)
          obtain ⟨_, r11, r12⟩ := HS9.out.f (w.heap.size + 1, 1, .int .i64 0) (by simp)
          obtain ⟨_, r21, r22⟩ := HS9.out.f (w.heap.size + 1, 2, .int .u32 0) (by simp)
          obtain ⟨_, r31, r32⟩ := HS9.out.f (w.heap.size + 1, 3, .slice none 0 0) (by simp)
          repeat (first | go_values | go_skip | go_guarded | go_step)
          have HSF := Lib.hid HS9.out
          have HBE := Lib.hid (fun i (hi : i < l) => show (w2 (w2 (w2 (w2 (w2 (w2 (w2 (w2 xs Z c1) a4 port) 10 m1) Z c2) 12 (addr / 65536)) 10 m2) Z c3) 14 (addr % 65536)) i = tnB xs l 12 0 addr port i from by
            rw [side_eq3 xs Z a4 12 port (addr / 65536) (addr % 65536) c1 c2 c3 m1 m2 (by omega) (by omega) (by omega) hd i]
            unfold tnB
            rw [HTN.out, HSS.out, HT4.out, HA4.out, HCC.out]
            unfold fullI tn1
            rw [HMM.out, if_neg HZ0.out])
          have HSG := Lib.hid (HSF.out.congr HBE.out)
          obtain ⟨m00, m01, _⟩ := HSG.out.f (w.heap.size, 0, .int .i64 kind) (by simp)
          obtain ⟨_, m11, _⟩ := HSG.out.f (w.heap.size, 1, .int .i64 code) (by simp)
          obtain ⟨_, m21, _⟩ := HSG.out.f (w.heap.size, 2, .int .u32 rest) (by simp)
          obtain ⟨_, m31, m32⟩ := HSG.out.f (w.heap.size, 3, .slice (some ad) l c) (by simp)
          obtain ⟨r00, r01, r02⟩ := HSG.out.f (w.heap.size + 1, 0, .int .i64 0) (by simp)
          obtain ⟨_, r11, r12⟩ := HSG.out.f (w.heap.size + 1, 1, .int .i64 0) (by simp)
          obtain ⟨_, r21, r22⟩ := HSG.out.f (w.heap.size + 1, 2, .int .u32 0) (by simp)
          obtain ⟨_, r31, r32⟩ := HSG.out.f (w.heap.size + 1, 3, .slice none 0 0) (by simp)
          have hgm : w.heap.size ≠ g := by omega
          have hgr : w.heap.size + 1 ≠ g := by omega
          obtain ⟨wz0, wz1, wz2, wz3⟩ := set4_cells (V := (V9).setCell ⟨w.heap.size, 3, none⟩ (.slice (some ⟨g, 0, none⟩) l cap)) (b := w.heap.size + 1) (v0 := .int .i64 kind) (v1 := .int .i64 code) (v2 := .int .u32 rest) (v3 := (.slice (some ⟨g, 0, none⟩) l cap)) (cell_far _ r01 (by omega)) (cell_far _ r11 (by omega)) (cell_far _ r21 (by omega)) (cell_far _ r31 (by omega))
          have hJZ := ((((HSG.out.j.setCell (a := ⟨w.heap.size, 3, none⟩) (Nat.le_refl _) (.slice (some ⟨g, 0, none⟩) l cap)).setCell (a := ⟨w.heap.size + 1, 0, none⟩) (by show w.heap.size ≤ w.heap.size + 1; omega) (.int .i64 kind)).setCell (a := ⟨w.heap.size + 1, 1, none⟩) (by show w.heap.size ≤ w.heap.size + 1; omega) (.int .i64 code)).setCell (a := ⟨w.heap.size + 1, 2, none⟩) (by show w.heap.size ≤ w.heap.size + 1; omega) (.int .u32 rest)).setCell (a := ⟨w.heap.size + 1, 3, none⟩) (by show w.heap.size ≤ w.heap.size + 1; omega) (.slice (some ⟨g, 0, none⟩) l cap)
          have hBZ := bts_far (bts_far (bts_far (bts_far (bts_far HSG.out.b (i := 3) (.slice (some ⟨g, 0, none⟩) l cap) hgm) (i := 0) (.int .i64 kind) hgr) (i := 1) (.int .i64 code) hgr) (i := 2) (.int .u32 rest) hgr) (i := 3) (.slice (some ⟨g, 0, none⟩) l cap) hgr
          have HBZ := Lib.hid hBZ
          have HJZ := Lib.hid hJZ
          clear hBZ hJZ m01 m11 m21 m31 m32 r01 r02 r11 r12 r21 r22 r31 r32
          generalize (((((V9).setCell ⟨w.heap.size, 3, none⟩ (.slice (some ⟨g, 0, none⟩) l cap)).setCell ⟨w.heap.size + 1, 0, none⟩ (.int .i64 kind)).setCell ⟨w.heap.size + 1, 1, none⟩ (.int .i64 code)).setCell ⟨w.heap.size + 1, 2, none⟩ (.int .u32 rest)).setCell ⟨w.heap.size + 1, 3, none⟩ (.slice (some ⟨g, 0, none⟩) l cap) = WZ at wz0 wz1 wz2 wz3 HBZ HJZ ⊢
          refine bodyPost_ret (by simp [results, Try.results14, go_sem, wz0, wz1, wz2, wz3]; try rfl) rfl ?_
          exact ⟨HJZ.out, .inr ⟨HE.out, some ⟨g, 0, none⟩, cap, HBZ.out, rfl⟩⟩
end Go.Proofs.Ytnefphinmjeacaa
set_option linter.unusedVariables false
set_option maxRecDepth 100000
set_option linter.unusedSimpArgs false
namespace Go.Proofs.Ytnefphinmjeacaa
open Go.RowKit
set_option maxHeartbeats 8000000 in
theorem rside16_ok (kind code rest addr port : Int) (oa : Option Addr) (l c : Nat) (xs : Nat → Int) (w : World) (hl : l ≤ 100000000) (hB : Bts w oa l c xs) (haddr : 0 ≤ addr ∧ addr ≤ 4294967295) (h0 : nmErr kind xs l = 0) (hport : 0 ≤ port ∧ port ≤ 65535) :
    Calls Try.prog 14 #[.agg #[.int .i64 kind, .int .i64 code, .int .u32 rest, .slice oa l c], .int .i64 1, .int .u32 addr, .int .i64 port] w (TnM w kind code rest (tnErr kind xs l port) l (tnB xs l 16 2 addr port)) := by
  have HB := Lib.hid hB
  obtain ⟨t, ht⟩ : ∃ t, nmTup xs l = t := ⟨_, rfl⟩
  have HNM := Lib.hid (fun w1 (hb : Bts w1 oa l c xs) => show Calls Try.prog 12 #[.agg #[.int .i64 kind, .int .i64 code, .int .u32 rest, .slice oa l c]] w1 fun e w' => e = .returned (.tuple #[.agg #[.int .i64 t.proto, .int .u32 t.src, .int .i64 t.sport, .int .u32 t.dst, .int .i64 t.dport], .int .i64 0]) ∧ Junk w1 w' by rw [← ht]; exact (rnames_any kind code rest oa l c xs w1 hl hb).mono fun e w' hp => hp.ok h0)
  obtain ⟨hk, hW, hoff, hbl, hpr⟩ := nmErr_zero h0
  have HE := Lib.hid (show tnErr kind xs l port = 0 by unfold tnErr; rw [if_neg (by rw [h0]; decide), if_neg (by omega)])
  obtain ⟨hp0, hp1⟩ := hport
  have hp0' : ¬ port < 0 := by omega
  have hp1' : ¬ 65535 < port := by omega
  have hW20 := hW.l20
  obtain ⟨ad, rfl⟩ : ∃ ad, oa = some ad := by
    obtain ⟨b, off, he, _⟩ := hB.at_ 0 (by omega)
    exact ⟨_, he⟩
  have HX := Lib.hid hB.byte
  obtain ⟨S, hS⟩ : ∃ S, ipSize xs = S := ⟨_, rfl⟩
  obtain ⟨T, hT⟩ : ∃ T, ipTotal xs = T := ⟨_, rfl⟩
  obtain ⟨U, hU⟩ : ∃ U, min T l = U := ⟨_, rfl⟩
  have hblU : (aboutIp xs l).bl = U - S := by show min (ipTotal xs) l - ipSize xs = U - S; rw [hS, hT, hU]
  have hSl := hW.sl
  have hST := hW.st
  have hS20 := hW.s20
  have x0 := hB.byte 0 (by omega)
  have x2 := hB.byte 2 (by omega)
  have x3 := hB.byte 3 (by omega)
  have hS60 : ipSize xs ≤ 60 := by unfold ipSize; omega
  have e0 : xs 0 % 16 * 4 = (S : Int) := by rw [← hS]; unfold ipSize; omega
  have HTW := Lib.hid (show wd xs 2 = (T : Int) by show xs 2 * 256 + xs 3 = (T : Int); rw [← hT]; unfold ipTotal; omega)
  have hT64 : T ≤ 65535 := by rw [← hT]; unfold ipTotal; omega
  rw [hS] at hSl hST hS20 hS60
  rw [hT] at hST
  rw [hblU] at hbl
  have hUl : U ≤ l := by rw [← hU]; exact Nat.min_le_right _ _
  have hUT : (U = T ∧ ¬ (l : Int) < (T : Int)) ∨ (U = l ∧ (l : Int) < (T : Int)) := by omega
  have hSU : S + 8 ≤ U := by omega
  have hpt : t.proto = (aboutIp xs l).proto := by rw [← ht]; rfl
  have HPT := Lib.hid hpt
  have HSS := Lib.hid hS
  have HPR := Lib.hid hpr
  have HBLU := Lib.hid hblU
  have c0 : (0 : Int) < (l : Int) := by omega
  have c0' : 0 < l := by omega
  have x0r : Int.tmod (xs 0) 16 = xs 0 % 16 := Int.tmod_eq_emod_of_nonneg x0.1
  have x0a : IntKind.u8.wrap (xs 0 % 16) = xs 0 % 16 := wrapk_u8 _ (by omega) (by omega)
  have x0b : IntKind.i64.wrap (xs 0 % 16) = xs 0 % 16 := wrapk_i64 _ (by omega) (by omega)
  have x0c : IntKind.i64.wrap (S : Int) = (S : Int) := wrapk_i64 _ (by omega) (by omega)
  clear hB h0 ht hk hW hoff hpr hS hT hU hblU hpt
  go_enter Try.func14, Try.ntmps14
  go_upto_region 7 with (first | (go_at_call 12; (with_reducible refine (HNM.out _ (HB.out.on (by (first | ((repeat (first | with_reducible exact Junk.refl _ | with_reducible exact Junk.app _ _ _ _ _ | with_reducible apply Junk.alloc | with_reducible apply Junk.junk | with_reducible apply Junk.drew | with_reducible apply Junk.drewN)); done) | ((try simp only [World.junk_junk, Array.append_assoc]); (repeat (first | with_reducible exact Junk.refl _ | with_reducible exact Junk.app _ _ _ _ _ | with_reducible exact Junk.app2 _ _ _ _ _ _ | with_reducible exact Junk.app3 _ _ _ _ _ _ _ | with_reducible exact Junk.app4 _ _ _ _ _ _ _ _ | with_reducible exact Junk.app5 _ _ _ _ _ _ _ _ _ | with_reducible apply Junk.alloc | with_reducible apply Junk.junk | with_reducible apply Junk.drew | with_reducible apply Junk.drewN))))))).mono ?_); rintro e w' ⟨rfl, ⟨osN, dN, rfl⟩⟩) | (at_builtin; (refine ap_own rfl _ _ 23 rfl 5 (.int .u8 0) 1 1 (by kernel_rfl) rfl (by decide) Try.underlying23 ((Junk.refl _).alloc _) _ 0 0 [] rfl (own_made _ _ 1 0 _ _ (by simp) (Nat.le_refl _) (Nat.zero_le _) rfl) _ l c rfl ((List.range l).map fun i => .int .u8 (xs i)) (by simp) (HB.out.on (by (first | ((repeat (first | with_reducible exact Junk.refl _ | with_reducible exact Junk.app _ _ _ _ _ | with_reducible apply Junk.alloc | with_reducible apply Junk.junk | with_reducible apply Junk.drew | with_reducible apply Junk.drewN)); done) | ((try simp only [World.junk_junk, Array.append_assoc]); (repeat (first | with_reducible exact Junk.refl _ | with_reducible exact Junk.app _ _ _ _ _ | with_reducible exact Junk.app2 _ _ _ _ _ _ | with_reducible exact Junk.app3 _ _ _ _ _ _ _ | with_reducible exact Junk.app4 _ _ _ _ _ _ _ _ | with_reducible exact Junk.app5 _ _ _ _ _ _ _ _ _ | with_reducible apply Junk.alloc | with_reducible apply Junk.junk | with_reducible apply Junk.drew | with_reducible apply Junk.drewN)))))).at_.src (fun h => by cases h) (by simp [Value.oneCell']) (by simp only [maxLen]; omega) (by omega) ?_; intro oc cap osC dC hown _; rw [List.nil_append, Nat.zero_add] at hown; have HOWN := Lib.hid hown; clear hown)))
  obtain ⟨g, rfl, hgB, hgS, hcells⟩ := own_some HOWN.out (by omega)
  have hcap := HOWN.out.capLe
  have HCS : CsH [((w.heap.size + 1 + 1 + osN.size), 0, .int .i64 t.proto), (w.heap.size, 0, .int .i64 kind), (w.heap.size, 1, .int .i64 code), (w.heap.size, 2, .int .u32 rest), (w.heap.size, 3, .slice (some ad) l c), (w.heap.size + 1, 0, .int .i64 0), (w.heap.size + 1, 1, .int .i64 0), (w.heap.size + 1, 2, .int .u32 0), (w.heap.size + 1, 3, .slice none 0 0)] ((((((w.alloc (.cells #[.int .i64 kind, .int .i64 code, .int .u32 rest, .slice (some ad) l c] 25)).alloc (.cells #[.int .i64 0, .int .i64 0, .int .u32 0, .slice none 0 0] 25)).junk osN dN).alloc (.cells #[.int .i64 t.proto, .int .u32 t.src, .int .i64 t.sport, .int .u32 t.dst, .int .i64 t.dport] 28))).junk osC dC) := by
    repeat (refine CsH.cons.2 ⟨⟨(by simp; try omega), (by go_simp), (by go_simp)⟩, ?_⟩)
    exact CsH.nil _
  have hg1 : w.heap.size + 1 + 1 + osN.size + 1 ≤ g := by simp at hgB; omega
  have HS0 : St (CsH [((w.heap.size + 1 + 1 + osN.size), 0, .int .i64 t.proto), (w.heap.size, 0, .int .i64 kind), (w.heap.size, 1, .int .i64 code), (w.heap.size, 2, .int .u32 rest), (w.heap.size, 3, .slice (some ad) l c), (w.heap.size + 1, 0, .int .i64 0), (w.heap.size + 1, 1, .int .i64 0), (w.heap.size + 1, 2, .int .u32 0), (w.heap.size + 1, 3, .slice none 0 0)]) w ((((((w.alloc (.cells #[.int .i64 kind, .int .i64 code, .int .u32 rest, .slice (some ad) l c] 25)).alloc (.cells #[.int .i64 0, .int .i64 0, .int .u32 0, .slice none 0 0] 25)).junk osN dN).alloc (.cells #[.int .i64 t.proto, .int .u32 t.src, .int .i64 t.sport, .int .u32 t.dst, .int .i64 t.dport] 28))).junk osC dC) g l cap xs := ⟨by (first | ((repeat (first | with_reducible exact Junk.refl _ | with_reducible exact Junk.app _ _ _ _ _ | with_reducible apply Junk.alloc | with_reducible apply Junk.junk | with_reducible apply Junk.drew | with_reducible apply Junk.drewN)); done) | ((try simp only [World.junk_junk, Array.append_assoc]); (repeat (first | with_reducible exact Junk.refl _ | with_reducible exact Junk.app _ _ _ _ _ | with_reducible exact Junk.app2 _ _ _ _ _ _ | with_reducible exact Junk.app3 _ _ _ _ _ _ _ | with_reducible exact Junk.app4 _ _ _ _ _ _ _ _ | with_reducible exact Junk.app5 _ _ _ _ _ _ _ _ _ | with_reducible apply Junk.alloc | with_reducible apply Junk.junk | with_reducible apply Junk.drew | with_reducible apply Junk.drewN)))), by omega, hgS, own_bts HOWN.out HX.out, fun i hi => (hcells i (.int .u8 (xs i)) (by simp [hi])).2, HCS⟩
  have HN1 : ∀ q ∈ ([((w.heap.size + 1 + 1 + osN.size), 0, .int .i64 t.proto), (w.heap.size, 0, .int .i64 kind), (w.heap.size, 1, .int .i64 code), (w.heap.size, 2, .int .u32 rest), (w.heap.size, 3, .slice (some ad) l c), (w.heap.size + 1, 0, .int .i64 0), (w.heap.size + 1, 1, .int .i64 0), (w.heap.size + 1, 2, .int .u32 0), (w.heap.size + 1, 3, .slice none 0 0)] : List (Nat × Nat × Value)), q.1 ≠ g := by simp; omega
  have HK1 := Lib.hid (CsH.keeps HN1)
  have HN1 := Lib.hid HN1
  clear hcells HOWN HCS hgB hgS
  generalize (((((w.alloc (.cells #[.int .i64 kind, .int .i64 code, .int .u32 rest, .slice (some ad) l c] 25)).alloc (.cells #[.int .i64 0, .int .i64 0, .int .u32 0, .slice none 0 0] 25)).junk osN dN).alloc (.cells #[.int .i64 t.proto, .int .u32 t.src, .int .i64 t.sport, .int .u32 t.dst, .int .i64 t.dport] 28))).junk osC dC = V at HS0 ⊢
  have HS0' := Lib.hid HS0
  have hx0 := HS0.cell 0 (by omega)
  have hgs0 := HS0.gs
  obtain ⟨kq1, kq2, _⟩ := HS0.f ((w.heap.size + 1 + 1 + osN.size), 0, .int .i64 t.proto) (by simp)
  clear HS0
  go_upto_if 52 with (first | (go_at_call 34; (with_reducible refine (rpair_k (HS0'.out.b.on (by (first | ((repeat (first | with_reducible exact Junk.refl _ | with_reducible exact Junk.app _ _ _ _ _ | with_reducible apply Junk.alloc | with_reducible apply Junk.junk | with_reducible apply Junk.drew | with_reducible apply Junk.drewN)); done) | ((try simp only [World.junk_junk, Array.append_assoc]); (repeat (first | with_reducible exact Junk.refl _ | with_reducible exact Junk.app _ _ _ _ _ | with_reducible exact Junk.app2 _ _ _ _ _ _ | with_reducible exact Junk.app3 _ _ _ _ _ _ _ | with_reducible exact Junk.app4 _ _ _ _ _ _ _ _ | with_reducible exact Junk.app5 _ _ _ _ _ _ _ _ _ | with_reducible apply Junk.alloc | with_reducible apply Junk.junk | with_reducible apply Junk.drew | with_reducible apply Junk.drewN)))))) 2 _ T HTW.out (by omega) (by omega)).mono ?_); rintro e w' ⟨rfl, ⟨os8, d8, rfl⟩⟩))
  go_cut [14] (fun v wx => v = .int .i64 (U : Int) ∧ wx = V.junk os8 d8)
  case first =>
    rcases hUT with ⟨rfl, hc⟩ | ⟨rfl, hc⟩
    all_goals
      go_wp2
      go_meet
      exact ⟨rfl, rfl⟩
  case rest =>
    obtain ⟨rfl, rfl⟩ := hcut
    have HSA : St (CsH [((w.heap.size + 1 + 1 + osN.size), 0, .int .i64 t.proto), (w.heap.size, 0, .int .i64 kind), (w.heap.size, 1, .int .i64 code), (w.heap.size, 2, .int .u32 rest), (w.heap.size, 3, .slice (some ad) l c), (w.heap.size + 1, 0, .int .i64 0), (w.heap.size + 1, 1, .int .i64 0), (w.heap.size + 1, 2, .int .u32 0), (w.heap.size + 1, 3, .slice none 0 0)]) w (V.junk os8 d8) g l cap xs := HS0'.out.on HK1.out ⟨_, _, rfl⟩
    clear hx0 hgs0 kq1 kq2 HS0' hUT
    generalize V.junk os8 d8 = VA at HSA ⊢
    have HS0' := Lib.hid HSA
    obtain ⟨kq1, kq2, _⟩ := HSA.f ((w.heap.size + 1 + 1 + osN.size), 0, .int .i64 t.proto) (by simp)
    clear HSA
    obtain ⟨Bd, hBd⟩ : ∃ B, U - S = B := ⟨_, rfl⟩
    have HBd := Lib.hid hBd
    have hUS : (U : Int) - (S : Int) = (Bd : Int) := by omega
    clear hBd
    go_upto_block 0 with (fail)
    obtain ⟨T4, hT4⟩ : ∃ n, tnAt (aboutIp xs l) 2 = n := ⟨_, rfl⟩
    have HT4 := Lib.hid hT4
    have hT41 : t.proto = 1 → T4 = 4 := fun h => by rw [← hT4]; unfold tnAt; rw [if_pos (by rw [← HPT.out]; exact h)]
    have hT40 : t.proto ≠ 1 → T4 = 2 := fun h => by rw [← hT4]; unfold tnAt; rw [if_neg (by rw [← HPT.out]; exact h)]
    clear hT4
    have w2s := wrapk_i64 ((S : Int) + 2) (by omega) (by omega)
    have w4s := wrapk_i64 ((S : Int) + 4) (by omega) (by omega)
    have w6s := wrapk_i64 ((S : Int) + 6) (by omega) (by omega)
    have w16s := wrapk_i64 ((S : Int) + 16) (by omega) (by omega)
    obtain ⟨WU, hWU⟩ : ∃ v, wd xs (S + 6) = v := ⟨_, rfl⟩
    have HWU := Lib.hid hWU
    have htn1 : wd (tn1 xs 16 addr) (S + 6) = WU := by unfold tn1; rw [wd_w2_ne (by omega), hWU]
    have HTN1 := Lib.hid htn1
    clear hWU htn1
    go_cut [16, 17] (fun a s wx => ∃ (VB : World) (aT sm : Int), VB = wx ∧ a = .int .i64 aT ∧ s = .int .i64 sm ∧ aT = ((S + T4 : Nat) : Int) ∧ Hid (St (CsH [((w.heap.size + 1 + 1 + osN.size), 0, .int .i64 t.proto), (w.heap.size, 0, .int .i64 kind), (w.heap.size, 1, .int .i64 code), (w.heap.size, 2, .int .u32 rest), (w.heap.size, 3, .slice (some ad) l c), (w.heap.size + 1, 0, .int .i64 0), (w.heap.size + 1, 1, .int .i64 0), (w.heap.size + 1, 2, .int .u32 0), (w.heap.size + 1, 3, .slice none 0 0)]) w VB g l cap xs) ∧
      Hid ((sm = -1 ∧ tn2 xs l 16 2 addr port = tn1 xs 16 addr) ∨ (∃ Z : Nat, sm = (Z : Int) ∧ Z + 2 ≤ l ∧ S ≤ Z ∧ (Z + 1 < S + T4 ∨ S + T4 + 1 < Z) ∧
        ((t.proto = 1 ∧ tn2 xs l 16 2 addr port = w2 (tn1 xs 16 addr) Z (fullI (mendW (wd (tn1 xs 16 addr) Z) (tnAll xs l 16 2 addr port) 1))) ∨
         (t.proto ≠ 1 ∧ tn2 xs l 16 2 addr port = w2 (tn1 xs 16 addr) Z (fullI (mendW (wd (tn1 xs 16 addr) Z) (tnAll xs l 16 2 addr port) 3)))))))
    case first =>
      rcases HPR.out with h6 | h17 | ⟨h1, _⟩
      · rw [← HPT.out] at h6
        have q1 : (t.proto == 1) = false := by rw [h6]; rfl
        have q17 : (t.proto == 17) = false := by rw [h6]; rfl
        have g4 := hT40 (by rw [h6]; decide)
        have H6 := Lib.hid h6
        clear h6 hT41 hT40
        by_cases hz : 18 ≤ Bd
        · have hz1 : (18 : Int) ≤ (Bd : Int) := by omega
          have HZ := Lib.hid hz
          clear hz
          go_wp2
          go_meet
          refine ⟨_, _, _, rfl, rfl, rfl, by omega, Lib.hid (HS0'.out.on HK1.out (by (first | ((repeat (first | with_reducible exact Junk.refl _ | with_reducible exact Junk.app _ _ _ _ _ | with_reducible apply Junk.alloc | with_reducible apply Junk.junk | with_reducible apply Junk.drew | with_reducible apply Junk.drewN)); done) | ((try simp only [World.junk_junk, Array.append_assoc]); (repeat (first | with_reducible exact Junk.refl _ | with_reducible exact Junk.app _ _ _ _ _ | with_reducible exact Junk.app2 _ _ _ _ _ _ | with_reducible exact Junk.app3 _ _ _ _ _ _ _ | with_reducible exact Junk.app4 _ _ _ _ _ _ _ _ | with_reducible exact Junk.app5 _ _ _ _ _ _ _ _ _ | with_reducible apply Junk.alloc | with_reducible apply Junk.junk | with_reducible apply Junk.drew | with_reducible apply Junk.drewN)))))), Lib.hid (.inr ⟨S + 16, by omega, by have := HZ.out; have := HBd.out; omega, by omega, by omega, .inr ⟨by rw [H6.out]; decide, ?_⟩⟩)⟩
          unfold tn2
          rw [if_neg (by rw [← HPT.out, H6.out]; decide), if_neg (by rw [← HPT.out, H6.out]; decide), if_pos (by rw [HBLU.out, HBd.out]; exact HZ.out), HSS.out]
        · have hz1 : ¬ (18 : Int) ≤ (Bd : Int) := by omega
          have HZ := Lib.hid hz
          clear hz
          go_wp2
          go_meet
          refine ⟨_, _, _, rfl, rfl, rfl, by omega, Lib.hid (HS0'.out.on HK1.out (by (first | ((repeat (first | with_reducible exact Junk.refl _ | with_reducible exact Junk.app _ _ _ _ _ | with_reducible apply Junk.alloc | with_reducible apply Junk.junk | with_reducible apply Junk.drew | with_reducible apply Junk.drewN)); done) | ((try simp only [World.junk_junk, Array.append_assoc]); (repeat (first | with_reducible exact Junk.refl _ | with_reducible exact Junk.app _ _ _ _ _ | with_reducible exact Junk.app2 _ _ _ _ _ _ | with_reducible exact Junk.app3 _ _ _ _ _ _ _ | with_reducible exact Junk.app4 _ _ _ _ _ _ _ _ | with_reducible exact Junk.app5 _ _ _ _ _ _ _ _ _ | with_reducible apply Junk.alloc | with_reducible apply Junk.junk | with_reducible apply Junk.drew | with_reducible apply Junk.drewN)))))), Lib.hid (.inl ⟨rfl, ?_⟩)⟩
          unfold tn2
          rw [if_neg (by rw [← HPT.out, H6.out]; decide), if_neg (by rw [← HPT.out, H6.out]; decide), if_neg (by rw [HBLU.out, HBd.out]; exact HZ.out)]
      · rw [← HPT.out] at h17
        have q1 : (t.proto == 1) = false := by rw [h17]; rfl
        have q17 : (t.proto == 17) = true := by rw [h17]; rfl
        have g4 := hT40 (by rw [h17]; decide)
        have H17 := Lib.hid h17
        clear h17 hT41 hT40
        by_cases hz : WU = 0
        · have hz1 : (WU != 0) = false := by simpa using hz
          have HZ := Lib.hid hz
          clear hz
          go_wp2_with (first | (go_at_call 34; (with_reducible refine (rpair_k (HS0'.out.b.on (by (first | ((repeat (first | with_reducible exact Junk.refl _ | with_reducible exact Junk.app _ _ _ _ _ | with_reducible apply Junk.alloc | with_reducible apply Junk.junk | with_reducible apply Junk.drew | with_reducible apply Junk.drewN)); done) | ((try simp only [World.junk_junk, Array.append_assoc]); (repeat (first | with_reducible exact Junk.refl _ | with_reducible exact Junk.app _ _ _ _ _ | with_reducible exact Junk.app2 _ _ _ _ _ _ | with_reducible exact Junk.app3 _ _ _ _ _ _ _ | with_reducible exact Junk.app4 _ _ _ _ _ _ _ _ | with_reducible exact Junk.app5 _ _ _ _ _ _ _ _ _ | with_reducible apply Junk.alloc | with_reducible apply Junk.junk | with_reducible apply Junk.drew | with_reducible apply Junk.drewN)))))) (S + 6) _ WU HWU.out (by omega) (by omega)).mono ?_); rintro e w' ⟨rfl, ⟨osU, dU, rfl⟩⟩))
          go_meet
          refine ⟨_, _, _, rfl, rfl, rfl, by omega, Lib.hid (HS0'.out.on HK1.out (by (first | ((repeat (first | with_reducible exact Junk.refl _ | with_reducible exact Junk.app _ _ _ _ _ | with_reducible apply Junk.alloc | with_reducible apply Junk.junk | with_reducible apply Junk.drew | with_reducible apply Junk.drewN)); done) | ((try simp only [World.junk_junk, Array.append_assoc]); (repeat (first | with_reducible exact Junk.refl _ | with_reducible exact Junk.app _ _ _ _ _ | with_reducible exact Junk.app2 _ _ _ _ _ _ | with_reducible exact Junk.app3 _ _ _ _ _ _ _ | with_reducible exact Junk.app4 _ _ _ _ _ _ _ _ | with_reducible exact Junk.app5 _ _ _ _ _ _ _ _ _ | with_reducible apply Junk.alloc | with_reducible apply Junk.junk | with_reducible apply Junk.drew | with_reducible apply Junk.drewN)))))), Lib.hid (.inl ⟨rfl, ?_⟩)⟩
          unfold tn2
          rw [if_neg (by rw [← HPT.out, H17.out]; decide), if_pos (by rw [← HPT.out, H17.out]), if_pos (by rw [HSS.out, HTN1.out]; exact HZ.out)]
        · have hz1 : (WU != 0) = true := by simpa using hz
          have HZ := Lib.hid hz
          clear hz
          go_wp2_with (first | (go_at_call 34; (with_reducible refine (rpair_k (HS0'.out.b.on (by (first | ((repeat (first | with_reducible exact Junk.refl _ | with_reducible exact Junk.app _ _ _ _ _ | with_reducible apply Junk.alloc | with_reducible apply Junk.junk | with_reducible apply Junk.drew | with_reducible apply Junk.drewN)); done) | ((try simp only [World.junk_junk, Array.append_assoc]); (repeat (first | with_reducible exact Junk.refl _ | with_reducible exact Junk.app _ _ _ _ _ | with_reducible exact Junk.app2 _ _ _ _ _ _ | with_reducible exact Junk.app3 _ _ _ _ _ _ _ | with_reducible exact Junk.app4 _ _ _ _ _ _ _ _ | with_reducible exact Junk.app5 _ _ _ _ _ _ _ _ _ | with_reducible apply Junk.alloc | with_reducible apply Junk.junk | with_reducible apply Junk.drew | with_reducible apply Junk.drewN)))))) (S + 6) _ WU HWU.out (by omega) (by omega)).mono ?_); rintro e w' ⟨rfl, ⟨osU, dU, rfl⟩⟩))
          go_meet
          refine ⟨_, _, _, rfl, rfl, rfl, by omega, Lib.hid (HS0'.out.on HK1.out (by (first | ((repeat (first | with_reducible exact Junk.refl _ | with_reducible exact Junk.app _ _ _ _ _ | with_reducible apply Junk.alloc | with_reducible apply Junk.junk | with_reducible apply Junk.drew | with_reducible apply Junk.drewN)); done) | ((try simp only [World.junk_junk, Array.append_assoc]); (repeat (first | with_reducible exact Junk.refl _ | with_reducible exact Junk.app _ _ _ _ _ | with_reducible exact Junk.app2 _ _ _ _ _ _ | with_reducible exact Junk.app3 _ _ _ _ _ _ _ | with_reducible exact Junk.app4 _ _ _ _ _ _ _ _ | with_reducible exact Junk.app5 _ _ _ _ _ _ _ _ _ | with_reducible apply Junk.alloc | with_reducible apply Junk.junk | with_reducible apply Junk.drew | with_reducible apply Junk.drewN)))))), Lib.hid (.inr ⟨S + 6, by omega, by omega, by omega, by omega, .inr ⟨by rw [H17.out]; decide, ?_⟩⟩)⟩
          unfold tn2
          rw [if_neg (by rw [← HPT.out, H17.out]; decide), if_pos (by rw [← HPT.out, H17.out]), if_neg (by rw [HSS.out, HTN1.out]; exact HZ.out), HSS.out]
      · rw [← HPT.out] at h1
        have q1 : (t.proto == 1) = true := by rw [h1]; rfl
        have g4 := hT41 h1
        have H1 := Lib.hid h1
        clear h1 hT41 hT40
        go_wp2
        go_meet
        refine ⟨_, _, _, rfl, rfl, rfl, by omega, Lib.hid (HS0'.out.on HK1.out (by (first | ((repeat (first | with_reducible exact Junk.refl _ | with_reducible exact Junk.app _ _ _ _ _ | with_reducible apply Junk.alloc | with_reducible apply Junk.junk | with_reducible apply Junk.drew | with_reducible apply Junk.drewN)); done) | ((try simp only [World.junk_junk, Array.append_assoc]); (repeat (first | with_reducible exact Junk.refl _ | with_reducible exact Junk.app _ _ _ _ _ | with_reducible exact Junk.app2 _ _ _ _ _ _ | with_reducible exact Junk.app3 _ _ _ _ _ _ _ | with_reducible exact Junk.app4 _ _ _ _ _ _ _ _ | with_reducible exact Junk.app5 _ _ _ _ _ _ _ _ _ | with_reducible apply Junk.alloc | with_reducible apply Junk.junk | with_reducible apply Junk.drew | with_reducible apply Junk.drewN)))))), Lib.hid (.inr ⟨S + 2, by omega, by omega, by omega, by omega, .inl ⟨H1.out, ?_⟩⟩)⟩
        unfold tn2
        rw [if_pos (by rw [← HPT.out, H1.out]), HSS.out]
    case rest =>
      obtain ⟨VB, aT, sm, rfl, rfl, rfl, haT, HSB, HCL⟩ := hcut
      have hT4b : T4 ≤ 4 := by
        by_cases h : t.proto = 1
        · have := hT41 h; omega
        · have := hT40 h; omega
      obtain ⟨a4, ha4⟩ : ∃ a, S + T4 = a := ⟨_, rfl⟩
      have HA4 := Lib.hid ha4
      rw [ha4] at haT
      subst haT
      have ha4l : a4 + 2 ≤ l := by omega
      have ha4S : S ≤ a4 := by omega
      obtain ⟨PW, hPW⟩ : ∃ v, wd xs a4 = v := ⟨_, rfl⟩
      obtain ⟨WA, hWA⟩ : ∃ v, wd xs 16 = v := ⟨_, rfl⟩
      obtain ⟨WB, hWB⟩ : ∃ v, wd xs 18 = v := ⟨_, rfl⟩
      obtain ⟨W10, hW10⟩ : ∃ v, wd xs 10 = v := ⟨_, rfl⟩
      have bPW : 0 ≤ PW ∧ PW ≤ 65535 := by rw [← hPW]; exact wd_bd (HX.out _ (by omega)) (HX.out _ (by omega))
      have bWA : 0 ≤ WA ∧ WA ≤ 65535 := by rw [← hWA]; exact wd_bd (HX.out _ (by omega)) (HX.out _ (by omega))
      have bWB : 0 ≤ WB ∧ WB ≤ 65535 := by rw [← hWB]; exact wd_bd (HX.out _ (by omega)) (HX.out _ (by omega))
      have bhi : 0 ≤ addr / 65536 ∧ addr / 65536 ≤ 65535 := by omega
      have blo : 0 ≤ addr % 65536 ∧ addr % 65536 ≤ 65535 := by omega
      have bpo : 0 ≤ port ∧ port ≤ 65535 := ⟨hp0, hp1⟩
      have td1 : Int.tdiv addr 65536 = addr / 65536 := Int.tdiv_eq_ediv_of_nonneg haddr.1
      have td2 : Int.tmod addr 65536 = addr % 65536 := Int.tmod_eq_emod_of_nonneg haddr.1
      have wu1 := wrapk_u32 (addr / 65536) (by omega) (by omega)
      have wu2 := wrapk_u32 (addr % 65536) (by omega) (by omega)
      have wu3 := wrapk_i64 (addr / 65536) (by omega) (by omega)
      have wu4 := wrapk_i64 (addr % 65536) (by omega) (by omega)
      have HPW := Lib.hid hPW
      have HWA := Lib.hid hWA
      have HWB := Lib.hid hWB
      have HW10 := Lib.hid hW10
      clear hPW hWA hWB hW10 hT41 hT40 ha4 hUS w2s w4s w6s w16s
      obtain ⟨kq1, kq2, _⟩ := HSB.out.f ((w.heap.size + 1 + 1 + osN.size), 0, .int .i64 t.proto) (by simp)
      rcases HCL.out with ⟨hsm, htn⟩ | ⟨Z, hsm, hZl, hSZ, hd, ⟨hpr1, htn⟩ | ⟨hpr1, htn⟩⟩
      · subst hsm
        have HTN := Lib.hid htn
        have HWA2 := Lib.hid (show wd (w2 xs a4 port) 16 = WA by rw [wd_w2_ne (by omega)]; exact HWA.out)
        obtain ⟨m1, hm1⟩ : ∃ v, mendI W10 WA (addr / 65536) = v := ⟨_, rfl⟩
        have HM1 := Lib.hid (show mendI (wd (w2 xs a4 port) 10) WA (addr / 65536) = m1 by rw [wd_w2_ne (by omega), HW10.out]; exact hm1)
        have HWB2 := Lib.hid (show wd (w2 (w2 (w2 xs a4 port) 10 m1) 16 (addr / 65536)) 18 = WB by rw [wd_w2_ne (by omega), wd_w2_ne (by omega), wd_w2_ne (by omega)]; exact HWB.out)
        obtain ⟨m2, hm2⟩ : ∃ v, mendI m1 WB (addr % 65536) = v := ⟨_, rfl⟩
        have HM2 := Lib.hid (show mendI (wd (w2 (w2 (w2 xs a4 port) 10 m1) 16 (addr / 65536)) 10) WB (addr % 65536) = m2 by rw [wd_w2_ne (by omega), wd_w2]; exact hm2)
        have HMM := Lib.hid (show mendW (wd xs 10) (tnNm xs 16 addr) 2 = m2 by show mendI (mendI (wd xs 10) (wd xs 16) (addr / 65536)) (wd xs (16 + 2)) (addr % 65536) = m2; rw [HW10.out, HWA.out, HWB.out, hm1]; exact hm2)
        clear hm1 hm2 htn
        go_upto_region 26 with (first | (go_at_call 37; (with_reducible refine (rset_k (HSB.out.on HK1.out (by (first | ((repeat (first | with_reducible exact Junk.refl _ | with_reducible exact Junk.app _ _ _ _ _ | with_reducible apply Junk.alloc | with_reducible apply Junk.junk | with_reducible apply Junk.drew | with_reducible apply Junk.drewN)); done) | ((try simp only [World.junk_junk, Array.append_assoc]); (repeat (first | with_reducible exact Junk.refl _ | with_reducible exact Junk.app _ _ _ _ _ | with_reducible exact Junk.app2 _ _ _ _ _ _ | with_reducible exact Junk.app3 _ _ _ _ _ _ _ | with_reducible exact Junk.app4 _ _ _ _ _ _ _ _ | with_reducible exact Junk.app5 _ _ _ _ _ _ _ _ _ | with_reducible apply Junk.alloc | with_reducible apply Junk.junk | with_reducible apply Junk.drew | with_reducible apply Junk.drewN)))))) HK1.out (a4) _ port (by omega) (by omega) hl bpo).mono ?_); rintro e V2 ⟨rfl, hS⟩; obtain ⟨kq1, kq2, _⟩ := hS.f ((w.heap.size + 1 + 1 + osN.size), 0, .int .i64 t.proto) (by simp); have HS2 := Lib.hid hS; clear hS))
        go_wp2
        refine wp_loop_rounds 3 ?_
        rw [rounds_succ]
        go_wp2_with (first | (go_at_call 34; (with_reducible refine (rpair_k (HS2.out.b.on (by (first | ((repeat (first | with_reducible exact Junk.refl _ | with_reducible exact Junk.app _ _ _ _ _ | with_reducible apply Junk.alloc | with_reducible apply Junk.junk | with_reducible apply Junk.drew | with_reducible apply Junk.drewN)); done) | ((try simp only [World.junk_junk, Array.append_assoc]); (repeat (first | with_reducible exact Junk.refl _ | with_reducible exact Junk.app _ _ _ _ _ | with_reducible exact Junk.app2 _ _ _ _ _ _ | with_reducible exact Junk.app3 _ _ _ _ _ _ _ | with_reducible exact Junk.app4 _ _ _ _ _ _ _ _ | with_reducible exact Junk.app5 _ _ _ _ _ _ _ _ _ | with_reducible apply Junk.alloc | with_reducible apply Junk.junk | with_reducible apply Junk.drew | with_reducible apply Junk.drewN)))))) (16) _ WA HWA2.out (by omega) (by omega)).mono ?_); rintro e w' ⟨rfl, ⟨osA, dA, rfl⟩⟩) | (go_at_call 36; (with_reducible refine (rmend_k (HS2.out.on HK1.out (by (first | ((repeat (first | with_reducible exact Junk.refl _ | with_reducible exact Junk.app _ _ _ _ _ | with_reducible apply Junk.alloc | with_reducible apply Junk.junk | with_reducible apply Junk.drew | with_reducible apply Junk.drewN)); done) | ((try simp only [World.junk_junk, Array.append_assoc]); (repeat (first | with_reducible exact Junk.refl _ | with_reducible exact Junk.app _ _ _ _ _ | with_reducible exact Junk.app2 _ _ _ _ _ _ | with_reducible exact Junk.app3 _ _ _ _ _ _ _ | with_reducible exact Junk.app4 _ _ _ _ _ _ _ _ | with_reducible exact Junk.app5 _ _ _ _ _ _ _ _ _ | with_reducible apply Junk.alloc | with_reducible apply Junk.junk | with_reducible apply Junk.drew | with_reducible apply Junk.drewN)))))) HK1.out (10) _ WA (addr / 65536) m1 HM1.out (by omega) (by omega) hl bWA bhi).mono ?_); rintro e V3 ⟨rfl, hS⟩; obtain ⟨kq1, kq2, _⟩ := hS.f ((w.heap.size + 1 + 1 + osN.size), 0, .int .i64 t.proto) (by simp); have HS3 := Lib.hid hS; clear hS) | (go_at_call 37; (with_reducible refine (rset_k (HS3.out.on HK1.out (by (first | ((repeat (first | with_reducible exact Junk.refl _ | with_reducible exact Junk.app _ _ _ _ _ | with_reducible apply Junk.alloc | with_reducible apply Junk.junk | with_reducible apply Junk.drew | with_reducible apply Junk.drewN)); done) | ((try simp only [World.junk_junk, Array.append_assoc]); (repeat (first | with_reducible exact Junk.refl _ | with_reducible exact Junk.app _ _ _ _ _ | with_reducible exact Junk.app2 _ _ _ _ _ _ | with_reducible exact Junk.app3 _ _ _ _ _ _ _ | with_reducible exact Junk.app4 _ _ _ _ _ _ _ _ | with_reducible exact Junk.app5 _ _ _ _ _ _ _ _ _ | with_reducible apply Junk.alloc | with_reducible apply Junk.junk | with_reducible apply Junk.drew | with_reducible apply Junk.drewN)))))) HK1.out (16) _ (addr / 65536) (by omega) (by omega) hl bhi).mono ?_); rintro e V5 ⟨rfl, hS⟩; obtain ⟨kq1, kq2, _⟩ := hS.f ((w.heap.size + 1 + 1 + osN.size), 0, .int .i64 t.proto) (by simp); have HS5 := Lib.hid hS; clear hS))
        rw [rounds_succ]
        go_wp2_with (first | (go_at_call 34; (with_reducible refine (rpair_k (HS5.out.b.on (by (first | ((repeat (first | with_reducible exact Junk.refl _ | with_reducible exact Junk.app _ _ _ _ _ | with_reducible apply Junk.alloc | with_reducible apply Junk.junk | with_reducible apply Junk.drew | with_reducible apply Junk.drewN)); done) | ((try simp only [World.junk_junk, Array.append_assoc]); (repeat (first | with_reducible exact Junk.refl _ | with_reducible exact Junk.app _ _ _ _ _ | with_reducible exact Junk.app2 _ _ _ _ _ _ | with_reducible exact Junk.app3 _ _ _ _ _ _ _ | with_reducible exact Junk.app4 _ _ _ _ _ _ _ _ | with_reducible exact Junk.app5 _ _ _ _ _ _ _ _ _ | with_reducible apply Junk.alloc | with_reducible apply Junk.junk | with_reducible apply Junk.drew | with_reducible apply Junk.drewN)))))) (18) _ WB HWB2.out (by omega) (by omega)).mono ?_); rintro e w' ⟨rfl, ⟨osB, dB, rfl⟩⟩) | (go_at_call 36; (with_reducible refine (rmend_k (HS5.out.on HK1.out (by (first | ((repeat (first | with_reducible exact Junk.refl _ | with_reducible exact Junk.app _ _ _ _ _ | with_reducible apply Junk.alloc | with_reducible apply Junk.junk | with_reducible apply Junk.drew | with_reducible apply Junk.drewN)); done) | ((try simp only [World.junk_junk, Array.append_assoc]); (repeat (first | with_reducible exact Junk.refl _ | with_reducible exact Junk.app _ _ _ _ _ | with_reducible exact Junk.app2 _ _ _ _ _ _ | with_reducible exact Junk.app3 _ _ _ _ _ _ _ | with_reducible exact Junk.app4 _ _ _ _ _ _ _ _ | with_reducible exact Junk.app5 _ _ _ _ _ _ _ _ _ | with_reducible apply Junk.alloc | with_reducible apply Junk.junk | with_reducible apply Junk.drew | with_reducible apply Junk.drewN)))))) HK1.out (10) _ WB (addr % 65536) m2 HM2.out (by omega) (by omega) hl bWB blo).mono ?_); rintro e V6 ⟨rfl, hS⟩; obtain ⟨kq1, kq2, _⟩ := hS.f ((w.heap.size + 1 + 1 + osN.size), 0, .int .i64 t.proto) (by simp); have HS6 := Lib.hid hS; clear hS) | (go_at_call 37; (with_reducible refine (rset_k (HS6.out.on HK1.out (by (first | ((repeat (first | with_reducible exact Junk.refl _ | with_reducible exact Junk.app _ _ _ _ _ | with_reducible apply Junk.alloc | with_reducible apply Junk.junk | with_reducible apply Junk.drew | with_reducible apply Junk.drewN)); done) | ((try simp only [World.junk_junk, Array.append_assoc]); (repeat (first | with_reducible exact Junk.refl _ | with_reducible exact Junk.app _ _ _ _ _ | with_reducible exact Junk.app2 _ _ _ _ _ _ | with_reducible exact Junk.app3 _ _ _ _ _ _ _ | with_reducible exact Junk.app4 _ _ _ _ _ _ _ _ | with_reducible exact Junk.app5 _ _ _ _ _ _ _ _ _ | with_reducible apply Junk.alloc | with_reducible apply Junk.junk | with_reducible apply Junk.drew | with_reducible apply Junk.drewN)))))) HK1.out (18) _ (addr % 65536) (by omega) (by omega) hl blo).mono ?_); rintro e V8 ⟨rfl, hS⟩; obtain ⟨kq1, kq2, _⟩ := hS.f ((w.heap.size + 1 + 1 + osN.size), 0, .int .i64 t.proto) (by simp); have HS8 := Lib.hid hS; clear hS))
        obtain ⟨m00, m01, _⟩ := HS8.out.f (w.heap.size, 0, .int .i64 kind) (by simp)
        obtain ⟨_, m11, _⟩ := HS8.out.f (w.heap.size, 1, .int .i64 code) (by simp)
        obtain ⟨_, m21, _⟩ := HS8.out.f (w.heap.size, 2, .int .u32 rest) (by simp)
        obtain ⟨_, m31, m32⟩ := HS8.out.f (w.heap.size, 3, .slice (some ad) l c) (by simp)
        obtain ⟨r00, r01, r02⟩ := HS8.out.f (w.heap.size + 1, 0, .int .i64 0) (by simp)
        obtain ⟨_, r11, r12⟩ := HS8.out.f (w.heap.size + 1, 1, .int .i64 0) (by simp)
        obtain ⟨_, r21, r22⟩ := HS8.out.f (w.heap.size + 1, 2, .int .u32 0) (by simp)
        obtain ⟨_, r31, r32⟩ := HS8.out.f (w.heap.size + 1, 3, .slice none 0 0) (by simp)
        rw [rounds_succ]
        repeat (first | go_values | go_skip | go_guarded | go_step)
        have HSF := Lib.hid HS8.out
        have HBE := Lib.hid (fun i (hi : i < l) => show (w2 (w2 (w2 (w2 (w2 xs a4 port) 10 m1) 16 (addr / 65536)) 10 m2) 18 (addr % 65536)) i = tnB xs l 16 2 addr port i from by
          rw [side_eq0 xs a4 16 port (addr / 65536) (addr % 65536) m1 m2 (by omega) (by omega) i]
          unfold tnB
          rw [HTN.out, HSS.out, HT4.out, HA4.out]
          unfold tn1
          rw [HMM.out])
        have HSG := Lib.hid (HSF.out.congr HBE.out)
        obtain ⟨m00, m01, _⟩ := HSG.out.f (w.heap.size, 0, .int .i64 kind) (by simp)
        obtain ⟨_, m11, _⟩ := HSG.out.f (w.heap.size, 1, .int .i64 code) (by simp)
        obtain ⟨_, m21, _⟩ := HSG.out.f (w.heap.size, 2, .int .u32 rest) (by simp)
        obtain ⟨_, m31, m32⟩ := HSG.out.f (w.heap.size, 3, .slice (some ad) l c) (by simp)
        obtain ⟨r00, r01, r02⟩ := HSG.out.f (w.heap.size + 1, 0, .int .i64 0) (by simp)
        obtain ⟨_, r11, r12⟩ := HSG.out.f (w.heap.size + 1, 1, .int .i64 0) (by simp)
        obtain ⟨_, r21, r22⟩ := HSG.out.f (w.heap.size + 1, 2, .int .u32 0) (by simp)
        obtain ⟨_, r31, r32⟩ := HSG.out.f (w.heap.size + 1, 3, .slice none 0 0) (by simp)
        have hgm : w.heap.size ≠ g := by omega
        have hgr : w.heap.size + 1 ≠ g := by omega
        obtain ⟨wz0, wz1, wz2, wz3⟩ := set4_cells (V := (V8).setCell ⟨w.heap.size, 3, none⟩ (.slice (some ⟨g, 0, none⟩) l cap)) (b := w.heap.size + 1) (v0 := .int .i64 kind) (v1 := .int .i64 code) (v2 := .int .u32 rest) (v3 := (.slice (some ⟨g, 0, none⟩) l cap)) (cell_far _ r01 (by omega)) (cell_far _ r11 (by omega)) (cell_far _ r21 (by omega)) (cell_far _ r31 (by omega))
        have hJZ := ((((HSG.out.j.setCell (a := ⟨w.heap.size, 3, none⟩) (Nat.le_refl _) (.slice (some ⟨g, 0, none⟩) l cap)).setCell (a := ⟨w.heap.size + 1, 0, none⟩) (by show w.heap.size ≤ w.heap.size + 1; omega) (.int .i64 kind)).setCell (a := ⟨w.heap.size + 1, 1, none⟩) (by show w.heap.size ≤ w.heap.size + 1; omega) (.int .i64 code)).setCell (a := ⟨w.heap.size + 1, 2, none⟩) (by show w.heap.size ≤ w.heap.size + 1; omega) (.int .u32 rest)).setCell (a := ⟨w.heap.size + 1, 3, none⟩) (by show w.heap.size ≤ w.heap.size + 1; omega) (.slice (some ⟨g, 0, none⟩) l cap)
        have hBZ := bts_far (bts_far (bts_far (bts_far (bts_far HSG.out.b (i := 3) (.slice (some ⟨g, 0, none⟩) l cap) hgm) (i := 0) (.int .i64 kind) hgr) (i := 1) (.int .i64 code) hgr) (i := 2) (.int .u32 rest) hgr) (i := 3) (.slice (some ⟨g, 0, none⟩) l cap) hgr
        have HBZ := Lib.hid hBZ
        have HJZ := Lib.hid hJZ
        clear hBZ hJZ m01 m11 m21 m31 m32 r01 r02 r11 r12 r21 r22 r31 r32
        generalize (((((V8).setCell ⟨w.heap.size, 3, none⟩ (.slice (some ⟨g, 0, none⟩) l cap)).setCell ⟨w.heap.size + 1, 0, none⟩ (.int .i64 kind)).setCell ⟨w.heap.size + 1, 1, none⟩ (.int .i64 code)).setCell ⟨w.heap.size + 1, 2, none⟩ (.int .u32 rest)).setCell ⟨w.heap.size + 1, 3, none⟩ (.slice (some ⟨g, 0, none⟩) l cap) = WZ at wz0 wz1 wz2 wz3 HBZ HJZ ⊢
        refine bodyPost_ret (by simp [results, Try.results14, go_sem, wz0, wz1, wz2, wz3]; try rfl) rfl ?_
        exact ⟨HJZ.out, .inr ⟨HE.out, some ⟨g, 0, none⟩, cap, HBZ.out, rfl⟩⟩
      · subst hsm
        have q1 : (t.proto != 1) = false := by simpa using hpr1
        have n0 : (0 : Int) ≤ (Z : Int) := by omega
        have HTN := Lib.hid htn
        rw [HA4.out] at hd
        obtain ⟨WZ, hWZ⟩ : ∃ v, wd xs Z = v := ⟨_, rfl⟩
        have bWZ : 0 ≤ WZ ∧ WZ ≤ 65535 := by rw [← hWZ]; exact wd_bd (HX.out _ (by omega)) (HX.out _ (by omega))
        obtain ⟨c1, hc1⟩ : ∃ v, mendI WZ PW port = v := ⟨_, rfl⟩
        have HC1 := Lib.hid (show mendI (wd xs Z) PW port = c1 by rw [hWZ]; exact hc1)
        have HWA2 := Lib.hid (show wd (w2 (w2 xs Z c1) a4 port) 16 = WA by rw [wd_w2_ne (by omega), wd_w2_ne (by omega)]; exact HWA.out)
        obtain ⟨m1, hm1⟩ : ∃ v, mendI W10 WA (addr / 65536) = v := ⟨_, rfl⟩
        have HM1 := Lib.hid (show mendI (wd (w2 (w2 xs Z c1) a4 port) 10) WA (addr / 65536) = m1 by rw [wd_w2_ne (by omega), wd_w2_ne (by omega), HW10.out]; exact hm1)
        have HWB2 := Lib.hid (show wd (w2 (w2 (w2 (w2 xs Z c1) a4 port) 10 m1) 16 (addr / 65536)) 18 = WB by rw [wd_w2_ne (by omega), wd_w2_ne (by omega), wd_w2_ne (by omega), wd_w2_ne (by omega)]; exact HWB.out)
        obtain ⟨m2, hm2⟩ : ∃ v, mendI m1 WB (addr % 65536) = v := ⟨_, rfl⟩
        have HM2 := Lib.hid (show mendI (wd (w2 (w2 (w2 (w2 xs Z c1) a4 port) 10 m1) 16 (addr / 65536)) 10) WB (addr % 65536) = m2 by rw [wd_w2_ne (by omega), wd_w2]; exact hm2)
        have HCF := Lib.hid (show wd (w2 (w2 (w2 (w2 (w2 (w2 xs Z c1) a4 port) 10 m1) 16 (addr / 65536)) 10 m2) 18 (addr % 65536)) Z = c1 by rw [wd_w2_ne (by omega), wd_w2_ne (by omega), wd_w2_ne (by omega), wd_w2_ne (by omega), wd_w2_ne (by omega), wd_w2])
        have HMM := Lib.hid (show mendW (wd xs 10) (tnNm xs 16 addr) 2 = m2 by show mendI (mendI (wd xs 10) (wd xs 16) (addr / 65536)) (wd xs (16 + 2)) (addr % 65536) = m2; rw [HW10.out, HWA.out, HWB.out, hm1]; exact hm2)
        have HCC := Lib.hid (show mendW (wd (tn1 xs 16 addr) Z) (tnAll xs l 16 2 addr port) 1 = c1 by show mendI (wd (tn1 xs 16 addr) Z) (wd xs (ipSize xs + tnAt (aboutIp xs l) 2)) port = c1; rw [HSS.out, HT4.out, HA4.out, HPW.out, show wd (tn1 xs 16 addr) Z = WZ by unfold tn1; rw [wd_w2_ne (by omega)]; exact hWZ]; exact hc1)
        clear hm1 hm2 htn hWZ hc1 hpr1
        go_upto_region 26 with (first | (go_at_call 34; (with_reducible refine (rpair_k (HSB.out.b.on (by (first | ((repeat (first | with_reducible exact Junk.refl _ | with_reducible exact Junk.app _ _ _ _ _ | with_reducible apply Junk.alloc | with_reducible apply Junk.junk | with_reducible apply Junk.drew | with_reducible apply Junk.drewN)); done) | ((try simp only [World.junk_junk, Array.append_assoc]); (repeat (first | with_reducible exact Junk.refl _ | with_reducible exact Junk.app _ _ _ _ _ | with_reducible exact Junk.app2 _ _ _ _ _ _ | with_reducible exact Junk.app3 _ _ _ _ _ _ _ | with_reducible exact Junk.app4 _ _ _ _ _ _ _ _ | with_reducible exact Junk.app5 _ _ _ _ _ _ _ _ _ | with_reducible apply Junk.alloc | with_reducible apply Junk.junk | with_reducible apply Junk.drew | with_reducible apply Junk.drewN)))))) (a4) _ PW HPW.out (by omega) (by omega)).mono ?_); rintro e w' ⟨rfl, ⟨osP, dP, rfl⟩⟩) | (go_at_call 36; (with_reducible refine (rmend_k (HSB.out.on HK1.out (by (first | ((repeat (first | with_reducible exact Junk.refl _ | with_reducible exact Junk.app _ _ _ _ _ | with_reducible apply Junk.alloc | with_reducible apply Junk.junk | with_reducible apply Junk.drew | with_reducible apply Junk.drewN)); done) | ((try simp only [World.junk_junk, Array.append_assoc]); (repeat (first | with_reducible exact Junk.refl _ | with_reducible exact Junk.app _ _ _ _ _ | with_reducible exact Junk.app2 _ _ _ _ _ _ | with_reducible exact Junk.app3 _ _ _ _ _ _ _ | with_reducible exact Junk.app4 _ _ _ _ _ _ _ _ | with_reducible exact Junk.app5 _ _ _ _ _ _ _ _ _ | with_reducible apply Junk.alloc | with_reducible apply Junk.junk | with_reducible apply Junk.drew | with_reducible apply Junk.drewN)))))) HK1.out (Z) _ PW port c1 HC1.out (by omega) (by omega) hl bPW bpo).mono ?_); rintro e V1 ⟨rfl, hS⟩; obtain ⟨kq1, kq2, _⟩ := hS.f ((w.heap.size + 1 + 1 + osN.size), 0, .int .i64 t.proto) (by simp); have HS1 := Lib.hid hS; clear hS) | (go_at_call 37; (with_reducible refine (rset_k (HS1.out.on HK1.out (by (first | ((repeat (first | with_reducible exact Junk.refl _ | with_reducible exact Junk.app _ _ _ _ _ | with_reducible apply Junk.alloc | with_reducible apply Junk.junk | with_reducible apply Junk.drew | with_reducible apply Junk.drewN)); done) | ((try simp only [World.junk_junk, Array.append_assoc]); (repeat (first | with_reducible exact Junk.refl _ | with_reducible exact Junk.app _ _ _ _ _ | with_reducible exact Junk.app2 _ _ _ _ _ _ | with_reducible exact Junk.app3 _ _ _ _ _ _ _ | with_reducible exact Junk.app4 _ _ _ _ _ _ _ _ | with_reducible exact Junk.app5 _ _ _ _ _ _ _ _ _ | with_reducible apply Junk.alloc | with_reducible apply Junk.junk | with_reducible apply Junk.drew | with_reducible apply Junk.drewN)))))) HK1.out (a4) _ port (by omega) (by omega) hl bpo).mono ?_); rintro e V2 ⟨rfl, hS⟩; obtain ⟨kq1, kq2, _⟩ := hS.f ((w.heap.size + 1 + 1 + osN.size), 0, .int .i64 t.proto) (by simp); have HS2 := Lib.hid hS; clear hS))
        go_wp2
        refine wp_loop_rounds 3 ?_
        rw [rounds_succ]
        go_wp2_with (first | (go_at_call 34; (with_reducible refine (rpair_k (HS2.out.b.on (by (first | ((repeat (first | with_reducible exact Junk.refl _ | with_reducible exact Junk.app _ _ _ _ _ | with_reducible apply Junk.alloc | with_reducible apply Junk.junk | with_reducible apply Junk.drew | with_reducible apply Junk.drewN)); done) | ((try simp only [World.junk_junk, Array.append_assoc]); (repeat (first | with_reducible exact Junk.refl _ | with_reducible exact Junk.app _ _ _ _ _ | with_reducible exact Junk.app2 _ _ _ _ _ _ | with_reducible exact Junk.app3 _ _ _ _ _ _ _ | with_reducible exact Junk.app4 _ _ _ _ _ _ _ _ | with_reducible exact Junk.app5 _ _ _ _ _ _ _ _ _ | with_reducible apply Junk.alloc | with_reducible apply Junk.junk | with_reducible apply Junk.drew | with_reducible apply Junk.drewN)))))) (16) _ WA HWA2.out (by omega) (by omega)).mono ?_); rintro e w' ⟨rfl, ⟨osA, dA, rfl⟩⟩) | (go_at_call 36; (with_reducible refine (rmend_k (HS2.out.on HK1.out (by (first | ((repeat (first | with_reducible exact Junk.refl _ | with_reducible exact Junk.app _ _ _ _ _ | with_reducible apply Junk.alloc | with_reducible apply Junk.junk | with_reducible apply Junk.drew | with_reducible apply Junk.drewN)); done) | ((try simp only [World.junk_junk, Array.append_assoc]); (repeat (first | with_reducible exact Junk.refl _ | with_reducible exact Junk.app _ _ _ _ _ | with_reducible exact Junk.app2 _ _ _ _ _ _ | with_reducible exact Junk.app3 _ _ _ _ _ _ _ | with_reducible exact Junk.app4 _ _ _ _ _ _ _ _ | with_reducible exact Junk.app5 _ _ _ _ _ _ _ _ _ | with_reducible apply Junk.alloc | with_reducible apply Junk.junk | with_reducible apply Junk.drew | with_reducible apply Junk.drewN)))))) HK1.out (10) _ WA (addr / 65536) m1 HM1.out (by omega) (by omega) hl bWA bhi).mono ?_); rintro e V3 ⟨rfl, hS⟩; obtain ⟨kq1, kq2, _⟩ := hS.f ((w.heap.size + 1 + 1 + osN.size), 0, .int .i64 t.proto) (by simp); have HS3 := Lib.hid hS; clear hS) | (go_at_call 37; (with_reducible refine (rset_k (HS3.out.on HK1.out (by (first | ((repeat (first | with_reducible exact Junk.refl _ | with_reducible exact Junk.app _ _ _ _ _ | with_reducible apply Junk.alloc | with_reducible apply Junk.junk | with_reducible apply Junk.drew | with_reducible apply Junk.drewN)); done) | ((try simp only [World.junk_junk, Array.append_assoc]); (repeat (first | with_reducible exact Junk.refl _ | with_reducible exact Junk.app _ _ _ _ _ | with_reducible exact Junk.app2 _ _ _ _ _ _ | with_reducible exact Junk.app3 _ _ _ _ _ _ _ | with_reducible exact Junk.app4 _ _ _ _ _ _ _ _ | with_reducible exact Junk.app5 _ _ _ _ _ _ _ _ _ | with_reducible apply Junk.alloc | with_reducible apply Junk.junk | with_reducible apply Junk.drew | with_reducible apply Junk.drewN)))))) HK1.out (16) _ (addr / 65536) (by omega) (by omega) hl bhi).mono ?_); rintro e V5 ⟨rfl, hS⟩; obtain ⟨kq1, kq2, _⟩ := hS.f ((w.heap.size + 1 + 1 + osN.size), 0, .int .i64 t.proto) (by simp); have HS5 := Lib.hid hS; clear hS))
        rw [rounds_succ]
        go_wp2_with (first | (go_at_call 34; (with_reducible refine (rpair_k (HS5.out.b.on (by (first | ((repeat (first | with_reducible exact Junk.refl _ | with_reducible exact Junk.app _ _ _ _ _ | with_reducible apply Junk.alloc | with_reducible apply Junk.junk | with_reducible apply Junk.drew | with_reducible apply Junk.drewN)); done) | ((try simp only [World.junk_junk, Array.append_assoc]); (repeat (first | with_reducible exact Junk.refl _ | with_reducible exact Junk.app _ _ _ _ _ | with_reducible exact Junk.app2 _ _ _ _ _ _ | with_reducible exact Junk.app3 _ _ _ _ _ _ _ | with_reducible exact Junk.app4 _ _ _ _ _ _ _ _ | with_reducible exact Junk.app5 _ _ _ _ _ _ _ _ _ | with_reducible apply Junk.alloc | with_reducible apply Junk.junk | with_reducible apply Junk.drew | with_reducible apply Junk.drewN)))))) (18) _ WB HWB2.out (by omega) (by omega)).mono ?_); rintro e w' ⟨rfl, ⟨osB, dB, rfl⟩⟩) | (go_at_call 36; (with_reducible refine (rmend_k (HS5.out.on HK1.out (by (first | ((repeat (first | with_reducible exact Junk.refl _ | with_reducible exact Junk.app _ _ _ _ _ | with_reducible apply Junk.alloc | with_reducible apply Junk.junk | with_reducible apply Junk.drew | with_reducible apply Junk.drewN)); done) | ((try simp only [World.junk_junk, Array.append_assoc]); (repeat (first | with_reducible exact Junk.refl _ | with_reducible exact Junk.app _ _ _ _ _ | with_reducible exact Junk.app2 _ _ _ _ _ _ | with_reducible exact Junk.app3 _ _ _ _ _ _ _ | with_reducible exact Junk.app4 _ _ _ _ _ _ _ _ | with_reducible exact Junk.app5 _ _ _ _ _ _ _ _ _ | with_reducible apply Junk.alloc | with_reducible apply Junk.junk | with_reducible apply Junk.drew | with_reducible apply Junk.drewN)))))) HK1.out (10) _ WB (addr % 65536) m2 HM2.out (by omega) (by omega) hl bWB blo).mono ?_); rintro e V6 ⟨rfl, hS⟩; obtain ⟨kq1, kq2, _⟩ := hS.f ((w.heap.size + 1 + 1 + osN.size), 0, .int .i64 t.proto) (by simp); have HS6 := Lib.hid hS; clear hS) | (go_at_call 37; (with_reducible refine (rset_k (HS6.out.on HK1.out (by (first | ((repeat (first | with_reducible exact Junk.refl _ | with_reducible exact Junk.app _ _ _ _ _ | with_reducible apply Junk.alloc | with_reducible apply Junk.junk | with_reducible apply Junk.drew | with_reducible apply Junk.drewN)); done) | ((try simp only [World.junk_junk, Array.append_assoc]); (repeat (first | with_reducible exact Junk.refl _ | with_reducible exact Junk.app _ _ _ _ _ | with_reducible exact Junk.app2 _ _ _ _ _ _ | with_reducible exact Junk.app3 _ _ _ _ _ _ _ | with_reducible exact Junk.app4 _ _ _ _ _ _ _ _ | with_reducible exact Junk.app5 _ _ _ _ _ _ _ _ _ | with_reducible apply Junk.alloc | with_reducible apply Junk.junk | with_reducible apply Junk.drew | with_reducible apply Junk.drewN)))))) HK1.out (18) _ (addr % 65536) (by omega) (by omega) hl blo).mono ?_); rintro e V8 ⟨rfl, hS⟩; obtain ⟨kq1, kq2, _⟩ := hS.f ((w.heap.size + 1 + 1 + osN.size), 0, .int .i64 t.proto) (by simp); have HS8 := Lib.hid hS; clear hS))
        rw [rounds_succ]
        by_cases hz : c1 = 0
        · have hz1 : (c1 == 0) = true := by simpa using hz
          have HZ0 := Lib.hid hz
          clear hz
          go_upto_region 39 with (first | (go_at_call 34; (with_reducible refine (rpair_k (HS8.out.b.on (by (first | ((repeat (first | with_reducible exact Junk.refl _ | with_reducible exact Junk.app _ _ _ _ _ | with_reducible apply Junk.alloc | with_reducible apply Junk.junk | with_reducible apply Junk.drew | with_reducible apply Junk.drewN)); done) | ((try simp only [World.junk_junk, Array.append_assoc]); (repeat (first | with_reducible exact Junk.refl _ | with_reducible exact Junk.app _ _ _ _ _ | with_reducible exact Junk.app2 _ _ _ _ _ _ | with_reducible exact Junk.app3 _ _ _ _ _ _ _ | with_reducible exact Junk.app4 _ _ _ _ _ _ _ _ | with_reducible exact Junk.app5 _ _ _ _ _ _ _ _ _ | with_reducible apply Junk.alloc | with_reducible apply Junk.junk | with_reducible apply Junk.drew | with_reducible apply Junk.drewN)))))) (Z) _ c1 HCF.out (by omega) (by omega)).mono ?_); rintro e w' ⟨rfl, ⟨osE, dE, rfl⟩⟩) | (go_at_call 37; (with_reducible refine (rset_k (HS8.out.on HK1.out (by (first | ((repeat (first | with_reducible exact Junk.refl _ | with_reducible exact Junk.app _ _ _ _ _ | with_reducible apply Junk.alloc | with_reducible apply Junk.junk | with_reducible apply Junk.drew | with_reducible apply Junk.drewN)); done) | ((try simp only [World.junk_junk, Array.append_assoc]); (repeat (first | with_reducible exact Junk.refl _ | with_reducible exact Junk.app _ _ _ _ _ | with_reducible exact Junk.app2 _ _ _ _ _ _ | with_reducible exact Junk.app3 _ _ _ _ _ _ _ | with_reducible exact Junk.app4 _ _ _ _ _ _ _ _ | with_reducible exact Junk.app5 _ _ _ _ _ _ _ _ _ | with_reducible apply Junk.alloc | with_reducible apply Junk.junk | with_reducible apply Junk.drew | with_reducible apply Junk.drewN)))))) HK1.out (Z) _ 65535 (by omega) (by omega) hl ⟨by decide, by decide⟩).mono ?_); rintro e V9 ⟨rfl, hS⟩; obtain ⟨kq1, kq2, _⟩ := hS.f ((w.heap.size + 1 + 1 + osN.size), 0, .int .i64 t.proto) (by simp); have HS9 := Lib.hid hS; clear hS))
          obtain ⟨m00, m01, _⟩ := HS9.out.f (w.heap.size, 0, .int .i64 kind) (by simp)
          obtain ⟨_, m11, _⟩ := HS9.out.f (w.heap.size, 1, .int .i64 code) (by simp)
          obtain ⟨_, m21, _⟩ := HS9.out.f (w.heap.size, 2, .int .u32 rest) (by simp)
          obtain ⟨_, m31, m32⟩ := HS9.out.f (w.heap.size, 3, .slice (some ad) l c) (by simp)
          obtain ⟨r00, r01, r02⟩ := HS9.out.f (w.heap.size + 1, 0, .int .i64 0) (by simp)
          obtain ⟨_, r11, r12⟩ := HS9.out.f (w.heap.size + 1, 1, .int .i64 0) (by simp)
          obtain ⟨_, r21, r22⟩ := HS9.out.f (w.heap.size + 1, 2, .int .u32 0) (by simp)
          obtain ⟨_, r31, r32⟩ := HS9.out.f (w.heap.size + 1, 3, .slice none 0 0) (by simp)
          repeat (first | go_values | go_skip | go_guarded | go_step)
          have HSF := Lib.hid HS9.out
          have HBE := Lib.hid (fun i (hi : i < l) => show (w2 (w2 (w2 (w2 (w2 (w2 (w2 xs Z c1) a4 port) 10 m1) 16 (addr / 65536)) 10 m2) 18 (addr % 65536)) Z 65535) i = tnB xs l 16 2 addr port i from by
            rw [w2_congr (side_eq1 xs Z a4 16 port (addr / 65536) (addr % 65536) c1 m1 m2 (by omega) (by omega) (by omega) hd i), side_full xs Z a4 16 port (addr / 65536) (addr % 65536) c1 m2 (by omega) (by omega) (by omega) hd i]
            unfold tnB
            rw [HTN.out, HSS.out, HT4.out, HA4.out, HCC.out]
            unfold fullI tn1
            rw [HMM.out, if_pos HZ0.out])
          have HSG := Lib.hid (HSF.out.congr HBE.out)
          obtain ⟨m00, m01, _⟩ := HSG.out.f (w.heap.size, 0, .int .i64 kind) (by simp)
          obtain ⟨_, m11, _⟩ := HSG.out.f (w.heap.size, 1, .int .i64 code) (by simp)
          obtain ⟨_, m21, _⟩ := HSG.out.f (w.heap.size, 2, .int .u32 rest) (by simp)
          obtain ⟨_, m31, m32⟩ := HSG.out.f (w.heap.size, 3, .slice (some ad) l c) (by simp)
          obtain ⟨r00, r01, r02⟩ := HSG.out.f (w.heap.size + 1, 0, .int .i64 0) (by simp)
          obtain ⟨_, r11, r12⟩ := HSG.out.f (w.heap.size + 1, 1, .int .i64 0) (by simp)
          obtain ⟨_, r21, r22⟩ := HSG.out.f (w.heap.size + 1, 2, .int .u32 0) (by simp)
          obtain ⟨_, r31, r32⟩ := HSG.out.f (w.heap.size + 1, 3, .slice none 0 0) (by simp)
          have hgm : w.heap.size ≠ g := by omega
          have hgr : w.heap.size + 1 ≠ g := by omega
          obtain ⟨wz0, wz1, wz2, wz3⟩ := set4_cells (V := (V9).setCell ⟨w.heap.size, 3, none⟩ (.slice (some ⟨g, 0, none⟩) l cap)) (b := w.heap.size + 1) (v0 := .int .i64 kind) (v1 := .int .i64 code) (v2 := .int .u32 rest) (v3 := (.slice (some ⟨g, 0, none⟩) l cap)) (cell_far _ r01 (by omega)) (cell_far _ r11 (by omega)) (cell_far _ r21 (by omega)) (cell_far _ r31 (by omega))
          have hJZ := ((((HSG.out.j.setCell (a := ⟨w.heap.size, 3, none⟩) (Nat.le_refl _) (.slice (some ⟨g, 0, none⟩) l cap)).setCell (a := ⟨w.heap.size + 1, 0, none⟩) (by show w.heap.size ≤ w.heap.size + 1; omega) (.int .i64 kind)).setCell (a := ⟨w.heap.size + 1, 1, none⟩) (by show w.heap.size ≤ w.heap.size + 1; omega) (.int .i64 code)).setCell (a := ⟨w.heap.size + 1, 2, none⟩) (by show w.heap.size ≤ w.heap.size + 1; omega) (.int .u32 rest)).setCell (a := ⟨w.heap.size + 1, 3, none⟩) (by show w.heap.size ≤ w.heap.size + 1; omega) (.slice (some ⟨g, 0, none⟩) l cap)
          have hBZ := bts_far (bts_far (bts_far (bts_far (bts_far HSG.out.b (i := 3) (.slice (some ⟨g, 0, none⟩) l cap) hgm) (i := 0) (.int .i64 kind) hgr) (i := 1) (.int .i64 code) hgr) (i := 2) (.int .u32 rest) hgr) (i := 3) (.slice (some ⟨g, 0, none⟩) l cap) hgr
          have HBZ := Lib.hid hBZ
          have HJZ := Lib.hid hJZ
          clear hBZ hJZ m01 m11 m21 m31 m32 r01 r02 r11 r12 r21 r22 r31 r32
          generalize (((((V9).setCell ⟨w.heap.size, 3, none⟩ (.slice (some ⟨g, 0, none⟩) l cap)).setCell ⟨w.heap.size + 1, 0, none⟩ (.int .i64 kind)).setCell ⟨w.heap.size + 1, 1, none⟩ (.int .i64 code)).setCell ⟨w.heap.size + 1, 2, none⟩ (.int .u32 rest)).setCell ⟨w.heap.size + 1, 3, none⟩ (.slice (some ⟨g, 0, none⟩) l cap) = WZ at wz0 wz1 wz2 wz3 HBZ HJZ ⊢
          refine bodyPost_ret (by simp [results, Try.results14, go_sem, wz0, wz1, wz2, wz3]; try rfl) rfl ?_
          exact ⟨HJZ.out, .inr ⟨HE.out, some ⟨g, 0, none⟩, cap, HBZ.out, rfl⟩⟩
        · have hz1 : (c1 == 0) = false := by simpa using hz
          have HZ0 := Lib.hid hz
          clear hz
          go_upto_region 39 with (first | (go_at_call 34; (with_reducible refine (rpair_k (HS8.out.b.on (by (first | ((repeat (first | with_reducible exact Junk.refl _ | with_reducible exact Junk.app _ _ _ _ _ | with_reducible apply Junk.alloc | with_reducible apply Junk.junk | with_reducible apply Junk.drew | with_reducible apply Junk.drewN)); done) | ((try simp only [World.junk_junk, Array.append_assoc]); (repeat (first | with_reducible exact Junk.refl _ | with_reducible exact Junk.app _ _ _ _ _ | with_reducible exact Junk.app2 _ _ _ _ _ _ | with_reducible exact Junk.app3 _ _ _ _ _ _ _ | with_reducible exact Junk.app4 _ _ _ _ _ _ _ _ | with_reducible exact Junk.app5 _ _ _ _ _ _ _ _ _ | with_reducible apply Junk.alloc | with_reducible apply Junk.junk | with_reducible apply Junk.drew | with_reducible apply Junk.drewN)))))) (Z) _ c1 HCF.out (by omega) (by omega)).mono ?_); rintro e w' ⟨rfl, ⟨osE, dE, rfl⟩⟩))
          have HS9 := Lib.hid (HS8.out.on HK1.out (V' := V8.junk osE dE) ⟨_, _, rfl⟩)
          generalize V8.junk osE dE = V9 at HS9 ⊢
          obtain ⟨m00, m01, _⟩ := HS9.out.f (w.heap.size, 0, .int .i64 kind) (by simp)
          obtain ⟨_, m11, _⟩ := HS9.out.f (w.heap.size, 1, .int .i64 code) (by simp)
          obtain ⟨_, m21, _⟩ := HS9.out.f (w.heap.size, 2, .int .u32 rest) (by simp)
          obtain ⟨_, m31, m32⟩ := HS9.out.f (w.heap.size, 3, .slice (some ad) l c) (by simp)
          obtain ⟨r00, r01, r02⟩ := HS9.out.f (w.heap.size + 1, 0, .int .i64 0) (by simp)
          obtain ⟨_, r11, r12⟩ := HS9.out.f (w.heap.size + 1, 1, .int .i64 0) (by simp)
          obtain ⟨_, r21, r22⟩ := HS9.out.f (w.heap.size + 1, 2, .int .u32 0) (by simp)
          obtain ⟨_, r31, r32⟩ := HS9.out.f (w.heap.size + 1, 3, .slice none 0 0) (by simp)
          repeat (first | go_values | go_skip | go_guarded | go_step)
          have HSF := Lib.hid HS9.out
          have HBE := Lib.hid (fun i (hi : i < l) => show (w2 (w2 (w2 (w2 (w2 (w2 xs Z c1) a4 port) 10 m1) 16 (addr / 65536)) 10 m2) 18 (addr % 65536)) i = tnB xs l 16 2 addr port i from by
            rw [side_eq1 xs Z a4 16 port (addr / 65536) (addr % 65536) c1 m1 m2 (by omega) (by omega) (by omega) hd i]
            unfold tnB
            rw [HTN.out, HSS.out, HT4.out, HA4.out, HCC.out]
            unfold fullI tn1
            rw [HMM.out, if_neg HZ0.out])
          have HSG := Lib.hid (HSF.out.congr HBE.out)
          obtain ⟨m00, m01, _⟩ := HSG.out.f (w.heap.size, 0, .int .i64 kind) (by simp)
          obtain ⟨_, m11, _⟩ := HSG.out.f (w.heap.size, 1, .int .i64 code) (by simp)
          obtain ⟨_, m21, _⟩ := HSG.out.f (w.heap.size, 2, .int .u32 rest) (by simp)
          obtain ⟨_, m31, m32⟩ := HSG.out.f (w.heap.size, 3, .slice (some ad) l c) (by simp)
          obtain ⟨r00, r01, r02⟩ := HSG.out.f (w.heap.size + 1, 0, .int .i64 0) (by simp)
          obtain ⟨_, r11, r12⟩ := HSG.out.f (w.heap.size + 1, 1, .int .i64 0) (by simp)
          obtain ⟨_, r21, r22⟩ := HSG.out.f (w.heap.size + 1, 2, .int .u32 0) (by simp)
          obtain ⟨_, r31, r32⟩ := HSG.out.f (w.heap.size + 1, 3, .slice none 0 0) (by simp)
          have hgm : w.heap.size ≠ g := by omega
          have hgr : w.heap.size + 1 ≠ g := by omega
          obtain ⟨wz0, wz1, wz2, wz3⟩ := set4_cells (V := (V9).setCell ⟨w.heap.size, 3, none⟩ (.slice (some ⟨g, 0, none⟩) l cap)) (b := w.heap.size + 1) (v0 := .int .i64 kind) (v1 := .int .i64 code) (v2 := .int .u32 rest) (v3 := (.slice (some ⟨g, 0, none⟩) l cap)) (cell_far _ r01 (by omega)) (cell_far _ r11 (by omega)) (cell_far _ r21 (by omega)) (cell_far _ r31 (by omega))
          have hJZ := ((((HSG.out.j.setCell (a := ⟨w.heap.size, 3, none⟩) (Nat.le_refl _) (.slice (some ⟨g, 0, none⟩) l cap)).setCell (a := ⟨w.heap.size + 1, 0, none⟩) (by show w.heap.size ≤ w.heap.size + 1; omega) (.int .i64 kind)).setCell (a := ⟨w.heap.size + 1, 1, none⟩) (by show w.heap.size ≤ w.heap.size + 1; omega) (.int .i64 code)).setCell (a := ⟨w.heap.size + 1, 2, none⟩) (by show w.heap.size ≤ w.heap.size + 1; omega) (.int .u32 rest)).setCell (a := ⟨w.heap.size + 1, 3, none⟩) (by show w.heap.size ≤ w.heap.size + 1; omega) (.slice (some ⟨g, 0, none⟩) l cap)
          have hBZ := bts_far (bts_far (bts_far (bts_far (bts_far HSG.out.b (i := 3) (.slice (some ⟨g, 0, none⟩) l cap) hgm) (i := 0) (.int .i64 kind) hgr) (i := 1) (.int .i64 code) hgr) (i := 2) (.int .u32 rest) hgr) (i := 3) (.slice (some ⟨g, 0, none⟩) l cap) hgr
          have HBZ := Lib.hid hBZ
          have HJZ := Lib.hid hJZ
          clear hBZ hJZ m01 m11 m21 m31 m32 r01 r02 r11 r12 r21 r22 r31 r32
          generalize (((((V9).setCell ⟨w.heap.size, 3, none⟩ (.slice (some ⟨g, 0, none⟩) l cap)).setCell ⟨w.heap.size + 1, 0, none⟩ (.int .i64 kind)).setCell ⟨w.heap.size + 1, 1, none⟩ (.int .i64 code)).setCell ⟨w.heap.size + 1, 2, none⟩ (.int .u32 rest)).setCell ⟨w.heap.size + 1, 3, none⟩ (.slice (some ⟨g, 0, none⟩) l cap) = WZ at wz0 wz1 wz2 wz3 HBZ HJZ ⊢
          refine bodyPost_ret (by simp [results, Try.results14, go_sem, wz0, wz1, wz2, wz3]; try rfl) rfl ?_
          exact ⟨HJZ.out, .inr ⟨HE.out, some ⟨g, 0, none⟩, cap, HBZ.out, rfl⟩⟩
      · subst hsm
        have q1 : (t.proto != 1) = true := by simpa using hpr1
        have n0 : (0 : Int) ≤ (Z : Int) := by omega
        have HTN := Lib.hid htn
        rw [HA4.out] at hd
        obtain ⟨WZ, hWZ⟩ : ∃ v, wd xs Z = v := ⟨_, rfl⟩
        have bWZ : 0 ≤ WZ ∧ WZ ≤ 65535 := by rw [← hWZ]; exact wd_bd (HX.out _ (by omega)) (HX.out _ (by omega))
        obtain ⟨c1, hc1⟩ : ∃ v, mendI WZ PW port = v := ⟨_, rfl⟩
        have HC1 := Lib.hid (show mendI (wd xs Z) PW port = c1 by rw [hWZ]; exact hc1)
        have HWA2 := Lib.hid (show wd (w2 (w2 xs Z c1) a4 port) 16 = WA by rw [wd_w2_ne (by omega), wd_w2_ne (by omega)]; exact HWA.out)
        obtain ⟨m1, hm1⟩ : ∃ v, mendI W10 WA (addr / 65536) = v := ⟨_, rfl⟩
        have HM1 := Lib.hid (show mendI (wd (w2 (w2 xs Z c1) a4 port) 10) WA (addr / 65536) = m1 by rw [wd_w2_ne (by omega), wd_w2_ne (by omega), HW10.out]; exact hm1)
        obtain ⟨c2, hc2⟩ : ∃ v, mendI c1 WA (addr / 65536) = v := ⟨_, rfl⟩
        have HC2 := Lib.hid (show mendI (wd (w2 (w2 (w2 xs Z c1) a4 port) 10 m1) Z) WA (addr / 65536) = c2 by rw [wd_w2_ne (by omega), wd_w2_ne (by omega), wd_w2]; exact hc2)
        have HWB2 := Lib.hid (show wd (w2 (w2 (w2 (w2 (w2 xs Z c1) a4 port) 10 m1) Z c2) 16 (addr / 65536)) 18 = WB by rw [wd_w2_ne (by omega), wd_w2_ne (by omega), wd_w2_ne (by omega), wd_w2_ne (by omega), wd_w2_ne (by omega)]; exact HWB.out)
        obtain ⟨m2, hm2⟩ : ∃ v, mendI m1 WB (addr % 65536) = v := ⟨_, rfl⟩
        have HM2 := Lib.hid (show mendI (wd (w2 (w2 (w2 (w2 (w2 xs Z c1) a4 port) 10 m1) Z c2) 16 (addr / 65536)) 10) WB (addr % 65536) = m2 by rw [wd_w2_ne (by omega), wd_w2_ne (by omega), wd_w2]; exact hm2)
        obtain ⟨c3, hc3⟩ : ∃ v, mendI c2 WB (addr % 65536) = v := ⟨_, rfl⟩
        have HC3 := Lib.hid (show mendI (wd (w2 (w2 (w2 (w2 (w2 (w2 xs Z c1) a4 port) 10 m1) Z c2) 16 (addr / 65536)) 10 m2) Z) WB (addr % 65536) = c3 by rw [wd_w2_ne (by omega), wd_w2_ne (by omega), wd_w2]; exact hc3)
        have HCF := Lib.hid (show wd (w2 (w2 (w2 (w2 (w2 (w2 (w2 (w2 xs Z c1) a4 port) 10 m1) Z c2) 16 (addr / 65536)) 10 m2) Z c3) 18 (addr % 65536)) Z = c3 by rw [wd_w2_ne (by omega), wd_w2])
        have HMM := Lib.hid (show mendW (wd xs 10) (tnNm xs 16 addr) 2 = m2 by show mendI (mendI (wd xs 10) (wd xs 16) (addr / 65536)) (wd xs (16 + 2)) (addr % 65536) = m2; rw [HW10.out, HWA.out, HWB.out, hm1]; exact hm2)
        have HCC := Lib.hid (show mendW (wd (tn1 xs 16 addr) Z) (tnAll xs l 16 2 addr port) 3 = c3 by show mendI (mendI (mendI (wd (tn1 xs 16 addr) Z) (wd xs (ipSize xs + tnAt (aboutIp xs l) 2)) port) (wd xs 16) (addr / 65536)) (wd xs (16 + 2)) (addr % 65536) = c3; rw [HSS.out, HT4.out, HA4.out, HPW.out, HWA.out, HWB.out, show wd (tn1 xs 16 addr) Z = WZ by unfold tn1; rw [wd_w2_ne (by omega)]; exact hWZ, hc1, hc2]; exact hc3)
        clear hm1 hm2 htn hWZ hc1 hpr1 hc2 hc3
        go_upto_region 26 with (first | (go_at_call 34; (with_reducible refine (rpair_k (HSB.out.b.on (by (first | ((repeat (first | with_reducible exact Junk.refl _ | with_reducible exact Junk.app _ _ _ _ _ | with_reducible apply Junk.alloc | with_reducible apply Junk.junk | with_reducible apply Junk.drew | with_reducible apply Junk.drewN)); done) | ((try simp only [World.junk_junk, Array.append_assoc]); (repeat (first | with_reducible exact Junk.refl _ | with_reducible exact Junk.app _ _ _ _ _ | with_reducible exact Junk.app2 _ _ _ _ _ _ | with_reducible exact Junk.app3 _ _ _ _ _ _ _ | with_reducible exact Junk.app4 _ _ _ _ _ _ _ _ | with_reducible exact Junk.app5 _ _ _ _ _ _ _ _ _ | with_reducible apply Junk.alloc | with_reducible apply Junk.junk | with_reducible apply Junk.drew | with_reducible apply Junk.drewN)))))) (a4) _ PW HPW.out (by omega) (by omega)).mono ?_); rintro e w' ⟨rfl, ⟨osP, dP, rfl⟩⟩) | (go_at_call 36; (with_reducible refine (rmend_k (HSB.out.on HK1.out (by (first | ((repeat (first | with_reducible exact Junk.refl _ | with_reducible exact Junk.app _ _ _ _ _ | with_reducible apply Junk.alloc | with_reducible apply Junk.junk | with_reducible apply Junk.drew | with_reducible apply Junk.drewN)); done) | ((try simp only [World.junk_junk, Array.append_assoc]); (repeat (first | with_reducible exact Junk.refl _ | with_reducible exact Junk.app _ _ _ _ _ | with_reducible exact Junk.app2 _ _ _ _ _ _ | with_reducible exact Junk.app3 _ _ _ _ _ _ _ | with_reducible exact Junk.app4 _ _ _ _ _ _ _ _ | with_reducible exact Junk.app5 _ _ _ _ _ _ _ _ _ | with_reducible apply Junk.alloc | with_reducible apply Junk.junk | with_reducible apply Junk.drew | with_reducible apply Junk.drewN)))))) HK1.out (Z) _ PW port c1 HC1.out (by omega) (by omega) hl bPW bpo).mono ?_); rintro e V1 ⟨rfl, hS⟩; obtain ⟨kq1, kq2, _⟩ := hS.f ((w.heap.size + 1 + 1 + osN.size), 0, .int .i64 t.proto) (by simp); have HS1 := Lib.hid hS; clear hS) | (go_at_call 37; (with_reducible refine (rset_k (HS1.out.on HK1.out (by (first | ((repeat (first | with_reducible exact Junk.refl _ | with_reducible exact Junk.app _ _ _ _ _ | with_reducible apply Junk.alloc | with_reducible apply Junk.junk | with_reducible apply Junk.drew | with_reducible apply Junk.drewN)); done) | ((try simp only [World.junk_junk, Array.append_assoc]); (repeat (first | with_reducible exact Junk.refl _ | with_reducible exact Junk.app _ _ _ _ _ | with_reducible exact Junk.app2 _ _ _ _ _ _ | with_reducible exact Junk.app3 _ _ _ _ _ _ _ | with_reducible exact Junk.app4 _ _ _ _ _ _ _ _ | with_reducible exact Junk.app5 _ _ _ _ _ _ _ _ _ | with_reducible apply Junk.alloc | with_reducible apply Junk.junk | with_reducible apply Junk.drew | with_reducible apply Junk.drewN)))))) HK1.out (a4) _ port (by omega) (by omega) hl bpo).mono ?_); rintro e V2 ⟨rfl, hS⟩; obtain ⟨kq1, kq2, _⟩ := hS.f ((w.heap.size + 1 + 1 + osN.size), 0, .int .i64 t.proto) (by simp); have HS2 := Lib.hid hS; clear hS))
        go_wp2
        refine wp_loop_rounds 3 ?_
        rw [rounds_succ]
        go_wp2_with (first | (go_at_call 34; (with_reducible refine (rpair_k (HS2.out.b.on (by (first | ((repeat (first | with_reducible exact Junk.refl _ | with_reducible exact Junk.app _ _ _ _ _ | with_reducible apply Junk.alloc | with_reducible apply Junk.junk | with_reducible apply Junk.drew | with_reducible apply Junk.drewN)); done) | ((try simp only [World.junk_junk, Array.append_assoc]); (repeat (first | with_reducible exact Junk.refl _ | with_reducible exact Junk.app _ _ _ _ _ | with_reducible exact Junk.app2 _ _ _ _ _ _ | with_reducible exact Junk.app3 _ _ _ _ _ _ _ | with_reducible exact Junk.app4 _ _ _ _ _ _ _ _ | with_reducible exact Junk.app5 _ _ _ _ _ _ _ _ _ | with_reducible apply Junk.alloc | with_reducible apply Junk.junk | with_reducible apply Junk.drew | with_reducible apply Junk.drewN)))))) (16) _ WA HWA2.out (by omega) (by omega)).mono ?_); rintro e w' ⟨rfl, ⟨osA, dA, rfl⟩⟩) | (go_at_call 36; (with_reducible refine (rmend_k (HS2.out.on HK1.out (by (first | ((repeat (first | with_reducible exact Junk.refl _ | with_reducible exact Junk.app _ _ _ _ _ | with_reducible apply Junk.alloc | with_reducible apply Junk.junk | with_reducible apply Junk.drew | with_reducible apply Junk.drewN)); done) | ((try simp only [World.junk_junk, Array.append_assoc]); (repeat (first | with_reducible exact Junk.refl _ | with_reducible exact Junk.app _ _ _ _ _ | with_reducible exact Junk.app2 _ _ _ _ _ _ | with_reducible exact Junk.app3 _ _ _ _ _ _ _ | with_reducible exact Junk.app4 _ _ _ _ _ _ _ _ | with_reducible exact Junk.app5 _ _ _ _ _ _ _ _ _ | with_reducible apply Junk.alloc | with_reducible apply Junk.junk | with_reducible apply Junk.drew | with_reducible apply Junk.drewN)))))) HK1.out (10) _ WA (addr / 65536) m1 HM1.out (by omega) (by omega) hl bWA bhi).mono ?_); rintro e V3 ⟨rfl, hS⟩; obtain ⟨kq1, kq2, _⟩ := hS.f ((w.heap.size + 1 + 1 + osN.size), 0, .int .i64 t.proto) (by simp); have HS3 := Lib.hid hS; clear hS) | (go_at_call 36; (with_reducible refine (rmend_k (HS3.out.on HK1.out (by (first | ((repeat (first | with_reducible exact Junk.refl _ | with_reducible exact Junk.app _ _ _ _ _ | with_reducible apply Junk.alloc | with_reducible apply Junk.junk | with_reducible apply Junk.drew | with_reducible apply Junk.drewN)); done) | ((try simp only [World.junk_junk, Array.append_assoc]); (repeat (first | with_reducible exact Junk.refl _ | with_reducible exact Junk.app _ _ _ _ _ | with_reducible exact Junk.app2 _ _ _ _ _ _ | with_reducible exact Junk.app3 _ _ _ _ _ _ _ | with_reducible exact Junk.app4 _ _ _ _ _ _ _ _ | with_reducible exact Junk.app5 _ _ _ _ _ _ _ _ _ | with_reducible apply Junk.alloc | with_reducible apply Junk.junk | with_reducible apply Junk.drew | with_reducible apply Junk.drewN)))))) HK1.out (Z) _ WA (addr / 65536) c2 HC2.out (by omega) (by omega) hl bWA bhi).mono ?_); rintro e V4 ⟨rfl, hS⟩; obtain ⟨kq1, kq2, _⟩ := hS.f ((w.heap.size + 1 + 1 + osN.size), 0, .int .i64 t.proto) (by simp); have HS4 := Lib.hid hS; clear hS) | (go_at_call 37; (with_reducible refine (rset_k (HS4.out.on HK1.out (by (first | ((repeat (first | with_reducible exact Junk.refl _ | with_reducible exact Junk.app _ _ _ _ _ | with_reducible apply Junk.alloc | with_reducible apply Junk.junk | with_reducible apply Junk.drew | with_reducible apply Junk.drewN)); done) | ((try simp only [World.junk_junk, Array.append_assoc]); (repeat (first | with_reducible exact Junk.refl _ | with_reducible exact Junk.app _ _ _ _ _ | with_reducible exact Junk.app2 _ _ _ _ _ _ | with_reducible exact Junk.app3 _ _ _ _ _ _ _ | with_reducible exact Junk.app4 _ _ _ _ _ _ _ _ | with_reducible exact Junk.app5 _ _ _ _ _ _ _ _ _ | with_reducible apply Junk.alloc | with_reducible apply Junk.junk | with_reducible apply Junk.drew | with_reducible apply Junk.drewN)))))) HK1.out (16) _ (addr / 65536) (by omega) (by omega) hl bhi).mono ?_); rintro e V5 ⟨rfl, hS⟩; obtain ⟨kq1, kq2, _⟩ := hS.f ((w.heap.size + 1 + 1 + osN.size), 0, .int .i64 t.proto) (by simp); have HS5 := Lib.hid hS; clear hS))
        rw [rounds_succ]
        go_wp2_with (first | (go_at_call 34; (with_reducible refine (rpair_k (HS5.out.b.on (by (first | ((repeat (first | with_reducible exact Junk.refl _ | with_reducible exact Junk.app _ _ _ _ _ | with_reducible apply Junk.alloc | with_reducible apply Junk.junk | with_reducible apply Junk.drew | with_reducible apply Junk.drewN)); done) | ((try simp only [World.junk_junk, Array.append_assoc]); (repeat (first | with_reducible exact Junk.refl _ | with_reducible exact Junk.app _ _ _ _ _ | with_reducible exact Junk.app2 _ _ _ _ _ _ | with_reducible exact Junk.app3 _ _ _ _ _ _ _ | with_reducible exact Junk.app4 _ _ _ _ _ _ _ _ | with_reducible exact Junk.app5 _ _ _ _ _ _ _ _ _ | with_reducible apply Junk.alloc | with_reducible apply Junk.junk | with_reducible apply Junk.drew | with_reducible apply Junk.drewN)))))) (18) _ WB HWB2.out (by omega) (by omega)).mono ?_); rintro e w' ⟨rfl, ⟨osB, dB, rfl⟩⟩) | (go_at_call 36; (with_reducible refine (rmend_k (HS5.out.on HK1.out (by (first | ((repeat (first | with_reducible exact Junk.refl _ | with_reducible exact Junk.app _ _ _ _ _ | with_reducible apply Junk.alloc | with_reducible apply Junk.junk | with_reducible apply Junk.drew | with_reducible apply Junk.drewN)); done) | ((try simp only [World.junk_junk, Array.append_assoc]); (repeat (first | with_reducible exact Junk.refl _ | with_reducible exact Junk.app _ _ _ _ _ | with_reducible exact Junk.app2 _ _ _ _ _ _ | with_reducible exact Junk.app3 _ _ _ _ _ _ _ | with_reducible exact Junk.app4 _ _ _ _ _ _ _ _ | with_reducible exact Junk.app5 _ _ _ _ _ _ _ _ _ | with_reducible apply Junk.alloc | with_reducible apply Junk.junk | with_reducible apply Junk.drew | with_reducible apply Junk.drewN)))))) HK1.out (10) _ WB (addr % 65536) m2 HM2.out (by omega) (by omega) hl bWB blo).mono ?_); rintro e V6 ⟨rfl, hS⟩; obtain ⟨kq1, kq2, _⟩ := hS.f ((w.heap.size + 1 + 1 + osN.size), 0, .int .i64 t.proto) (by simp); have HS6 := Lib.hid hS; clear hS) | (go_at_call 36; (with_reducible refine (rmend_k (HS6.out.on HK1.out (by (first | ((repeat (first | with_reducible exact Junk.refl _ | with_reducible exact Junk.app _ _ _ _ _ | with_reducible apply Junk.alloc | with_reducible apply Junk.junk | with_reducible apply Junk.drew | with_reducible apply Junk.drewN)); done) | ((try simp only [World.junk_junk, Array.append_assoc]); (repeat (first | with_reducible exact Junk.refl _ | with_reducible exact Junk.app _ _ _ _ _ | with_reducible exact Junk.app2 _ _ _ _ _ _ | with_reducible exact Junk.app3 _ _ _ _ _ _ _ | with_reducible exact Junk.app4 _ _ _ _ _ _ _ _ | with_reducible exact Junk.app5 _ _ _ _ _ _ _ _ _ | with_reducible apply Junk.alloc | with_reducible apply Junk.junk | with_reducible apply Junk.drew | with_reducible apply Junk.drewN)))))) HK1.out (Z) _ WB (addr % 65536) c3 HC3.out (by omega) (by omega) hl bWB blo).mono ?_); rintro e V7 ⟨rfl, hS⟩; obtain ⟨kq1, kq2, _⟩ := hS.f ((w.heap.size + 1 + 1 + osN.size), 0, .int .i64 t.proto) (by simp); have HS7 := Lib.hid hS; clear hS) | (go_at_call 37; (with_reducible refine (rset_k (HS7.out.on HK1.out (by (first | ((repeat (first | with_reducible exact Junk.refl _ | with_reducible exact Junk.app _ _ _ _ _ | with_reducible apply Junk.alloc | with_reducible apply Junk.junk | with_reducible apply Junk.drew | with_reducible apply Junk.drewN)); done) | ((try simp only [World.junk_junk, Array.append_assoc]); (repeat (first | with_reducible exact Junk.refl _ | with_reducible exact Junk.app _ _ _ _ _ | with_reducible exact Junk.app2 _ _ _ _ _ _ | with_reducible exact Junk.app3 _ _ _ _ _ _ _ | with_reducible exact Junk.app4 _ _ _ _ _ _ _ _ | with_reducible exact Junk.app5 _ _ _ _ _ _ _ _ _ | with_reducible apply Junk.alloc | with_reducible apply Junk.junk | with_reducible apply Junk.drew | with_reducible apply Junk.drewN)))))) HK1.out (18) _ (addr % 65536) (by omega) (by omega) hl blo).mono ?_); rintro e V8 ⟨rfl, hS⟩; obtain ⟨kq1, kq2, _⟩ := hS.f ((w.heap.size + 1 + 1 + osN.size), 0, .int .i64 t.proto) (by simp); have HS8 := Lib.hid hS; clear hS))
        rw [rounds_succ]
        by_cases hz : c3 = 0
        · have hz1 : (c3 == 0) = true := by simpa using hz
          have HZ0 := Lib.hid hz
          clear hz
          go_upto_region 39 with (first | (go_at_call 34; (with_reducible refine (rpair_k (HS8.out.b.on (by (first | ((repeat (first | with_reducible exact Junk.refl _ | with_reducible exact Junk.app _ _ _ _ _ | with_reducible apply Junk.alloc | with_reducible apply Junk.junk | with_reducible apply Junk.drew | with_reducible apply Junk.drewN)); done) | ((try simp only [World.junk_junk, Array.append_assoc]); (repeat (first | with_reducible exact Junk.refl _ | with_reducible exact Junk.app _ _ _ _ _ | with_reducible exact Junk.app2 _ _ _ _ _ _ | with_reducible exact Junk.app3 _ _ _ _ _ _ _ | with_reducible exact Junk.app4 _ _ _ _ _ _ _ _ | with_reducible exact Junk.app5 _ _ _ _ _ _ _ _ _ | with_reducible apply Junk.alloc | with_reducible apply Junk.junk | with_reducible apply Junk.drew | with_reducible apply Junk.drewN)))))) (Z) _ c3 HCF.out (by omega) (by omega)).mono ?_); rintro e w' ⟨rfl, ⟨osE, dE, rfl⟩⟩) | (go_at_call 37; (with_reducible refine (rset_k (HS8.out.on HK1.out (by (first | ((repeat (first | with_reducible exact Junk.refl _ | with_reducible exact Junk.app _ _ _ _ _ | with_reducible apply Junk.alloc | with_reducible apply Junk.junk | with_reducible apply Junk.drew | with_reducible apply Junk.drewN)); done) | ((try simp only [World.junk_junk, Array.append_assoc]); (repeat (first | with_reducible exact Junk.refl _ | with_reducible exact Junk.app _ _ _ _ _ | with_reducible exact Junk.app2 _ _ _ _ _ _ | with_reducible exact Junk.app3 _ _ _ _ _ _ _ | with_reducible exact Junk.app4 _ _ _ _ _ _ _ _ | with_reducible exact Junk.app5 _ _ _ _ _ _ _ _ _ | with_reducible apply Junk.alloc | with_reducible apply Junk.junk | with_reducible apply Junk.drew | with_reducible apply Junk.drewN)))))) HK1.out (Z) _ 65535 (by omega) (by omega) hl ⟨by decide, by decide⟩).mono ?_); rintro e V9 ⟨rfl, hS⟩; obtain ⟨kq1, kq2, _⟩ := hS.f ((w.heap.size + 1 + 1 + osN.size), 0, .int .i64 t.proto) (by simp); have HS9 := Lib.hid hS; clear hS))
          obtain ⟨m00, m01, _⟩ := HS9.out.f (w.heap.size, 0, .int .i64 kind) (by simp)
          obtain ⟨_, m11, _⟩ := HS9.out.f (w.heap.size, 1, .int .i64 code) (by simp)
          obtain ⟨_, m21, _⟩ := HS9.out.f (w.heap.size, 2, .int .u32 rest) (by simp)
          obtain ⟨_, m31, m32⟩ := HS9.out.f (w.heap.size, 3, .slice (some ad) l c) (by simp)
          obtain ⟨r00, r01, r02⟩ := HS9.out.f (w.heap.size + 1, 0, .int .i64 0) (by simp)
          obtain ⟨_, r11, r12⟩ := HS9.out.f (w.heap.size + 1, 1, .int .i64 0) (by simp)
          obtain ⟨_, r21, r22⟩ := HS9.out.f (w.heap.size + 1, 2, .int .u32 0) (by simp)
          obtain ⟨_, r31, r32⟩ := HS9.out.f (w.heap.size + 1, 3, .slice none 0 0) (by simp)
          repeat (first | go_values | go_skip | go_guarded | go_step)
          have HSF := Lib.hid HS9.out
          have HBE := Lib.hid (fun i (hi : i < l) => show (w2 (w2 (w2 (w2 (w2 (w2 (w2 (w2 (w2 xs Z c1) a4 port) 10 m1) Z c2) 16 (addr / 65536)) 10 m2) Z c3) 18 (addr % 65536)) Z 65535) i = tnB xs l 16 2 addr port i from by
            rw [w2_congr (side_eq3 xs Z a4 16 port (addr / 65536) (addr % 65536) c1 c2 c3 m1 m2 (by omega) (by omega) (by omega) hd i), side_full xs Z a4 16 port (addr / 65536) (addr % 65536) c3 m2 (by omega) (by omega) (by omega) hd i]
            unfold tnB
            rw [HTN.out, HSS.out, HT4.out, HA4.out, HCC.out]
            unfold fullI tn1
            rw [HMM.out, if_pos HZ0.out])
          have HSG := Lib.hid (HSF.out.congr HBE.out)
          obtain ⟨m00, m01, _⟩ := HSG.out.f (w.heap.size, 0, .int .i64 kind) (by simp)
          obtain ⟨_, m11, _⟩ := HSG.out.f (w.heap.size, 1, .int .i64 code) (by simp)
          obtain ⟨_, m21, _⟩ := HSG.out.f (w.heap.size, 2, .int .u32 rest) (by simp)
          obtain ⟨_, m31, m32⟩ := HSG.out.f (w.heap.size, 3, .slice (some ad) l c) (by simp)
          obtain ⟨r00, r01, r02⟩ := HSG.out.f (w.heap.size + 1, 0, .int .i64 0) (by simp)
          obtain ⟨_, r11, r12⟩ := HSG.out.f (w.heap.size + 1, 1, .int .i64 0) (by simp)
          obtain ⟨_, r21, r22⟩ := HSG.out.f (w.heap.size + 1, 2, .int .u32 0) (by simp)
          obtain ⟨_, r31, r32⟩ := HSG.out.f (w.heap.size + 1, 3, .slice none 0 0) (by simp)
          have hgm : w.heap.size ≠ g := by omega
          have hgr : w.heap.size + 1 ≠ g := by omega
          obtain ⟨wz0, wz1, wz2, wz3⟩ := set4_cells (V := (V9).setCell ⟨w.heap.size, 3, none⟩ (.slice (some ⟨g, 0, none⟩) l cap)) (b := w.heap.size + 1) (v0 := .int .i64 kind) (v1 := .int .i64 code) (v2 := .int .u32 rest) (v3 := (.slice (some ⟨g, 0, none⟩) l cap)) (cell_far _ r01 (by omega)) (cell_far _ r11 (by omega)) (cell_far _ r21 (by omega)) (cell_far _ r31 (by omega))
          have hJZ := ((((HSG.out.j.setCell (a := ⟨w.heap.size, 3, none⟩) (Nat.le_refl _) (.slice (some ⟨g, 0, none⟩) l cap)).setCell (a := ⟨w.heap.size + 1, 0, none⟩) (by show w.heap.size ≤ w.heap.size + 1; omega) (.int .i64 kind)).setCell (a := ⟨w.heap.size + 1, 1, none⟩) (by show w.heap.size ≤ w.heap.size + 1; omega) (.int .i64 code)).setCell (a := ⟨w.heap.size + 1, 2, none⟩) (by show w.heap.size ≤ w.heap.size + 1; omega) (.int .u32 rest)).setCell (a := ⟨w.heap.size + 1, 3, none⟩) (by show w.heap.size ≤ w.heap.size + 1; omega) (.slice (some ⟨g, 0, none⟩) l cap)
          have hBZ := bts_far (bts_far (bts_far (bts_far (bts_far HSG.out.b (i := 3) (.slice (some ⟨g, 0, none⟩) l cap) hgm) (i := 0) (.int .i64 kind) hgr) (i := 1) (.int .i64 code) hgr) (i := 2) (.int .u32 rest) hgr) (i := 3) (.slice (some ⟨g, 0, none⟩) l cap) hgr
          have HBZ := Lib.hid hBZ
          have HJZ := Lib.hid hJZ
          clear hBZ hJZ m01 m11 m21 m31 m32 r01 r02 r11 r12 r21 r22 r31 r32
          generalize (((((V9).setCell ⟨w.heap.size, 3, none⟩ (.slice (some ⟨g, 0, none⟩) l cap)).setCell ⟨w.heap.size + 1, 0, none⟩ (.int .i64 kind)).setCell ⟨w.heap.size + 1, 1, none⟩ (.int .i64 code)).setCell ⟨w.heap.size + 1, 2, none⟩ (.int .u32 rest)).setCell ⟨w.heap.size + 1, 3, none⟩ (.slice (some ⟨g, 0, none⟩) l cap) = WZ at wz0 wz1 wz2 wz3 HBZ HJZ ⊢
          refine bodyPost_ret (by simp [results, Try.results14, go_sem, wz0, wz1, wz2, wz3]; try rfl) rfl ?_
          exact ⟨HJZ.out, .inr ⟨HE.out, some ⟨g, 0, none⟩, cap, HBZ.out, rfl⟩⟩
        · have hz1 : (c3 == 0) = false := by simpa using hz
          have HZ0 := Lib.hid hz
          clear hz
          go_upto_region 39 with (first | (go_at_call 34; (with_reducible refine (rpair_k (HS8.out.b.on (by (first | ((repeat (first | with_reducible exact Junk.refl _ | with_reducible exact Junk.app _ _ _ _ _ | with_reducible apply Junk.alloc | with_reducible apply Junk.junk | with_reducible apply Junk.drew | with_reducible apply Junk.drewN)); done) | ((try simp only [World.junk_junk, Array.append_assoc]); (repeat (first | with_reducible exact Junk.refl _ | with_reducible exact Junk.app _ _ _ _ _ | with_reducible exact Junk.app2 _ _ _ _ _ _ | with_reducible exact Junk.app3 _ _ _ _ _ _ _ | with_reducible exact Junk.app4 _ _ _ _ _ _ _ _ | with_reducible exact Junk.app5 _ _ _ _ _ _ _ _ _ | with_reducible apply Junk.alloc | with_reducible apply Junk.junk | with_reducible apply Junk.drew | with_reducible apply Junk.drewN)))))) (Z) _ c3 HCF.out (by omega) (by omega)).mono ?_); rintro e w' ⟨rfl, ⟨osE, dE, rfl⟩⟩))
          have HS9 := Lib.hid (HS8.out.on HK1.out (V' := V8.junk osE dE) ⟨_, _, rfl⟩)
          generalize V8.junk osE dE = V9 at HS9 ⊢
          obtain ⟨m00, m01, _⟩ := HS9.out.f (w.heap.size, 0, .int .i64 kind) (by simp)
          obtain ⟨_, m11, _⟩ := HS9.out.f (w.heap.size, 1, .int .i64 code) (by simp)
          obtain ⟨_, m21, _⟩ := HS9.out.f (w.heap.size, 2, .int .u32 rest) (by simp)
          obtain ⟨_, m31, m32⟩ := HS9.out.f (w.heap.size, 3, .slice (some ad) l c) (by simp)
          obtain ⟨r00, r01, r02⟩ := HS9.out.f (w.heap.size + 1, 0, .int .i64 0) (by simp)
          obtain ⟨_, r11, r12⟩ := HS9.out.f (w.heap.size + 1, 1, .int .i64 0) (by simp)
          obtain ⟨_, r21, r22⟩ := HS9.out.f (w.heap.size + 1, 2, .int .u32 0) (by simp)
          obtain ⟨_, r31, r32⟩ := HS9.out.f (w.heap.size + 1, 3, .slice none 0 0) (by simp)
          repeat (first | go_values | go_skip | go_guarded | go_step)
          have HSF := Lib.hid HS9.out
          have HBE := Lib.hid (fun i (hi : i < l) => show (w2 (w2 (w2 (w2 (w2 (w2 (w2 (w2 xs Z c1) a4 port) 10 m1) Z c2) 16 (addr / 65536)) 10 m2) Z c3) 18 (addr % 65536)) i = tnB xs l 16 2 addr port i from by
            rw [side_eq3 xs Z a4 16 port (addr / 65536) (addr % 65536) c1 c2 c3 m1 m2 (by omega) (by omega) (by omega) hd i]
            unfold tnB
            rw [HTN.out, HSS.out, HT4.out, HA4.out, HCC.out]
            unfold fullI tn1
            rw [HMM.out, if_neg HZ0.out])
          have HSG := Lib.hid (HSF.out.congr HBE.out)
          obtain ⟨m00, m01, _⟩ := HSG.out.f (w.heap.size, 0, .int .i64 kind) (by simp)
          obtain ⟨_, m11, _⟩ := HSG.out.f (w.heap.size, 1, .int .i64 code) (by simp)
          obtain ⟨_, m21, _⟩ := HSG.out.f (w.heap.size, 2, .int .u32 rest) (by simp)
          obtain ⟨_, m31, m32⟩ := HSG.out.f (w.heap.size, 3, .slice (some ad) l c) (by simp)
          obtain ⟨r00, r01, r02⟩ := HSG.out.f (w.heap.size + 1, 0, .int .i64 0) (by simp)
          obtain ⟨_, r11, r12⟩ := HSG.out.f (w.heap.size + 1, 1, .int .i64 0) (by simp)
          obtain ⟨_, r21, r22⟩ := HSG.out.f (w.heap.size + 1, 2, .int .u32 0) (by simp)
          obtain ⟨_, r31, r32⟩ := HSG.out.f (w.heap.size + 1, 3, .slice none 0 0) (by simp)
          have hgm : w.heap.size ≠ g := by omega
          have hgr : w.heap.size + 1 ≠ g := by omega
          obtain ⟨wz0, wz1, wz2, wz3⟩ := set4_cells (V := (V9).setCell ⟨w.heap.size, 3, none⟩ (.slice (some ⟨g, 0, none⟩) l cap)) (b := w.heap.size + 1) (v0 := .int .i64 kind) (v1 := .int .i64 code) (v2 := .int .u32 rest) (v3 := (.slice (some ⟨g, 0, none⟩) l cap)) (cell_far _ r01 (by omega)) (cell_far _ r11 (by omega)) (cell_far _ r21 (by omega)) (cell_far _ r31 (by omega))
          have hJZ := ((((HSG.out.j.setCell (a := ⟨w.heap.size, 3, none⟩) (Nat.le_refl _) (.slice (some ⟨g, 0, none⟩) l cap)).setCell (a := ⟨w.heap.size + 1, 0, none⟩) (by show w.heap.size ≤ w.heap.size + 1; omega) (.int .i64 kind)).setCell (a := ⟨w.heap.size + 1, 1, none⟩) (by show w.heap.size ≤ w.heap.size + 1; omega) (.int .i64 code)).setCell (a := ⟨w.heap.size + 1, 2, none⟩) (by show w.heap.size ≤ w.heap.size + 1; omega) (.int .u32 rest)).setCell (a := ⟨w.heap.size + 1, 3, none⟩) (by show w.heap.size ≤ w.heap.size + 1; omega) (.slice (some ⟨g, 0, none⟩) l cap)
          have hBZ := bts_far (bts_far (bts_far (bts_far (bts_far HSG.out.b (i := 3) (.slice (some ⟨g, 0, none⟩) l cap) hgm) (i := 0) (.int .i64 kind) hgr) (i := 1) (.int .i64 code) hgr) (i := 2) (.int .u32 rest) hgr) (i := 3) (.slice (some ⟨g, 0, none⟩) l cap) hgr
          have HBZ := Lib.hid hBZ
          have HJZ := Lib.hid hJZ
          clear hBZ hJZ m01 m11 m21 m31 m32 r01 r02 r11 r12 r21 r22 r31 r32
          generalize (((((V9).setCell ⟨w.heap.size, 3, none⟩ (.slice (some ⟨g, 0, none⟩) l cap)).setCell ⟨w.heap.size + 1, 0, none⟩ (.int .i64 kind)).setCell ⟨w.heap.size + 1, 1, none⟩ (.int .i64 code)).setCell ⟨w.heap.size + 1, 2, none⟩ (.int .u32 rest)).setCell ⟨w.heap.size + 1, 3, none⟩ (.slice (some ⟨g, 0, none⟩) l cap) = WZ at wz0 wz1 wz2 wz3 HBZ HJZ ⊢
          refine bodyPost_ret (by simp [results, Try.results14, go_sem, wz0, wz1, wz2, wz3]; try rfl) rfl ?_
          exact ⟨HJZ.out, .inr ⟨HE.out, some ⟨g, 0, none⟩, cap, HBZ.out, rfl⟩⟩
end Go.Proofs.Ytnefphinmjeacaa
set_option linter.unusedVariables false
set_option maxRecDepth 100000
set_option linter.unusedSimpArgs false
namespace Go.Proofs.Ytnefphinmjeacaa
open Go.RowKit
set_option maxHeartbeats 4000000 in
theorem rside12_any (kind code rest addr port : Int) (oa : Option Addr) (l c : Nat) (xs : Nat → Int) (w : World) (hl : l ≤ 100000000) (hB : Bts w oa l c xs) (haddr : 0 ≤ addr ∧ addr ≤ 4294967295) :
    Calls Try.prog 14 #[.agg #[.int .i64 kind, .int .i64 code, .int .u32 rest, .slice oa l c], .int .i64 0, .int .u32 addr, .int .i64 port] w (TnM w kind code rest (tnErr kind xs l port) l (tnB xs l 12 0 addr port)) := by
  by_cases h0 : nmErr kind xs l = 0
  case neg =>
    have HB := Lib.hid hB
    obtain ⟨E, hE⟩ : ∃ E, nmErr kind xs l = E := ⟨_, rfl⟩
    have HE := Lib.hid (show tnErr kind xs l port = E by unfold tnErr; rw [if_pos h0]; exact hE)
    have HNM := Lib.hid (fun w1 (hb : Bts w1 oa l c xs) => show Calls Try.prog 12 #[.agg #[.int .i64 kind, .int .i64 code, .int .u32 rest, .slice oa l c]] w1 fun e w' => e = .returned (.tuple #[.agg #[.int .i64 0, .int .u32 0, .int .i64 0, .int .u32 0, .int .i64 0], .int .i64 E]) ∧ Junk w1 w' by rw [← hE]; exact (rnames_any kind code rest oa l c xs w1 hl hb).mono fun e w' hp => hp.bad h0)
    rw [hE] at h0
    have hne : (E != 0) = true := by simpa using h0
    have H0 := Lib.hid h0
    clear hE h0 hB
    go_enter Try.func14, Try.ntmps14
    go_wp2_with (first | (go_at_call 12; (with_reducible refine (HNM.out _ (HB.out.on (by (first | ((repeat (first | with_reducible exact Junk.refl _ | with_reducible exact Junk.app _ _ _ _ _ | with_reducible apply Junk.alloc | with_reducible apply Junk.junk | with_reducible apply Junk.drew | with_reducible apply Junk.drewN)); done) | ((try simp only [World.junk_junk, Array.append_assoc]); (repeat (first | with_reducible exact Junk.refl _ | with_reducible exact Junk.app _ _ _ _ _ | with_reducible exact Junk.app2 _ _ _ _ _ _ | with_reducible exact Junk.app3 _ _ _ _ _ _ _ | with_reducible exact Junk.app4 _ _ _ _ _ _ _ _ | with_reducible exact Junk.app5 _ _ _ _ _ _ _ _ _ | with_reducible apply Junk.alloc | with_reducible apply Junk.junk | with_reducible apply Junk.drew | with_reducible apply Junk.drewN))))))).mono ?_); rintro e w' ⟨rfl, ⟨osN, dN, rfl⟩⟩))
    go_returns
    exact tn_bad HE.out H0.out (by (first | ((repeat (first | with_reducible exact Junk.refl _ | with_reducible exact Junk.app _ _ _ _ _ | with_reducible apply Junk.alloc | with_reducible apply Junk.junk | with_reducible apply Junk.drew | with_reducible apply Junk.drewN)); done) | ((try simp only [World.junk_junk, Array.append_assoc]); (repeat (first | with_reducible exact Junk.refl _ | with_reducible exact Junk.app _ _ _ _ _ | with_reducible exact Junk.app2 _ _ _ _ _ _ | with_reducible exact Junk.app3 _ _ _ _ _ _ _ | with_reducible exact Junk.app4 _ _ _ _ _ _ _ _ | with_reducible exact Junk.app5 _ _ _ _ _ _ _ _ _ | with_reducible apply Junk.alloc | with_reducible apply Junk.junk | with_reducible apply Junk.drew | with_reducible apply Junk.drewN)))))
  by_cases hport : 0 ≤ port ∧ port ≤ 65535
  case neg =>
    have HB := Lib.hid hB
    obtain ⟨⟨tp, ts, sp, td, dp⟩, ht⟩ : ∃ t, nmTup xs l = t := ⟨_, rfl⟩
    have HNM := Lib.hid (fun w1 (hb : Bts w1 oa l c xs) => show Calls Try.prog 12 #[.agg #[.int .i64 kind, .int .i64 code, .int .u32 rest, .slice oa l c]] w1 fun e w' => e = .returned (.tuple #[.agg #[.int .i64 tp, .int .u32 ts, .int .i64 sp, .int .u32 td, .int .i64 dp], .int .i64 0]) ∧ Junk w1 w' by
      refine (rnames_any kind code rest oa l c xs w1 hl hb).mono fun e w' hp => ?_
      have := hp.ok h0
      rw [ht] at this
      exact this)
    have HE := Lib.hid (show tnErr kind xs l port = 1 by unfold tnErr; rw [if_neg (by rw [h0]; decide), if_pos (by omega)])
    clear hB h0 ht
    by_cases hp0 : 0 ≤ port
    · have hp1 : 65535 < port := by omega
      clear hport
      go_enter Try.func14, Try.ntmps14
      go_wp2_with (first | (go_at_call 12; (with_reducible refine (HNM.out _ (HB.out.on (by (first | ((repeat (first | with_reducible exact Junk.refl _ | with_reducible exact Junk.app _ _ _ _ _ | with_reducible apply Junk.alloc | with_reducible apply Junk.junk | with_reducible apply Junk.drew | with_reducible apply Junk.drewN)); done) | ((try simp only [World.junk_junk, Array.append_assoc]); (repeat (first | with_reducible exact Junk.refl _ | with_reducible exact Junk.app _ _ _ _ _ | with_reducible exact Junk.app2 _ _ _ _ _ _ | with_reducible exact Junk.app3 _ _ _ _ _ _ _ | with_reducible exact Junk.app4 _ _ _ _ _ _ _ _ | with_reducible exact Junk.app5 _ _ _ _ _ _ _ _ _ | with_reducible apply Junk.alloc | with_reducible apply Junk.junk | with_reducible apply Junk.drew | with_reducible apply Junk.drewN))))))).mono ?_); rintro e w' ⟨rfl, ⟨osN, dN, rfl⟩⟩))
      go_returns
      exact tn_bad HE.out (by decide) (by (first | ((repeat (first | with_reducible exact Junk.refl _ | with_reducible exact Junk.app _ _ _ _ _ | with_reducible apply Junk.alloc | with_reducible apply Junk.junk | with_reducible apply Junk.drew | with_reducible apply Junk.drewN)); done) | ((try simp only [World.junk_junk, Array.append_assoc]); (repeat (first | with_reducible exact Junk.refl _ | with_reducible exact Junk.app _ _ _ _ _ | with_reducible exact Junk.app2 _ _ _ _ _ _ | with_reducible exact Junk.app3 _ _ _ _ _ _ _ | with_reducible exact Junk.app4 _ _ _ _ _ _ _ _ | with_reducible exact Junk.app5 _ _ _ _ _ _ _ _ _ | with_reducible apply Junk.alloc | with_reducible apply Junk.junk | with_reducible apply Junk.drew | with_reducible apply Junk.drewN)))))
    · have hp1 : port < 0 := by omega
      clear hport hp0
      go_enter Try.func14, Try.ntmps14
      go_wp2_with (first | (go_at_call 12; (with_reducible refine (HNM.out _ (HB.out.on (by (first | ((repeat (first | with_reducible exact Junk.refl _ | with_reducible exact Junk.app _ _ _ _ _ | with_reducible apply Junk.alloc | with_reducible apply Junk.junk | with_reducible apply Junk.drew | with_reducible apply Junk.drewN)); done) | ((try simp only [World.junk_junk, Array.append_assoc]); (repeat (first | with_reducible exact Junk.refl _ | with_reducible exact Junk.app _ _ _ _ _ | with_reducible exact Junk.app2 _ _ _ _ _ _ | with_reducible exact Junk.app3 _ _ _ _ _ _ _ | with_reducible exact Junk.app4 _ _ _ _ _ _ _ _ | with_reducible exact Junk.app5 _ _ _ _ _ _ _ _ _ | with_reducible apply Junk.alloc | with_reducible apply Junk.junk | with_reducible apply Junk.drew | with_reducible apply Junk.drewN))))))).mono ?_); rintro e w' ⟨rfl, ⟨osN, dN, rfl⟩⟩))
      go_returns
      exact tn_bad HE.out (by decide) (by (first | ((repeat (first | with_reducible exact Junk.refl _ | with_reducible exact Junk.app _ _ _ _ _ | with_reducible apply Junk.alloc | with_reducible apply Junk.junk | with_reducible apply Junk.drew | with_reducible apply Junk.drewN)); done) | ((try simp only [World.junk_junk, Array.append_assoc]); (repeat (first | with_reducible exact Junk.refl _ | with_reducible exact Junk.app _ _ _ _ _ | with_reducible exact Junk.app2 _ _ _ _ _ _ | with_reducible exact Junk.app3 _ _ _ _ _ _ _ | with_reducible exact Junk.app4 _ _ _ _ _ _ _ _ | with_reducible exact Junk.app5 _ _ _ _ _ _ _ _ _ | with_reducible apply Junk.alloc | with_reducible apply Junk.junk | with_reducible apply Junk.drew | with_reducible apply Junk.drewN)))))
  exact rside12_ok kind code rest addr port oa l c xs w hl hB haddr h0 hport
set_option maxHeartbeats 4000000 in
theorem rside16_any (kind code rest addr port : Int) (oa : Option Addr) (l c : Nat) (xs : Nat → Int) (w : World) (hl : l ≤ 100000000) (hB : Bts w oa l c xs) (haddr : 0 ≤ addr ∧ addr ≤ 4294967295) :
    Calls Try.prog 14 #[.agg #[.int .i64 kind, .int .i64 code, .int .u32 rest, .slice oa l c], .int .i64 1, .int .u32 addr, .int .i64 port] w (TnM w kind code rest (tnErr kind xs l port) l (tnB xs l 16 2 addr port)) := by
  by_cases h0 : nmErr kind xs l = 0
  case neg =>
    have HB := Lib.hid hB
    obtain ⟨E, hE⟩ : ∃ E, nmErr kind xs l = E := ⟨_, rfl⟩
    have HE := Lib.hid (show tnErr kind xs l port = E by unfold tnErr; rw [if_pos h0]; exact hE)
    have HNM := Lib.hid (fun w1 (hb : Bts w1 oa l c xs) => show Calls Try.prog 12 #[.agg #[.int .i64 kind, .int .i64 code, .int .u32 rest, .slice oa l c]] w1 fun e w' => e = .returned (.tuple #[.agg #[.int .i64 0, .int .u32 0, .int .i64 0, .int .u32 0, .int .i64 0], .int .i64 E]) ∧ Junk w1 w' by rw [← hE]; exact (rnames_any kind code rest oa l c xs w1 hl hb).mono fun e w' hp => hp.bad h0)
    rw [hE] at h0
    have hne : (E != 0) = true := by simpa using h0
    have H0 := Lib.hid h0
    clear hE h0 hB
    go_enter Try.func14, Try.ntmps14
    go_wp2_with (first | (go_at_call 12; (with_reducible refine (HNM.out _ (HB.out.on (by (first | ((repeat (first | with_reducible exact Junk.refl _ | with_reducible exact Junk.app _ _ _ _ _ | with_reducible apply Junk.alloc | with_reducible apply Junk.junk | with_reducible apply Junk.drew | with_reducible apply Junk.drewN)); done) | ((try simp only [World.junk_junk, Array.append_assoc]); (repeat (first | with_reducible exact Junk.refl _ | with_reducible exact Junk.app _ _ _ _ _ | with_reducible exact Junk.app2 _ _ _ _ _ _ | with_reducible exact Junk.app3 _ _ _ _ _ _ _ | with_reducible exact Junk.app4 _ _ _ _ _ _ _ _ | with_reducible exact Junk.app5 _ _ _ _ _ _ _ _ _ | with_reducible apply Junk.alloc | with_reducible apply Junk.junk | with_reducible apply Junk.drew | with_reducible apply Junk.drewN))))))).mono ?_); rintro e w' ⟨rfl, ⟨osN, dN, rfl⟩⟩))
    go_returns
    exact tn_bad HE.out H0.out (by (first | ((repeat (first | with_reducible exact Junk.refl _ | with_reducible exact Junk.app _ _ _ _ _ | with_reducible apply Junk.alloc | with_reducible apply Junk.junk | with_reducible apply Junk.drew | with_reducible apply Junk.drewN)); done) | ((try simp only [World.junk_junk, Array.append_assoc]); (repeat (first | with_reducible exact Junk.refl _ | with_reducible exact Junk.app _ _ _ _ _ | with_reducible exact Junk.app2 _ _ _ _ _ _ | with_reducible exact Junk.app3 _ _ _ _ _ _ _ | with_reducible exact Junk.app4 _ _ _ _ _ _ _ _ | with_reducible exact Junk.app5 _ _ _ _ _ _ _ _ _ | with_reducible apply Junk.alloc | with_reducible apply Junk.junk | with_reducible apply Junk.drew | with_reducible apply Junk.drewN)))))
  by_cases hport : 0 ≤ port ∧ port ≤ 65535
  case neg =>
    have HB := Lib.hid hB
    obtain ⟨⟨tp, ts, sp, td, dp⟩, ht⟩ : ∃ t, nmTup xs l = t := ⟨_, rfl⟩
    have HNM := Lib.hid (fun w1 (hb : Bts w1 oa l c xs) => show Calls Try.prog 12 #[.agg #[.int .i64 kind, .int .i64 code, .int .u32 rest, .slice oa l c]] w1 fun e w' => e = .returned (.tuple #[.agg #[.int .i64 tp, .int .u32 ts, .int .i64 sp, .int .u32 td, .int .i64 dp], .int .i64 0]) ∧ Junk w1 w' by
      refine (rnames_any kind code rest oa l c xs w1 hl hb).mono fun e w' hp => ?_
      have := hp.ok h0
      rw [ht] at this
      exact this)
    have HE := Lib.hid (show tnErr kind xs l port = 1 by unfold tnErr; rw [if_neg (by rw [h0]; decide), if_pos (by omega)])
    clear hB h0 ht
    by_cases hp0 : 0 ≤ port
    · have hp1 : 65535 < port := by omega
      clear hport
      go_enter Try.func14, Try.ntmps14
      go_wp2_with (first | (go_at_call 12; (with_reducible refine (HNM.out _ (HB.out.on (by (first | ((repeat (first | with_reducible exact Junk.refl _ | with_reducible exact Junk.app _ _ _ _ _ | with_reducible apply Junk.alloc | with_reducible apply Junk.junk | with_reducible apply Junk.drew | with_reducible apply Junk.drewN)); done) | ((try simp only [World.junk_junk, Array.append_assoc]); (repeat (first | with_reducible exact Junk.refl _ | with_reducible exact Junk.app _ _ _ _ _ | with_reducible exact Junk.app2 _ _ _ _ _ _ | with_reducible exact Junk.app3 _ _ _ _ _ _ _ | with_reducible exact Junk.app4 _ _ _ _ _ _ _ _ | with_reducible exact Junk.app5 _ _ _ _ _ _ _ _ _ | with_reducible apply Junk.alloc | with_reducible apply Junk.junk | with_reducible apply Junk.drew | with_reducible apply Junk.drewN))))))).mono ?_); rintro e w' ⟨rfl, ⟨osN, dN, rfl⟩⟩))
      go_returns
      exact tn_bad HE.out (by decide) (by (first | ((repeat (first | with_reducible exact Junk.refl _ | with_reducible exact Junk.app _ _ _ _ _ | with_reducible apply Junk.alloc | with_reducible apply Junk.junk | with_reducible apply Junk.drew | with_reducible apply Junk.drewN)); done) | ((try simp only [World.junk_junk, Array.append_assoc]); (repeat (first | with_reducible exact Junk.refl _ | with_reducible exact Junk.app _ _ _ _ _ | with_reducible exact Junk.app2 _ _ _ _ _ _ | with_reducible exact Junk.app3 _ _ _ _ _ _ _ | with_reducible exact Junk.app4 _ _ _ _ _ _ _ _ | with_reducible exact Junk.app5 _ _ _ _ _ _ _ _ _ | with_reducible apply Junk.alloc | with_reducible apply Junk.junk | with_reducible apply Junk.drew | with_reducible apply Junk.drewN)))))
    · have hp1 : port < 0 := by omega
      clear hport hp0
      go_enter Try.func14, Try.ntmps14
      go_wp2_with (first | (go_at_call 12; (with_reducible refine (HNM.out _ (HB.out.on (by (first | ((repeat (first | with_reducible exact Junk.refl _ | with_reducible exact Junk.app _ _ _ _ _ | with_reducible apply Junk.alloc | with_reducible apply Junk.junk | with_reducible apply Junk.drew | with_reducible apply Junk.drewN)); done) | ((try simp only [World.junk_junk, Array.append_assoc]); (repeat (first | with_reducible exact Junk.refl _ | with_reducible exact Junk.app _ _ _ _ _ | with_reducible exact Junk.app2 _ _ _ _ _ _ | with_reducible exact Junk.app3 _ _ _ _ _ _ _ | with_reducible exact Junk.app4 _ _ _ _ _ _ _ _ | with_reducible exact Junk.app5 _ _ _ _ _ _ _ _ _ | with_reducible apply Junk.alloc | with_reducible apply Junk.junk | with_reducible apply Junk.drew | with_reducible apply Junk.drewN))))))).mono ?_); rintro e w' ⟨rfl, ⟨osN, dN, rfl⟩⟩))
      go_returns
      exact tn_bad HE.out (by decide) (by (first | ((repeat (first | with_reducible exact Junk.refl _ | with_reducible exact Junk.app _ _ _ _ _ | with_reducible apply Junk.alloc | with_reducible apply Junk.junk | with_reducible apply Junk.drew | with_reducible apply Junk.drewN)); done) | ((try simp only [World.junk_junk, Array.append_assoc]); (repeat (first | with_reducible exact Junk.refl _ | with_reducible exact Junk.app _ _ _ _ _ | with_reducible exact Junk.app2 _ _ _ _ _ _ | with_reducible exact Junk.app3 _ _ _ _ _ _ _ | with_reducible exact Junk.app4 _ _ _ _ _ _ _ _ | with_reducible exact Junk.app5 _ _ _ _ _ _ _ _ _ | with_reducible apply Junk.alloc | with_reducible apply Junk.junk | with_reducible apply Junk.drew | with_reducible apply Junk.drewN)))))
  exact rside16_ok kind code rest addr port oa l c xs w hl hB haddr h0 hport
theorem nmErr_bd (kind : Int) (xs : Nat → Int) (l : Nat) : 0 ≤ nmErr kind xs l ∧ nmErr kind xs l ≤ 100 := by
  unfold nmErr aboutErr wholeErr
  repeat' split
  all_goals omega
theorem tnErr_bd (kind : Int) (xs : Nat → Int) (l : Nat) (port : Int) : 0 ≤ tnErr kind xs l port ∧ tnErr kind xs l port ≤ 100 := by
  have := nmErr_bd kind xs l
  unfold tnErr
  repeat' split
  all_goals omega
end Go.Proofs.Ytnefphinmjeacaa
set_option linter.unusedVariables false
set_option maxRecDepth 100000
set_option linter.unusedSimpArgs false
namespace Go.Proofs.Ytnefphinmjeacaa
open Go.RowKit
theorem xmr_nb (a b c : Int) (o : Option Addr) (l n : Nat) : ∀ (i : Nat) (v : Int), (#[.int .i64 a, .int .i64 b, .int .u32 c, .slice o l n] : Array Value)[i]? ≠ some (.int .u8 v) := by
  intro i v h
  rcases i with _ | _ | _ | _ | i <;> simp at h
theorem bts_over_nb2 {V : World} {cur cur' : Array Value} {t : TypeId} {os os2 : Array Obj} {o2 : Obj} {d d2 : Nat} {oa : Option Addr} {l c : Nat} {xs : Nat → Int}
    (h : Bts ((((V.alloc (.cells cur t)).junk os d).alloc o2).junk os2 d2) oa l c xs) (hn : ∀ (i : Nat) (v : Int), cur[i]? ≠ some (.int .u8 v)) : Bts ((((V.alloc (.cells cur' t)).junk os d).alloc o2).junk os2 d2) oa l c xs := by
  refine ⟨fun i hi => ?_, h.byte, h.nil, h.le, h.cap⟩
  obtain ⟨b, off, he, hlt, hc⟩ := h.at_ i hi
  by_cases hb : b = V.heap.size
  · subst hb
    have e1 : (⟨V.heap.size, off + i, none⟩ : Addr).block ≠ ((V.alloc (.cells cur t)).junk os d).heap.size := by simp; omega
    rw [World.cell?_junk _ _ _ _ _ (by simp; omega), World.cell?_alloc_old (h := e1), World.cell?_junk _ _ _ _ _ (by simp), World.cell?_alloc_new] at hc
    exact absurd hc (hn _ _)
  · refine ⟨b, off, he, by simpa using hlt, ?_⟩
    rw [← hc]
    apply World.cell?_of_block
    simp only [World.junk, World.alloc]
    simp [Array.getElem?_append, Array.getElem?_push, hb]
theorem msame_self (t c r : Int) (xs : Nat → Int) (l : Nat) : msame t c r t c r xs xs l l = true := by simp [msame, sameN]
set_option maxHeartbeats 4000000 in
theorem errorRight_walk (kind code rest addr port : Int) (oa : Option Addr) (l c : Nat) (xs : Nat → Int) (w : World) (hB : Bts w oa l c xs) (haddr : 0 ≤ addr ∧ addr ≤ 4294967295) : Calls Try.prog 3 #[.agg #[.int .i64 kind, .int .i64 code, .int .u32 rest, .slice oa l c], .int .u32 addr, .int .i64 port] w fun e w' => e = .returned (.bool true) ∧ Junk w w' := by
  have HB := Lib.hid hB
  by_cases hl : l ≤ 3000
  case neg =>
    have hl1 : (3000 : Int) < (l : Int) := by omega
    clear hl hB
    go_enter Try.func3, Try.ntmps3
    go_wp2_with (first | (go_at_call 10; refine (awake26_any _).mono ?_; rintro e w' ⟨rfl, ⟨osj, dj, rfl⟩⟩))
    all_goals (go_ret; exact ⟨ret_bool rfl, by (first | ((repeat (first | with_reducible exact Junk.refl _ | with_reducible exact Junk.app _ _ _ _ _ | with_reducible apply Junk.alloc | with_reducible apply Junk.junk | with_reducible apply Junk.drew | with_reducible apply Junk.drewN)); done) | ((try simp only [World.junk_junk, Array.append_assoc]); (repeat (first | with_reducible exact Junk.refl _ | with_reducible exact Junk.app _ _ _ _ _ | with_reducible exact Junk.app2 _ _ _ _ _ _ | with_reducible exact Junk.app3 _ _ _ _ _ _ _ | with_reducible exact Junk.app4 _ _ _ _ _ _ _ _ | with_reducible exact Junk.app5 _ _ _ _ _ _ _ _ _ | with_reducible apply Junk.alloc | with_reducible apply Junk.junk | with_reducible apply Junk.drew | with_reducible apply Junk.drewN))))⟩)
  have hl1 : ¬ (3000 : Int) < (l : Int) := by omega
  have hl8 : l ≤ 100000000 := by omega
  obtain ⟨E, hE⟩ : ∃ E, nmErr kind xs l = E := ⟨_, rfl⟩
  obtain ⟨⟨tp, ts, sp, td, dp⟩, hT⟩ : ∃ t, (if E = 0 then nmTup xs l else ⟨0, 0, 0, 0, 0⟩) = t := ⟨_, rfl⟩
  have hEb := nmErr_bd kind xs l
  rw [hE] at hEb
  have hEw := wrapk_i64 E (by omega) (by omega)
  have HN := Lib.hid (fun w1 (hb : Bts w1 oa l c xs) => show Calls Try.prog 11 #[.agg #[.int .i64 kind, .int .i64 code, .int .u32 rest, .slice oa l c]] w1 fun e w' => e = .returned (.tuple #[.agg #[.int .i64 tp, .int .u32 ts, .int .i64 sp, .int .u32 td, .int .i64 dp], .int .i64 E]) ∧ Junk w1 w' by
    refine (names_any kind code rest oa l c xs w1 hl8 hb).mono fun e w' hp => ?_
    unfold NmM at hp
    rw [hE, hT] at hp
    exact hp)
  have HRN := Lib.hid (fun w1 (hb : Bts w1 oa l c xs) => show Calls Try.prog 12 #[.agg #[.int .i64 kind, .int .i64 code, .int .u32 rest, .slice oa l c]] w1 fun e w' => e = .returned (.tuple #[.agg #[.int .i64 tp, .int .u32 ts, .int .i64 sp, .int .u32 td, .int .i64 dp], .int .i64 E]) ∧ Junk w1 w' by
    refine (rnames_any kind code rest oa l c xs w1 hl8 hb).mono fun e w' hp => ?_
    unfold NmM at hp
    rw [hE, hT] at hp
    exact hp)
  have hg := tupq_guard
  have hq : ∀ w, (binOp .neq 28 (.agg #[.int .i64 tp, .int .u32 ts, .int .i64 sp, .int .u32 td, .int .i64 dp]) (.agg #[.int .i64 tp, .int .u32 ts, .int .i64 sp, .int .u32 td, .int .i64 dp])).run Try.prog w = .ok (.bool false) w := fun w => by have := tupq_neq ⟨tp, ts, sp, td, dp⟩ ⟨tp, ts, sp, td, dp⟩ w; rw [decide_eq_true rfl] at this; exact this
  by_cases h0 : tnErr kind xs l port = 0
  · have HS := Lib.hid (fun w1 (hb : Bts w1 oa l c xs) => (src_any kind code rest addr port oa l c xs w1 hl8 hb haddr).mono fun e w' h => h.ok h0)
    have HD := Lib.hid (fun w1 (hb : Bts w1 oa l c xs) => (dst_any kind code rest addr port oa l c xs w1 hl8 hb haddr).mono fun e w' h => h.ok h0)
    have HR0 := Lib.hid (fun w1 (hb : Bts w1 oa l c xs) => (rside12_any kind code rest addr port oa l c xs w1 hl8 hb haddr).mono fun e w' h => h.ok h0)
    have HR1 := Lib.hid (fun w1 (hb : Bts w1 oa l c xs) => (rside16_any kind code rest addr port oa l c xs w1 hl8 hb haddr).mono fun e w' h => h.ok h0)
    have HZ0 := Lib.hid (fun oa ob ca cb w1 (hI : Bts w1 oa l ca (tnB xs l 12 0 addr port)) (hJ : Bts w1 ob l cb (tnB xs l 12 0 addr port)) => show Calls Try.prog 15 #[.agg #[.int .i64 kind, .int .i64 code, .int .u32 rest, .slice oa l ca], .agg #[.int .i64 kind, .int .i64 code, .int .u32 rest, .slice ob l cb]] w1 fun e w' => e = .returned (.bool true) ∧ Junk w1 w' by
      have := rmsame_any kind code rest kind code rest oa ob l ca l cb _ _ w1 hl8 hl8 hI hJ
      rw [msame_self] at this
      exact this)
    have HZ1 := Lib.hid (fun oa ob ca cb w1 (hI : Bts w1 oa l ca (tnB xs l 16 2 addr port)) (hJ : Bts w1 ob l cb (tnB xs l 16 2 addr port)) => show Calls Try.prog 15 #[.agg #[.int .i64 kind, .int .i64 code, .int .u32 rest, .slice oa l ca], .agg #[.int .i64 kind, .int .i64 code, .int .u32 rest, .slice ob l cb]] w1 fun e w' => e = .returned (.bool true) ∧ Junk w1 w' by
      have := rmsame_any kind code rest kind code rest oa ob l ca l cb _ _ w1 hl8 hl8 hI hJ
      rw [msame_self] at this
      exact this)
    clear h0 hE hT hB hl
    go_enter Try.func3, Try.ntmps3
    go_wp2_with (first | (go_at_call 10; refine (awake26_any _).mono ?_; rintro e w' ⟨rfl, ⟨osj, dj, rfl⟩⟩) | (go_at_call 11; (with_reducible refine (HN.out _ (HB.out.on (by (first | ((repeat (first | with_reducible exact Junk.refl _ | with_reducible exact Junk.app _ _ _ _ _ | with_reducible apply Junk.alloc | with_reducible apply Junk.junk | with_reducible apply Junk.drew | with_reducible apply Junk.drewN)); done) | ((try simp only [World.junk_junk, Array.append_assoc]); (repeat (first | with_reducible exact Junk.refl _ | with_reducible exact Junk.app _ _ _ _ _ | with_reducible exact Junk.app2 _ _ _ _ _ _ | with_reducible exact Junk.app3 _ _ _ _ _ _ _ | with_reducible exact Junk.app4 _ _ _ _ _ _ _ _ | with_reducible exact Junk.app5 _ _ _ _ _ _ _ _ _ | with_reducible apply Junk.alloc | with_reducible apply Junk.junk | with_reducible apply Junk.drew | with_reducible apply Junk.drewN))))))).mono ?_); rintro e w' ⟨rfl, ⟨osj, dj, rfl⟩⟩) | (go_at_call 12; (with_reducible refine (HRN.out _ (HB.out.on (by (first | ((repeat (first | with_reducible exact Junk.refl _ | with_reducible exact Junk.app _ _ _ _ _ | with_reducible apply Junk.alloc | with_reducible apply Junk.junk | with_reducible apply Junk.drew | with_reducible apply Junk.drewN)); done) | ((try simp only [World.junk_junk, Array.append_assoc]); (repeat (first | with_reducible exact Junk.refl _ | with_reducible exact Junk.app _ _ _ _ _ | with_reducible exact Junk.app2 _ _ _ _ _ _ | with_reducible exact Junk.app3 _ _ _ _ _ _ _ | with_reducible exact Junk.app4 _ _ _ _ _ _ _ _ | with_reducible exact Junk.app5 _ _ _ _ _ _ _ _ _ | with_reducible apply Junk.alloc | with_reducible apply Junk.junk | with_reducible apply Junk.drew | with_reducible apply Junk.drewN))))))).mono ?_); rintro e w' ⟨rfl, ⟨osj, dj, rfl⟩⟩) | (go_at_call 13; (with_reducible refine (HS.out _ (HB.out.on (by (first | ((repeat (first | with_reducible exact Junk.refl _ | with_reducible exact Junk.app _ _ _ _ _ | with_reducible apply Junk.alloc | with_reducible apply Junk.junk | with_reducible apply Junk.drew | with_reducible apply Junk.drewN)); done) | ((try simp only [World.junk_junk, Array.append_assoc]); (repeat (first | with_reducible exact Junk.refl _ | with_reducible exact Junk.app _ _ _ _ _ | with_reducible exact Junk.app2 _ _ _ _ _ _ | with_reducible exact Junk.app3 _ _ _ _ _ _ _ | with_reducible exact Junk.app4 _ _ _ _ _ _ _ _ | with_reducible exact Junk.app5 _ _ _ _ _ _ _ _ _ | with_reducible apply Junk.alloc | with_reducible apply Junk.junk | with_reducible apply Junk.drew | with_reducible apply Junk.drewN))))))).mono ?_); rintro e w' ⟨⟨os1, d1, rfl⟩, o1, c1, hb1, rfl⟩; have Hb1 := Lib.hid hb1; clear hb1) | (go_at_call 16; (with_reducible refine (HD.out _ (HB.out.on (by (first | ((repeat (first | with_reducible exact Junk.refl _ | with_reducible exact Junk.app _ _ _ _ _ | with_reducible apply Junk.alloc | with_reducible apply Junk.junk | with_reducible apply Junk.drew | with_reducible apply Junk.drewN)); done) | ((try simp only [World.junk_junk, Array.append_assoc]); (repeat (first | with_reducible exact Junk.refl _ | with_reducible exact Junk.app _ _ _ _ _ | with_reducible exact Junk.app2 _ _ _ _ _ _ | with_reducible exact Junk.app3 _ _ _ _ _ _ _ | with_reducible exact Junk.app4 _ _ _ _ _ _ _ _ | with_reducible exact Junk.app5 _ _ _ _ _ _ _ _ _ | with_reducible apply Junk.alloc | with_reducible apply Junk.junk | with_reducible apply Junk.drew | with_reducible apply Junk.drewN))))))).mono ?_); rintro e w' ⟨⟨os3, d3, rfl⟩, o3, c3, hb3, rfl⟩; (try simp only [World.junk_junk] at hb3); have Hb3 := Lib.hid hb3; clear hb3) | (go_at_call 14; (with_reducible refine (HR0.out _ (HB.out.on (by (first | ((repeat (first | with_reducible exact Junk.refl _ | with_reducible exact Junk.app _ _ _ _ _ | with_reducible apply Junk.alloc | with_reducible apply Junk.junk | with_reducible apply Junk.drew | with_reducible apply Junk.drewN)); done) | ((try simp only [World.junk_junk, Array.append_assoc]); (repeat (first | with_reducible exact Junk.refl _ | with_reducible exact Junk.app _ _ _ _ _ | with_reducible exact Junk.app2 _ _ _ _ _ _ | with_reducible exact Junk.app3 _ _ _ _ _ _ _ | with_reducible exact Junk.app4 _ _ _ _ _ _ _ _ | with_reducible exact Junk.app5 _ _ _ _ _ _ _ _ _ | with_reducible apply Junk.alloc | with_reducible apply Junk.junk | with_reducible apply Junk.drew | with_reducible apply Junk.drewN))))))).mono ?_); rintro e w' ⟨⟨os2, d2, rfl⟩, o2, c2, hb2, rfl⟩; have Hb2 := Lib.hid hb2; clear hb2) | (go_at_call 14; (with_reducible refine (HR1.out _ (HB.out.on (by (first | ((repeat (first | with_reducible exact Junk.refl _ | with_reducible exact Junk.app _ _ _ _ _ | with_reducible apply Junk.alloc | with_reducible apply Junk.junk | with_reducible apply Junk.drew | with_reducible apply Junk.drewN)); done) | ((try simp only [World.junk_junk, Array.append_assoc]); (repeat (first | with_reducible exact Junk.refl _ | with_reducible exact Junk.app _ _ _ _ _ | with_reducible exact Junk.app2 _ _ _ _ _ _ | with_reducible exact Junk.app3 _ _ _ _ _ _ _ | with_reducible exact Junk.app4 _ _ _ _ _ _ _ _ | with_reducible exact Junk.app5 _ _ _ _ _ _ _ _ _ | with_reducible apply Junk.alloc | with_reducible apply Junk.junk | with_reducible apply Junk.drew | with_reducible apply Junk.drewN))))))).mono ?_); rintro e w' ⟨⟨os4, d4, rfl⟩, o4, c4, hb4, rfl⟩; (try simp only [World.junk_junk] at hb4); have Hb4 := Lib.hid hb4; clear hb4) | (go_at_call 15; (with_reducible refine (HZ1.out o3 o4 c3 c4 _ ((bts_over_nb (cur' := #[.int .i64 kind, .int .i64 code, .int .u32 rest, .slice o4 l c4]) (bts_over_nb2 (cur' := #[.int .i64 kind, .int .i64 code, .int .u32 rest, .slice o3 l c3]) Hb3.out (xmr_nb _ _ _ _ _ _)) (xmr_nb _ _ _ _ _ _)).on (by (first | ((repeat (first | with_reducible exact Junk.refl _ | with_reducible exact Junk.app _ _ _ _ _ | with_reducible apply Junk.alloc | with_reducible apply Junk.junk | with_reducible apply Junk.drew | with_reducible apply Junk.drewN)); done) | ((try simp only [World.junk_junk, Array.append_assoc]); (repeat (first | with_reducible exact Junk.refl _ | with_reducible exact Junk.app _ _ _ _ _ | with_reducible exact Junk.app2 _ _ _ _ _ _ | with_reducible exact Junk.app3 _ _ _ _ _ _ _ | with_reducible exact Junk.app4 _ _ _ _ _ _ _ _ | with_reducible exact Junk.app5 _ _ _ _ _ _ _ _ _ | with_reducible apply Junk.alloc | with_reducible apply Junk.junk | with_reducible apply Junk.drew | with_reducible apply Junk.drewN)))))) ((bts_over_nb (cur' := #[.int .i64 kind, .int .i64 code, .int .u32 rest, .slice o4 l c4]) Hb4.out (xmr_nb _ _ _ _ _ _)).on (by (first | ((repeat (first | with_reducible exact Junk.refl _ | with_reducible exact Junk.app _ _ _ _ _ | with_reducible apply Junk.alloc | with_reducible apply Junk.junk | with_reducible apply Junk.drew | with_reducible apply Junk.drewN)); done) | ((try simp only [World.junk_junk, Array.append_assoc]); (repeat (first | with_reducible exact Junk.refl _ | with_reducible exact Junk.app _ _ _ _ _ | with_reducible exact Junk.app2 _ _ _ _ _ _ | with_reducible exact Junk.app3 _ _ _ _ _ _ _ | with_reducible exact Junk.app4 _ _ _ _ _ _ _ _ | with_reducible exact Junk.app5 _ _ _ _ _ _ _ _ _ | with_reducible apply Junk.alloc | with_reducible apply Junk.junk | with_reducible apply Junk.drew | with_reducible apply Junk.drewN))))))).mono ?_); rintro e w' ⟨rfl, ⟨osj, dj, rfl⟩⟩) | (go_at_call 15; (with_reducible refine (HZ0.out o1 o2 c1 c2 _ (Hb1.out.on (by (first | ((repeat (first | with_reducible exact Junk.refl _ | with_reducible exact Junk.app _ _ _ _ _ | with_reducible apply Junk.alloc | with_reducible apply Junk.junk | with_reducible apply Junk.drew | with_reducible apply Junk.drewN)); done) | ((try simp only [World.junk_junk, Array.append_assoc]); (repeat (first | with_reducible exact Junk.refl _ | with_reducible exact Junk.app _ _ _ _ _ | with_reducible exact Junk.app2 _ _ _ _ _ _ | with_reducible exact Junk.app3 _ _ _ _ _ _ _ | with_reducible exact Junk.app4 _ _ _ _ _ _ _ _ | with_reducible exact Junk.app5 _ _ _ _ _ _ _ _ _ | with_reducible apply Junk.alloc | with_reducible apply Junk.junk | with_reducible apply Junk.drew | with_reducible apply Junk.drewN)))))) (Hb2.out.on (by (first | ((repeat (first | with_reducible exact Junk.refl _ | with_reducible exact Junk.app _ _ _ _ _ | with_reducible apply Junk.alloc | with_reducible apply Junk.junk | with_reducible apply Junk.drew | with_reducible apply Junk.drewN)); done) | ((try simp only [World.junk_junk, Array.append_assoc]); (repeat (first | with_reducible exact Junk.refl _ | with_reducible exact Junk.app _ _ _ _ _ | with_reducible exact Junk.app2 _ _ _ _ _ _ | with_reducible exact Junk.app3 _ _ _ _ _ _ _ | with_reducible exact Junk.app4 _ _ _ _ _ _ _ _ | with_reducible exact Junk.app5 _ _ _ _ _ _ _ _ _ | with_reducible apply Junk.alloc | with_reducible apply Junk.junk | with_reducible apply Junk.drew | with_reducible apply Junk.drewN))))))).mono ?_); rintro e w' ⟨rfl, ⟨osj, dj, rfl⟩⟩))
    all_goals (go_ret; exact ⟨ret_bool rfl, by (first | ((repeat (first | with_reducible exact Junk.refl _ | with_reducible exact Junk.app _ _ _ _ _ | with_reducible apply Junk.alloc | with_reducible apply Junk.junk | with_reducible apply Junk.drew | with_reducible apply Junk.drewN)); done) | ((try simp only [World.junk_junk, Array.append_assoc]); (repeat (first | with_reducible exact Junk.refl _ | with_reducible exact Junk.app _ _ _ _ _ | with_reducible exact Junk.app2 _ _ _ _ _ _ | with_reducible exact Junk.app3 _ _ _ _ _ _ _ | with_reducible exact Junk.app4 _ _ _ _ _ _ _ _ | with_reducible exact Junk.app5 _ _ _ _ _ _ _ _ _ | with_reducible apply Junk.alloc | with_reducible apply Junk.junk | with_reducible apply Junk.drew | with_reducible apply Junk.drewN))))⟩)
  · obtain ⟨F, hF⟩ : ∃ F, tnErr kind xs l port = F := ⟨_, rfl⟩
    have hFb := tnErr_bd kind xs l port
    rw [hF] at hFb
    have hFw := wrapk_i64 F (by omega) (by omega)
    have HS := Lib.hid (fun w1 (hb : Bts w1 oa l c xs) => show Calls Try.prog 13 #[.agg #[.int .i64 kind, .int .i64 code, .int .u32 rest, .slice oa l c], .int .u32 addr, .int .i64 port] w1 fun e w' => Junk w1 w' ∧ e = .returned (.tuple #[.agg #[.int .i64 0, .int .i64 0, .int .u32 0, .slice none 0 0], .int .i64 F]) by rw [← hF]; exact (src_any kind code rest addr port oa l c xs w1 hl8 hb haddr).mono fun e w' h => h.bad h0)
    have HD := Lib.hid (fun w1 (hb : Bts w1 oa l c xs) => show Calls Try.prog 16 #[.agg #[.int .i64 kind, .int .i64 code, .int .u32 rest, .slice oa l c], .int .u32 addr, .int .i64 port] w1 fun e w' => Junk w1 w' ∧ e = .returned (.tuple #[.agg #[.int .i64 0, .int .i64 0, .int .u32 0, .slice none 0 0], .int .i64 F]) by rw [← hF]; exact (dst_any kind code rest addr port oa l c xs w1 hl8 hb haddr).mono fun e w' h => h.bad h0)
    have HR0 := Lib.hid (fun w1 (hb : Bts w1 oa l c xs) => show Calls Try.prog 14 #[.agg #[.int .i64 kind, .int .i64 code, .int .u32 rest, .slice oa l c], .int .i64 0, .int .u32 addr, .int .i64 port] w1 fun e w' => Junk w1 w' ∧ e = .returned (.tuple #[.agg #[.int .i64 0, .int .i64 0, .int .u32 0, .slice none 0 0], .int .i64 F]) by rw [← hF]; exact (rside12_any kind code rest addr port oa l c xs w1 hl8 hb haddr).mono fun e w' h => h.bad h0)
    have HR1 := Lib.hid (fun w1 (hb : Bts w1 oa l c xs) => show Calls Try.prog 14 #[.agg #[.int .i64 kind, .int .i64 code, .int .u32 rest, .slice oa l c], .int .i64 1, .int .u32 addr, .int .i64 port] w1 fun e w' => Junk w1 w' ∧ e = .returned (.tuple #[.agg #[.int .i64 0, .int .i64 0, .int .u32 0, .slice none 0 0], .int .i64 F]) by rw [← hF]; exact (rside16_any kind code rest addr port oa l c xs w1 hl8 hb haddr).mono fun e w' h => h.bad h0)
    have HZZ := Lib.hid (fun w1 => show Calls Try.prog 15 #[.agg #[.int .i64 0, .int .i64 0, .int .u32 0, .slice none 0 0], .agg #[.int .i64 0, .int .i64 0, .int .u32 0, .slice none 0 0]] w1 fun e w' => e = .returned (.bool true) ∧ Junk w1 w' by
      have := rmsame_any 0 0 0 0 0 0 none none 0 0 0 0 (fun _ => 0) (fun _ => 0) w1 (by omega) (by omega) (bts_none _ _) (bts_none _ _)
      rw [msame_self] at this
      exact this)
    clear h0 hE hT hF hB hl
    go_enter Try.func3, Try.ntmps3
    go_wp2_with (first | (go_at_call 10; refine (awake26_any _).mono ?_; rintro e w' ⟨rfl, ⟨osj, dj, rfl⟩⟩) | (go_at_call 11; (with_reducible refine (HN.out _ (HB.out.on (by (first | ((repeat (first | with_reducible exact Junk.refl _ | with_reducible exact Junk.app _ _ _ _ _ | with_reducible apply Junk.alloc | with_reducible apply Junk.junk | with_reducible apply Junk.drew | with_reducible apply Junk.drewN)); done) | ((try simp only [World.junk_junk, Array.append_assoc]); (repeat (first | with_reducible exact Junk.refl _ | with_reducible exact Junk.app _ _ _ _ _ | with_reducible exact Junk.app2 _ _ _ _ _ _ | with_reducible exact Junk.app3 _ _ _ _ _ _ _ | with_reducible exact Junk.app4 _ _ _ _ _ _ _ _ | with_reducible exact Junk.app5 _ _ _ _ _ _ _ _ _ | with_reducible apply Junk.alloc | with_reducible apply Junk.junk | with_reducible apply Junk.drew | with_reducible apply Junk.drewN))))))).mono ?_); rintro e w' ⟨rfl, ⟨osj, dj, rfl⟩⟩) | (go_at_call 12; (with_reducible refine (HRN.out _ (HB.out.on (by (first | ((repeat (first | with_reducible exact Junk.refl _ | with_reducible exact Junk.app _ _ _ _ _ | with_reducible apply Junk.alloc | with_reducible apply Junk.junk | with_reducible apply Junk.drew | with_reducible apply Junk.drewN)); done) | ((try simp only [World.junk_junk, Array.append_assoc]); (repeat (first | with_reducible exact Junk.refl _ | with_reducible exact Junk.app _ _ _ _ _ | with_reducible exact Junk.app2 _ _ _ _ _ _ | with_reducible exact Junk.app3 _ _ _ _ _ _ _ | with_reducible exact Junk.app4 _ _ _ _ _ _ _ _ | with_reducible exact Junk.app5 _ _ _ _ _ _ _ _ _ | with_reducible apply Junk.alloc | with_reducible apply Junk.junk | with_reducible apply Junk.drew | with_reducible apply Junk.drewN))))))).mono ?_); rintro e w' ⟨rfl, ⟨osj, dj, rfl⟩⟩) | (go_at_call 13; (with_reducible refine (HS.out _ (HB.out.on (by (first | ((repeat (first | with_reducible exact Junk.refl _ | with_reducible exact Junk.app _ _ _ _ _ | with_reducible apply Junk.alloc | with_reducible apply Junk.junk | with_reducible apply Junk.drew | with_reducible apply Junk.drewN)); done) | ((try simp only [World.junk_junk, Array.append_assoc]); (repeat (first | with_reducible exact Junk.refl _ | with_reducible exact Junk.app _ _ _ _ _ | with_reducible exact Junk.app2 _ _ _ _ _ _ | with_reducible exact Junk.app3 _ _ _ _ _ _ _ | with_reducible exact Junk.app4 _ _ _ _ _ _ _ _ | with_reducible exact Junk.app5 _ _ _ _ _ _ _ _ _ | with_reducible apply Junk.alloc | with_reducible apply Junk.junk | with_reducible apply Junk.drew | with_reducible apply Junk.drewN))))))).mono ?_); rintro e w' ⟨⟨os1, d1, rfl⟩, rfl⟩) | (go_at_call 16; (with_reducible refine (HD.out _ (HB.out.on (by (first | ((repeat (first | with_reducible exact Junk.refl _ | with_reducible exact Junk.app _ _ _ _ _ | with_reducible apply Junk.alloc | with_reducible apply Junk.junk | with_reducible apply Junk.drew | with_reducible apply Junk.drewN)); done) | ((try simp only [World.junk_junk, Array.append_assoc]); (repeat (first | with_reducible exact Junk.refl _ | with_reducible exact Junk.app _ _ _ _ _ | with_reducible exact Junk.app2 _ _ _ _ _ _ | with_reducible exact Junk.app3 _ _ _ _ _ _ _ | with_reducible exact Junk.app4 _ _ _ _ _ _ _ _ | with_reducible exact Junk.app5 _ _ _ _ _ _ _ _ _ | with_reducible apply Junk.alloc | with_reducible apply Junk.junk | with_reducible apply Junk.drew | with_reducible apply Junk.drewN))))))).mono ?_); rintro e w' ⟨⟨os2, d2, rfl⟩, rfl⟩) | (go_at_call 14; (with_reducible refine (HR0.out _ (HB.out.on (by (first | ((repeat (first | with_reducible exact Junk.refl _ | with_reducible exact Junk.app _ _ _ _ _ | with_reducible apply Junk.alloc | with_reducible apply Junk.junk | with_reducible apply Junk.drew | with_reducible apply Junk.drewN)); done) | ((try simp only [World.junk_junk, Array.append_assoc]); (repeat (first | with_reducible exact Junk.refl _ | with_reducible exact Junk.app _ _ _ _ _ | with_reducible exact Junk.app2 _ _ _ _ _ _ | with_reducible exact Junk.app3 _ _ _ _ _ _ _ | with_reducible exact Junk.app4 _ _ _ _ _ _ _ _ | with_reducible exact Junk.app5 _ _ _ _ _ _ _ _ _ | with_reducible apply Junk.alloc | with_reducible apply Junk.junk | with_reducible apply Junk.drew | with_reducible apply Junk.drewN))))))).mono ?_); rintro e w' ⟨⟨os3, d3, rfl⟩, rfl⟩) | (go_at_call 14; (with_reducible refine (HR1.out _ (HB.out.on (by (first | ((repeat (first | with_reducible exact Junk.refl _ | with_reducible exact Junk.app _ _ _ _ _ | with_reducible apply Junk.alloc | with_reducible apply Junk.junk | with_reducible apply Junk.drew | with_reducible apply Junk.drewN)); done) | ((try simp only [World.junk_junk, Array.append_assoc]); (repeat (first | with_reducible exact Junk.refl _ | with_reducible exact Junk.app _ _ _ _ _ | with_reducible exact Junk.app2 _ _ _ _ _ _ | with_reducible exact Junk.app3 _ _ _ _ _ _ _ | with_reducible exact Junk.app4 _ _ _ _ _ _ _ _ | with_reducible exact Junk.app5 _ _ _ _ _ _ _ _ _ | with_reducible apply Junk.alloc | with_reducible apply Junk.junk | with_reducible apply Junk.drew | with_reducible apply Junk.drewN))))))).mono ?_); rintro e w' ⟨⟨os4, d4, rfl⟩, rfl⟩) | (go_at_call 15; (with_reducible refine (HZZ.out _).mono ?_); rintro e w' ⟨rfl, ⟨osj, dj, rfl⟩⟩))
    all_goals (go_ret; exact ⟨ret_bool rfl, by (first | ((repeat (first | with_reducible exact Junk.refl _ | with_reducible exact Junk.app _ _ _ _ _ | with_reducible apply Junk.alloc | with_reducible apply Junk.junk | with_reducible apply Junk.drew | with_reducible apply Junk.drewN)); done) | ((try simp only [World.junk_junk, Array.append_assoc]); (repeat (first | with_reducible exact Junk.refl _ | with_reducible exact Junk.app _ _ _ _ _ | with_reducible exact Junk.app2 _ _ _ _ _ _ | with_reducible exact Junk.app3 _ _ _ _ _ _ _ | with_reducible exact Junk.app4 _ _ _ _ _ _ _ _ | with_reducible exact Junk.app5 _ _ _ _ _ _ _ _ _ | with_reducible apply Junk.alloc | with_reducible apply Junk.junk | with_reducible apply Junk.drew | with_reducible apply Junk.drewN))))⟩)

theorem errorRight_core (W : World) (base : Nat) (v0 v1 v2 : Value) (a0 : Arg Try.prog W base 25 v0) (a1 : Arg Try.prog W base 22 v1) (a2 : Arg Try.prog W base 3 v2) :
    Calls Try.prog 3 #[v0, v1, v2] W fun e W' => e = .returned (.bool true) ∧ Junk W W' := by
  obtain ⟨cs_m, rfl, h_m⟩ := a0.struct Try.underlying25
  obtain ⟨hl_m, hf_m⟩ := h_m.fields1 Try.underlying25 (by kernel_rfl) (n := 4) (by kernel_rfl)
  obtain ⟨m_Type, lm0, e_m0⟩ : ∃ x l, cs_m = x :: l := by cases cs_m with | nil => simp at hl_m | cons x l => exact ⟨x, l, rfl⟩
  subst e_m0
  obtain ⟨m_Code, lm1, e_m1⟩ : ∃ x l, lm0 = x :: l := by cases lm0 with | nil => simp at hl_m | cons x l => exact ⟨x, l, rfl⟩
  subst e_m1
  obtain ⟨m_Rest, lm2, e_m2⟩ : ∃ x l, lm1 = x :: l := by cases lm1 with | nil => simp at hl_m | cons x l => exact ⟨x, l, rfl⟩
  subst e_m2
  obtain ⟨m_Body, lm3, e_m3⟩ : ∃ x l, lm2 = x :: l := by cases lm2 with | nil => simp at hl_m | cons x l => exact ⟨x, l, rfl⟩
  subst e_m3
  obtain rfl : lm3 = [] := by simpa using hl_m
  have f_m0 : Cells Try.prog W 3 [m_Type] := hf_m 0 _ rfl
  have f_m1 : Cells Try.prog W 3 [m_Code] := hf_m 1 _ rfl
  have f_m2 : Cells Try.prog W 22 [m_Rest] := hf_m 2 _ rfl
  have f_m3 : Cells Try.prog W 23 [m_Body] := hf_m 3 _ rfl
  clear hf_m hl_m
  obtain ⟨m_Type, e_m_Type, w_m_Type⟩ := f_m0.int Try.underlying3; cases e_m_Type
  obtain ⟨m_Code, e_m_Code, w_m_Code⟩ := f_m1.int Try.underlying3; cases e_m_Code
  obtain ⟨m_Rest, e_m_Rest, w_m_Rest⟩ := f_m2.int Try.underlying22; cases e_m_Rest
  obtain ⟨m_Body_a, m_Body_l, m_Body_c, m_Body, e_m_Body, lc_m_Body, cm_m_Body, S_m_Body, w_m_Body⟩ := f_m3.ints Try.underlying23 Try.underlying5 (by kernel_rfl); cases e_m_Body
  obtain ⟨addr, rfl, w_addr⟩ := a1.int Try.underlying22
  obtain ⟨port, rfl, w_port⟩ := a2.int Try.underlying3
  have hlm : maxLen = 9223372036854775807 := rfl
  exact errorRight_walk m_Type m_Code m_Rest addr port m_Body_a m_Body_l m_Body_c m_Body W ⟨S_m_Body, fun i hi => bounds_u8 (w_m_Body i hi), Cells.nil_slice Try.underlying23 f_m3, lc_m_Body, cm_m_Body⟩ (bounds_u32 w_addr)
set_option maxRecDepth 100000 in
theorem errorRight_lifted (os : Os) (started : os.Started) (H : Type) (enc : TypeId × Value → H) :
    ReturnsInHanded {} Try.checked os 3 .any (Rows.errorRightSpec.pre6 enc Try.prog Try.f3 Rows.errorRightRow.domain false) (Rows.errorRightSpec.post enc Try.prog Try.f3 false true false false) := by
  refine returnsInHanded_of_change (C := Try.checked) (by kernel_rfl) started (by kernel_rfl) Try.func3
    (ChangeSpec.witness6 (enc := enc) (C := Try.checked) false ⟨#[], #[.agg #[.int .i64 0, .int .i64 0, .int .u32 0, .slice none 0 0], .int .u32 0, .int .i64 0], []⟩ 8 (by kernel_rfl) (by kernel_rfl) (by kernel_rfl) (by kernel_rfl)) ?_
  intro W base args ds gs before hval hW _ _
  obtain ⟨p, q, hA, _, _, _, _⟩ := id hW
  have hargs : Args Try.prog W base Try.f3.params.toList args.toList := args_of (fun j t v h1 h2 => hval j t v (by simpa using h1) (by simpa using h2)) hA
  rw [Try.params3] at hargs
  obtain ⟨v0, l0, e0, a0, r0⟩ := args_cons hargs
  obtain ⟨v1, l1, e1, a1, r1⟩ := args_cons r0
  obtain ⟨v2, l2, e2, a2, r2⟩ := args_cons r1
  have hn := args_nil r2
  have he : args = #[v0, v1, v2] := by
    apply Array.ext'
    simp only [e0, e1, e2, hn]
  subst he
  exact (errorRight_core W base v0 v1 v2 a0 a1 a2).mono fun e W' ⟨he, hj⟩ => ⟨_, he, post_true (tb := 4) (by kernel_rfl) (by kernel_rfl) rfl (by kernel_rfl) rfl hW (fun hg hl => by
    subst hg
    match ds, hl with
    | [_, _, _], _ => exact ⟨rfl, rfl, rfl⟩) hj⟩
theorem errorRight_holds : Rows.ErrorRightSaid :=
  OpenClaim.holds_of_wide 3 Try.f3 rfl rfl rfl rfl rfl rfl rfl ⟨rfl, rfl, rfl, rfl, rfl⟩ rfl rfl rfl rfl rfl (by kernel_rfl) Try.func3 (by kernel_rfl)
    (of_decide_eq_true (by kernel_rfl)) (by unfold Func.isWrapper; rw [if_neg (of_decide_eq_false (by kernel_rfl))]; exact ⟨rfl, rfl⟩)
    (fun os started H enc _ => errorRight_lifted os started H enc)

end Go.Proofs.Ytnefphinmjeacaa
