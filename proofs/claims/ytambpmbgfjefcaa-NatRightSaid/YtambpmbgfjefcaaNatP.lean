/- The reference of layer 17: Ask. -/
import Derived.Test.YtambpmbgfjefcaaNatM
import Derived.Test.YtambpmbgfjefcaaNatG
set_option linter.unusedVariables false
set_option maxRecDepth 100000
set_option linter.unusedSimpArgs false
namespace Go.Proofs.Ytambpmbgfjefcaa
open Go.RowKit
set_option maxHeartbeats 4000000 in
theorem rask_bad (lo hi : Int) (oa : Option Addr) (l c : Nat) (L : List Ln) (x : Ln) (D : Nat) (w : World) (hl : l ≤ 1000000) (hL : L.length = l) (hS : LsAt w oa L) (hn : oa = none → l = 0 ∧ c = 0) (hb : (natRight lo hi L && namedB x) = false) :
    Calls Try.prog 21 #[.slice oa l c, .int .i64 lo, .int .i64 hi, x.val, .int .u32 (D : Int)] w (AskM w (askP lo hi L x D)) := by
  have HR := Lib.hid (show askP lo hi L x D = (L, 0, 1) by unfold askP; rw [if_pos hb])
  rw [HR.out]
  have HS := Lib.hid hS
  have HL := Lib.hid hL
  have HN := Lib.hid hn
  have HB := Lib.hid (show (lnsL L).length = l * 5 by rw [lnsL_len, hL])
  have RT := Lib.hid (fun w1 h1 => rrightL_any lo hi oa l c L w1 hl hL h1)
  have GD := Lib.hid (fun w1 => rgood_any x w1)
  generalize natRight lo hi L = R1 at hb RT
  generalize namedB x = R2 at hb GD
  obtain ⟨xp, xi, xn, xo, xt⟩ := x
  clear hS hL hn
  cases R1 with
  | false =>
    go_enter Try.func21, Try.ntmps21
    go_wp2_with (first
      | (at_builtin; (refine ap_own (W0 := (w.alloc (.cells #[.int .i64 xp, .int .u32 xi, .int .i64 xn, .int .i64 xo, .int .i64 xt] 39))) rfl _ _ 37 rfl 39 (.agg #[.int .i64 0, .int .u32 0, .int .i64 0, .int .i64 0, .int .i64 0]) 5 40 (by kernel_rfl) rfl (by decide) Try.underlying37 (by ((try simp only [World.junk_junk, Array.append_assoc]); (repeat (first | with_reducible exact Junk.refl _ | with_reducible exact Junk.app _ _ _ _ _ | with_reducible exact Junk.app2 _ _ _ _ _ _ | with_reducible exact Junk.app3 _ _ _ _ _ _ _ | with_reducible exact Junk.app4 _ _ _ _ _ _ _ _ | with_reducible exact Junk.app5 _ _ _ _ _ _ _ _ _ | with_reducible apply Junk.alloc | with_reducible apply Junk.junk | with_reducible apply Junk.drew | with_reducible apply Junk.drewN)))) _ 0 0 [] rfl (own_mk _ _ 5 0 _ _ (by simp) (by simp) (by decide) (by simp)) oa l c rfl (lnsL L) HB.out (LsAt.src (HS.out.on (by ((try simp only [World.junk_junk, Array.append_assoc]); (repeat (first | with_reducible exact Junk.refl _ | with_reducible exact Junk.app _ _ _ _ _ | with_reducible exact Junk.app2 _ _ _ _ _ _ | with_reducible exact Junk.app3 _ _ _ _ _ _ _ | with_reducible exact Junk.app4 _ _ _ _ _ _ _ _ | with_reducible exact Junk.app5 _ _ _ _ _ _ _ _ _ | with_reducible apply Junk.alloc | with_reducible apply Junk.junk | with_reducible apply Junk.drew | with_reducible apply Junk.drewN)))))) HN.out (lnsL_one' L) (by simp only [maxLen]; omega) (by omega) ?_; intro ob cap osj dj hown _; rw [List.nil_append, Nat.zero_add] at hown; have Hown := Lib.hid hown; clear hown))
      | (go_at_call 22; refine (RT.out _ (HS.out.on (by ((try simp only [World.junk_junk, Array.append_assoc]); (repeat (first | with_reducible exact Junk.refl _ | with_reducible exact Junk.app _ _ _ _ _ | with_reducible exact Junk.app2 _ _ _ _ _ _ | with_reducible exact Junk.app3 _ _ _ _ _ _ _ | with_reducible exact Junk.app4 _ _ _ _ _ _ _ _ | with_reducible exact Junk.app5 _ _ _ _ _ _ _ _ _ | with_reducible apply Junk.alloc | with_reducible apply Junk.junk | with_reducible apply Junk.drew | with_reducible apply Junk.drewN)))))).mono ?_; rintro e w' ⟨rfl, ⟨osr, dr, rfl⟩⟩)
      | (go_at_call 41; refine (GD.out _).mono ?_; rintro e w' ⟨rfl, ⟨osn, dn, rfl⟩⟩))
    go_returns
    exact ⟨ob, cap, by rw [HL.out]; rfl, by ((try simp only [World.junk_junk, Array.append_assoc]); (repeat (first | with_reducible exact Junk.refl _ | with_reducible exact Junk.app _ _ _ _ _ | with_reducible exact Junk.app2 _ _ _ _ _ _ | with_reducible exact Junk.app3 _ _ _ _ _ _ _ | with_reducible exact Junk.app4 _ _ _ _ _ _ _ _ | with_reducible exact Junk.app5 _ _ _ _ _ _ _ _ _ | with_reducible apply Junk.alloc | with_reducible apply Junk.junk | with_reducible apply Junk.drew | with_reducible apply Junk.drewN))), by show Own _ _ _ _ _ _ L.length (lnsL L); rw [HL.out]; exact (Hown.out.on (by ((try simp only [World.junk_junk, Array.append_assoc]); (repeat (first | with_reducible exact Junk.refl _ | with_reducible exact Junk.app _ _ _ _ _ | with_reducible exact Junk.app2 _ _ _ _ _ _ | with_reducible exact Junk.app3 _ _ _ _ _ _ _ | with_reducible exact Junk.app4 _ _ _ _ _ _ _ _ | with_reducible exact Junk.app5 _ _ _ _ _ _ _ _ _ | with_reducible apply Junk.alloc | with_reducible apply Junk.junk | with_reducible apply Junk.drew | with_reducible apply Junk.drewN))))).lower (by simp), by show L.length ≤ cap; rw [HL.out]; exact Hown.out.capLe.1⟩
  | true =>
    cases hb
    go_enter Try.func21, Try.ntmps21
    go_wp2_with (first
      | (at_builtin; (refine ap_own (W0 := (w.alloc (.cells #[.int .i64 xp, .int .u32 xi, .int .i64 xn, .int .i64 xo, .int .i64 xt] 39))) rfl _ _ 37 rfl 39 (.agg #[.int .i64 0, .int .u32 0, .int .i64 0, .int .i64 0, .int .i64 0]) 5 40 (by kernel_rfl) rfl (by decide) Try.underlying37 (by ((try simp only [World.junk_junk, Array.append_assoc]); (repeat (first | with_reducible exact Junk.refl _ | with_reducible exact Junk.app _ _ _ _ _ | with_reducible exact Junk.app2 _ _ _ _ _ _ | with_reducible exact Junk.app3 _ _ _ _ _ _ _ | with_reducible exact Junk.app4 _ _ _ _ _ _ _ _ | with_reducible exact Junk.app5 _ _ _ _ _ _ _ _ _ | with_reducible apply Junk.alloc | with_reducible apply Junk.junk | with_reducible apply Junk.drew | with_reducible apply Junk.drewN)))) _ 0 0 [] rfl (own_mk _ _ 5 0 _ _ (by simp) (by simp) (by decide) (by simp)) oa l c rfl (lnsL L) HB.out (LsAt.src (HS.out.on (by ((try simp only [World.junk_junk, Array.append_assoc]); (repeat (first | with_reducible exact Junk.refl _ | with_reducible exact Junk.app _ _ _ _ _ | with_reducible exact Junk.app2 _ _ _ _ _ _ | with_reducible exact Junk.app3 _ _ _ _ _ _ _ | with_reducible exact Junk.app4 _ _ _ _ _ _ _ _ | with_reducible exact Junk.app5 _ _ _ _ _ _ _ _ _ | with_reducible apply Junk.alloc | with_reducible apply Junk.junk | with_reducible apply Junk.drew | with_reducible apply Junk.drewN)))))) HN.out (lnsL_one' L) (by simp only [maxLen]; omega) (by omega) ?_; intro ob cap osj dj hown _; rw [List.nil_append, Nat.zero_add] at hown; have Hown := Lib.hid hown; clear hown))
      | (go_at_call 22; refine (RT.out _ (HS.out.on (by ((try simp only [World.junk_junk, Array.append_assoc]); (repeat (first | with_reducible exact Junk.refl _ | with_reducible exact Junk.app _ _ _ _ _ | with_reducible exact Junk.app2 _ _ _ _ _ _ | with_reducible exact Junk.app3 _ _ _ _ _ _ _ | with_reducible exact Junk.app4 _ _ _ _ _ _ _ _ | with_reducible exact Junk.app5 _ _ _ _ _ _ _ _ _ | with_reducible apply Junk.alloc | with_reducible apply Junk.junk | with_reducible apply Junk.drew | with_reducible apply Junk.drewN)))))).mono ?_; rintro e w' ⟨rfl, ⟨osr, dr, rfl⟩⟩)
      | (go_at_call 41; refine (GD.out _).mono ?_; rintro e w' ⟨rfl, ⟨osn, dn, rfl⟩⟩))
    go_returns
    exact ⟨ob, cap, by rw [HL.out]; rfl, by ((try simp only [World.junk_junk, Array.append_assoc]); (repeat (first | with_reducible exact Junk.refl _ | with_reducible exact Junk.app _ _ _ _ _ | with_reducible exact Junk.app2 _ _ _ _ _ _ | with_reducible exact Junk.app3 _ _ _ _ _ _ _ | with_reducible exact Junk.app4 _ _ _ _ _ _ _ _ | with_reducible exact Junk.app5 _ _ _ _ _ _ _ _ _ | with_reducible apply Junk.alloc | with_reducible apply Junk.junk | with_reducible apply Junk.drew | with_reducible apply Junk.drewN))), by show Own _ _ _ _ _ _ L.length (lnsL L); rw [HL.out]; exact (Hown.out.on (by ((try simp only [World.junk_junk, Array.append_assoc]); (repeat (first | with_reducible exact Junk.refl _ | with_reducible exact Junk.app _ _ _ _ _ | with_reducible exact Junk.app2 _ _ _ _ _ _ | with_reducible exact Junk.app3 _ _ _ _ _ _ _ | with_reducible exact Junk.app4 _ _ _ _ _ _ _ _ | with_reducible exact Junk.app5 _ _ _ _ _ _ _ _ _ | with_reducible apply Junk.alloc | with_reducible apply Junk.junk | with_reducible apply Junk.drew | with_reducible apply Junk.drewN))))).lower (by simp), by show L.length ≤ cap; rw [HL.out]; exact Hown.out.capLe.1⟩
theorem later_same {t : Int} {y : Ln} (h : ¬ y.till < t) : later t y = y := by
  unfold later
  rw [if_neg h]
theorem set_same {α : Type} {L : List α} {k : Nat} {y : α} (h : L[k]? = some y) : L.set k y = L := by
  apply List.ext_getElem?
  intro i
  rw [List.getElem?_set]
  by_cases hk : k = i
  · subst hk
    rw [if_pos rfl, if_pos (List.getElem?_eq_some_iff.1 h).1, h]
  · rw [if_neg hk]
set_option maxHeartbeats 8000000 in
theorem rask_ok (a b : Nat) (oa : Option Addr) (l c : Nat) (L : List Ln) (x : Ln) (D : Nat) (w : World) (hl : l ≤ 1000000) (hL : L.length = l) (hS : LsAt w oa L) (hn : oa = none → l = 0 ∧ c = 0) (hr : rightB a b = true) (h1 : natRight a b L = true) (h2 : namedB x = true) (hD : D < 4294967296) :
    Calls Try.prog 21 #[.slice oa l c, .int .i64 (a : Int), .int .i64 (b : Int), x.val, .int .u32 (D : Int)] w (AskM w (askP a b L x D)) := by
  obtain ⟨RR, hRR⟩ : ∃ RR, RR = askP a b L x D := ⟨_, rfl⟩
  have hOld : ∀ k y, L.findIdx? (innerB x) = some k → L[k]? = some y → RR = (L.set k (later x.till y), y.port, 0) := fun k y hf hy => by rw [hRR]; unfold askP; rw [if_neg (by simp [h1, h2]), hf]; simp only [hy]
  obtain ⟨n, hnn⟩ : ∃ n, n = (takenL L x.proto).length := ⟨_, rfl⟩
  have hn9 : n ≤ 1000000 := by rw [hnn]; exact Nat.le_trans (takenL_le _ _) (by omega)
  obtain ⟨R1, hR1⟩ : ∃ R1, R1 = (poolChoose a b (fun i => (takenL L x.proto)[i]?.getD 0) n x.inport D).1 := ⟨_, rfl⟩
  obtain ⟨R2, hR2⟩ : ∃ R2, R2 = (poolChoose a b (fun i => (takenL L x.proto)[i]?.getD 0) n x.inport D).2 := ⟨_, rfl⟩
  have hNew : L.findIdx? (innerB x) = none → RR = if R2 then (L ++ [{ x with port := R1 }], R1, 0) else (L, 0, 8) := fun hf => by rw [hRR]; unfold askP; rw [if_neg (by simp [h1, h2]), hf]; simp only; rw [← hnn, ← hR1, ← hR2]
  have chs : ∀ w1 ob cap, IntsAt w1 ob n .i64 (fun i => (takenL L x.proto)[i]?.getD 0) → Calls Try.prog 13 #[.int .i64 (a : Int), .int .i64 (b : Int), .slice ob n cap, .int .i64 x.inport, .int .u32 (D : Int)] w1 fun e w' => e = .returned (.tuple #[.int .i64 R1, .bool R2]) ∧ Junk w1 w' := fun w1 ob cap h => by
    rw [hR1, hR2]
    exact rchoose_any a b ob n cap _ x.inport D w1 hr (by omega) hD h
  rw [← hRR]
  have HS := Lib.hid hS
  have HL := Lib.hid hL
  have HN := Lib.hid hn
  have HB := Lib.hid (show (lnsL L).length = l * 5 by rw [lnsL_len, hL])
  have rt := (fun w1 h1 => rrightL_any a b oa l c L w1 hl hL h1)
  have gd := (fun w1 => rgood_any x w1)
  rw [h1] at rt
  rw [h2] at gd
  have RT := Lib.hid rt
  have GD := Lib.hid gd
  have CH := Lib.hid chs
  have HOLD := Lib.hid hOld
  have HNEW := Lib.hid hNew
  have HNN := Lib.hid hnn
  obtain ⟨xp, xi, xn, xo, xt⟩ := x
  clear hS hL hn rt gd h1 h2 chs hOld hNew hR1 hR2 hnn hRR
  go_enter Try.func21, Try.ntmps21
  go_wp2_with (first
    | (at_builtin; (refine ap_own (W0 := (w.alloc (.cells #[.int .i64 xp, .int .u32 xi, .int .i64 xn, .int .i64 xo, .int .i64 xt] 39))) rfl _ _ 37 rfl 39 (.agg #[.int .i64 0, .int .u32 0, .int .i64 0, .int .i64 0, .int .i64 0]) 5 40 (by kernel_rfl) rfl (by decide) Try.underlying37 (by ((try simp only [World.junk_junk, Array.append_assoc]); (repeat (first | with_reducible exact Junk.refl _ | with_reducible exact Junk.app _ _ _ _ _ | with_reducible exact Junk.app2 _ _ _ _ _ _ | with_reducible exact Junk.app3 _ _ _ _ _ _ _ | with_reducible exact Junk.app4 _ _ _ _ _ _ _ _ | with_reducible exact Junk.app5 _ _ _ _ _ _ _ _ _ | with_reducible apply Junk.alloc | with_reducible apply Junk.junk | with_reducible apply Junk.drew | with_reducible apply Junk.drewN)))) _ 0 0 [] rfl (own_mk _ _ 5 0 _ _ (by simp) (by simp) (by decide) (by simp)) oa l c rfl (lnsL L) HB.out (LsAt.src (HS.out.on (by ((try simp only [World.junk_junk, Array.append_assoc]); (repeat (first | with_reducible exact Junk.refl _ | with_reducible exact Junk.app _ _ _ _ _ | with_reducible exact Junk.app2 _ _ _ _ _ _ | with_reducible exact Junk.app3 _ _ _ _ _ _ _ | with_reducible exact Junk.app4 _ _ _ _ _ _ _ _ | with_reducible exact Junk.app5 _ _ _ _ _ _ _ _ _ | with_reducible apply Junk.alloc | with_reducible apply Junk.junk | with_reducible apply Junk.drew | with_reducible apply Junk.drewN)))))) HN.out (lnsL_one' L) (by simp only [maxLen]; omega) (by omega) ?_; intro ob cap osj dj hown _; rw [List.nil_append, Nat.zero_add] at hown; have Hown := Lib.hid hown; clear hown))
    | (go_at_call 22; refine (RT.out _ (HS.out.on (by ((try simp only [World.junk_junk, Array.append_assoc]); (repeat (first | with_reducible exact Junk.refl _ | with_reducible exact Junk.app _ _ _ _ _ | with_reducible exact Junk.app2 _ _ _ _ _ _ | with_reducible exact Junk.app3 _ _ _ _ _ _ _ | with_reducible exact Junk.app4 _ _ _ _ _ _ _ _ | with_reducible exact Junk.app5 _ _ _ _ _ _ _ _ _ | with_reducible apply Junk.alloc | with_reducible apply Junk.junk | with_reducible apply Junk.drew | with_reducible apply Junk.drewN)))))).mono ?_; rintro e w' ⟨rfl, ⟨osr, dr, rfl⟩⟩)
    | (go_at_call 41; refine (GD.out _).mono ?_; rintro e w' ⟨rfl, ⟨osn, dn, rfl⟩⟩))
  have hj : Junk w ((w.alloc (.cells #[.int .i64 xp, .int .u32 xi, .int .i64 xn, .int .i64 xo, .int .i64 xt] 39)).junk (osj ++ (osr ++ osn)) dn) := by ((try simp only [World.junk_junk, Array.append_assoc]); (repeat (first | with_reducible exact Junk.refl _ | with_reducible exact Junk.app _ _ _ _ _ | with_reducible exact Junk.app2 _ _ _ _ _ _ | with_reducible exact Junk.app3 _ _ _ _ _ _ _ | with_reducible exact Junk.app4 _ _ _ _ _ _ _ _ | with_reducible exact Junk.app5 _ _ _ _ _ _ _ _ _ | with_reducible apply Junk.alloc | with_reducible apply Junk.junk | with_reducible apply Junk.drew | with_reducible apply Junk.drewN)))
  have ho : Own (w.heap.size + 1) ((w.alloc (.cells #[.int .i64 xp, .int .u32 xi, .int .i64 xn, .int .i64 xo, .int .i64 xt] 39)).junk (osj ++ (osr ++ osn)) dn) 39 5 ob cap l (lnsL L) := (Hown.out.on (by ((try simp only [World.junk_junk, Array.append_assoc]); (repeat (first | with_reducible exact Junk.refl _ | with_reducible exact Junk.app _ _ _ _ _ | with_reducible exact Junk.app2 _ _ _ _ _ _ | with_reducible exact Junk.app3 _ _ _ _ _ _ _ | with_reducible exact Junk.app4 _ _ _ _ _ _ _ _ | with_reducible exact Junk.app5 _ _ _ _ _ _ _ _ _ | with_reducible apply Junk.alloc | with_reducible apply Junk.junk | with_reducible apply Junk.drew | with_reducible apply Junk.drewN))))).lower (by simp)
  have x0 : ((w.alloc (.cells #[.int .i64 xp, .int .u32 xi, .int .i64 xn, .int .i64 xo, .int .i64 xt] 39)).junk (osj ++ (osr ++ osn)) dn).cell? ⟨w.heap.size, 0, none⟩ = some (.int .i64 xp) := by simp [go_sem]
  have x1 : ((w.alloc (.cells #[.int .i64 xp, .int .u32 xi, .int .i64 xn, .int .i64 xo, .int .i64 xt] 39)).junk (osj ++ (osr ++ osn)) dn).cell? ⟨w.heap.size, 1, none⟩ = some (.int .u32 xi) := by simp [go_sem]
  have x2 : ((w.alloc (.cells #[.int .i64 xp, .int .u32 xi, .int .i64 xn, .int .i64 xo, .int .i64 xt] 39)).junk (osj ++ (osr ++ osn)) dn).cell? ⟨w.heap.size, 2, none⟩ = some (.int .i64 xn) := by simp [go_sem]
  have x3 : ((w.alloc (.cells #[.int .i64 xp, .int .u32 xi, .int .i64 xn, .int .i64 xo, .int .i64 xt] 39)).junk (osj ++ (osr ++ osn)) dn).cell? ⟨w.heap.size, 3, none⟩ = some (.int .i64 xo) := by simp [go_sem]
  have x4 : ((w.alloc (.cells #[.int .i64 xp, .int .u32 xi, .int .i64 xn, .int .i64 xo, .int .i64 xt] 39)).junk (osj ++ (osr ++ osn)) dn).cell? ⟨w.heap.size, 4, none⟩ = some (.int .i64 xt) := by simp [go_sem]
  have hfz := frozen_new w #[.int .i64 xp, .int .u32 xi, .int .i64 xn, .int .i64 xo, .int .i64 xt] 39 (osj ++ (osr ++ osn)) dn 3
  have hsz : w.heap.size < ((w.alloc (.cells #[.int .i64 xp, .int .u32 xi, .int .i64 xn, .int .i64 xo, .int .i64 xt] 39)).junk (osj ++ (osr ++ osn)) dn).heap.size := by simp; omega
  generalize ((w.alloc (.cells #[.int .i64 xp, .int .u32 xi, .int .i64 xn, .int .i64 xo, .int .i64 xt] 39)).junk (osj ++ (osr ++ osn)) dn) = V at hj ho x0 x1 x2 x3 x4 hsz hfz
  have HJ := Lib.hid hj
  have HO := Lib.hid ho
  clear hj ho Hown
  go_loopw [14, 15] (fun v i wr => ∃ (k m : Nat) (M : List Int) (ot : Option Addr) (ct : Nat), v = .slice ot m ct ∧ i = .int .i64 (k : Int) ∧ Junk V wr ∧ Own V.heap.size wr 3 1 ot ct m (intV M) ∧ Hid (M = takenL (L.take k) xp) ∧ Hid (∀ j, j < k → ∀ y, L[j]? = some y → innerB ⟨xp, xi, xn, xo, xt⟩ y = false) ∧ m ≤ k ∧ k ≤ l) (fun _ i _ => l + 1 - (intOf i).toNat)
  case atStart => exact ⟨0, 0, [], none, 0, rfl, rfl, by ((try simp only [World.junk_junk, Array.append_assoc]); (repeat (first | with_reducible exact Junk.refl _ | with_reducible exact Junk.app _ _ _ _ _ | with_reducible exact Junk.app2 _ _ _ _ _ _ | with_reducible exact Junk.app3 _ _ _ _ _ _ _ | with_reducible exact Junk.app4 _ _ _ _ _ _ _ _ | with_reducible exact Junk.app5 _ _ _ _ _ _ _ _ _ | with_reducible apply Junk.alloc | with_reducible apply Junk.junk | with_reducible apply Junk.drew | with_reducible apply Junk.drewN))), Own.nil _ _ _ _, Lib.hid (by simp [takenL]), Lib.hid (fun j hj => by omega), by omega, by omega⟩
  case round =>
    obtain ⟨k, m, M, ot, ct, rfl, rfl, ⟨os, d, rfl⟩, hot, hM, hI, hmk, hk⟩ := hrel
    have Hot := Lib.hid hot
    clear hot
    by_cases hkl : k < l
    case neg =>
      have hk2 : ¬ (k : Int) < (l : Int) := by omega
      obtain rfl : k = l := by omega
      have HM := Lib.hid (show M = takenL L xp by rw [hM.out, ← HL.out, List.take_length])
      obtain rfl : n = m := by rw [HNN.out, ← HM.out]; have := Hot.out.len; simpa [intV] using this
      have HI := Lib.hid (own_intAt Hot.out)
      rw [HM.out] at HI
      have HRR := Lib.hid (HNEW.out (findIdx_no (by rw [HL.out]; exact hI.out)))
      clear HNEW HOLD
      cases R2 with
      | false =>
        have HE := Lib.hid (show RR = (L, 0, 8) from HRR.out)
        go_wp2_with (first | (go_at_call 13; refine (CH.out _ _ _ (HI.out.on (by ((try simp only [World.junk_junk, Array.append_assoc]); (repeat (first | with_reducible exact Junk.refl _ | with_reducible exact Junk.app _ _ _ _ _ | with_reducible exact Junk.app2 _ _ _ _ _ _ | with_reducible exact Junk.app3 _ _ _ _ _ _ _ | with_reducible exact Junk.app4 _ _ _ _ _ _ _ _ | with_reducible exact Junk.app5 _ _ _ _ _ _ _ _ _ | with_reducible apply Junk.alloc | with_reducible apply Junk.junk | with_reducible apply Junk.drew | with_reducible apply Junk.drewN)))))).mono ?_; rintro e w' ⟨rfl, ⟨osj3, dj3, rfl⟩⟩))
        go_returns
        exact ⟨ob, cap, by rw [HE.out, show (L, (0 : Int), (8 : Int)).1.length = k from HL.out]; rfl, HJ.out.trans (by ((try simp only [World.junk_junk, Array.append_assoc]); (repeat (first | with_reducible exact Junk.refl _ | with_reducible exact Junk.app _ _ _ _ _ | with_reducible exact Junk.app2 _ _ _ _ _ _ | with_reducible exact Junk.app3 _ _ _ _ _ _ _ | with_reducible exact Junk.app4 _ _ _ _ _ _ _ _ | with_reducible exact Junk.app5 _ _ _ _ _ _ _ _ _ | with_reducible apply Junk.alloc | with_reducible apply Junk.junk | with_reducible apply Junk.drew | with_reducible apply Junk.drewN)))), by rw [HE.out, show (L, (0 : Int), (8 : Int)).1.length = k from HL.out]; exact (HO.out.on (by ((try simp only [World.junk_junk, Array.append_assoc]); (repeat (first | with_reducible exact Junk.refl _ | with_reducible exact Junk.app _ _ _ _ _ | with_reducible exact Junk.app2 _ _ _ _ _ _ | with_reducible exact Junk.app3 _ _ _ _ _ _ _ | with_reducible exact Junk.app4 _ _ _ _ _ _ _ _ | with_reducible exact Junk.app5 _ _ _ _ _ _ _ _ _ | with_reducible apply Junk.alloc | with_reducible apply Junk.junk | with_reducible apply Junk.drew | with_reducible apply Junk.drewN))))).lower (by omega), by rw [HE.out, show (L, (0 : Int), (8 : Int)).1.length = k from HL.out]; exact HO.out.capLe.1⟩
      | true =>
        have HE := Lib.hid (show RR = (L ++ [⟨xp, xi, xn, R1, xt⟩], R1, 0) from HRR.out)
        have hlen : (L ++ [(⟨xp, xi, xn, R1, xt⟩ : Ln)]).length = k + 1 := by rw [List.length_append, HL.out]; rfl
        go_upto_region 18 with (first | (go_at_call 13; refine (CH.out _ _ _ (HI.out.on (by ((try simp only [World.junk_junk, Array.append_assoc]); (repeat (first | with_reducible exact Junk.refl _ | with_reducible exact Junk.app _ _ _ _ _ | with_reducible exact Junk.app2 _ _ _ _ _ _ | with_reducible exact Junk.app3 _ _ _ _ _ _ _ | with_reducible exact Junk.app4 _ _ _ _ _ _ _ _ | with_reducible exact Junk.app5 _ _ _ _ _ _ _ _ _ | with_reducible apply Junk.alloc | with_reducible apply Junk.junk | with_reducible apply Junk.drew | with_reducible apply Junk.drewN)))))).mono ?_; rintro e w' ⟨rfl, ⟨osj3, dj3, rfl⟩⟩))
        have hj2 : Junk w (V.setCell ⟨w.heap.size, 3, none⟩ (.int .i64 R1)) := HJ.out.setCell (Nat.le_refl _) _
        have ho2 : Own (w.heap.size + 1) (V.setCell ⟨w.heap.size, 3, none⟩ (.int .i64 R1)) 39 5 ob cap k (lnsL L) := own_setBelow HO.out (by simp) _
        have y0 : (V.setCell ⟨w.heap.size, 3, none⟩ (.int .i64 R1)).cell? ⟨w.heap.size, 0, none⟩ = some (.int .i64 xp) := by rw [World.cell?_setCell_other _ _ _ _ (by simp)]; exact x0
        have y1 : (V.setCell ⟨w.heap.size, 3, none⟩ (.int .i64 R1)).cell? ⟨w.heap.size, 1, none⟩ = some (.int .u32 xi) := by rw [World.cell?_setCell_other _ _ _ _ (by simp)]; exact x1
        have y2 : (V.setCell ⟨w.heap.size, 3, none⟩ (.int .i64 R1)).cell? ⟨w.heap.size, 2, none⟩ = some (.int .i64 xn) := by rw [World.cell?_setCell_other _ _ _ _ (by simp)]; exact x2
        have y3 : (V.setCell ⟨w.heap.size, 3, none⟩ (.int .i64 R1)).cell? ⟨w.heap.size, 3, none⟩ = some (.int .i64 R1) := World.cell?_setCell_same _ _ _ x3
        have y4 : (V.setCell ⟨w.heap.size, 3, none⟩ (.int .i64 R1)).cell? ⟨w.heap.size, 4, none⟩ = some (.int .i64 xt) := by rw [World.cell?_setCell_other _ _ _ _ (by simp)]; exact x4
        have hs2 : w.heap.size < (V.setCell ⟨w.heap.size, 3, none⟩ (.int .i64 R1)).heap.size := by simpa using hsz
        clear HI Hot
        generalize V.setCell ⟨w.heap.size, 3, none⟩ (.int .i64 R1) = V2 at hj2 ho2 y0 y1 y2 y3 y4 hs2
        have HJ2 := Lib.hid hj2
        have HO2 := Lib.hid ho2
        clear hj2 ho2 HJ HO x0 x1 x2 x3 x4 hsz hfz
        go_wp2_with (at_builtin; (refine ap_own (W0 := w) rfl _ _ 37 rfl 39 (.agg #[.int .i64 0, .int .u32 0, .int .i64 0, .int .i64 0, .int .i64 0]) 5 40 (by kernel_rfl) rfl (by decide) Try.underlying37 (HJ2.out.trans (by ((try simp only [World.junk_junk, Array.append_assoc]); (repeat (first | with_reducible exact Junk.refl _ | with_reducible exact Junk.app _ _ _ _ _ | with_reducible exact Junk.app2 _ _ _ _ _ _ | with_reducible exact Junk.app3 _ _ _ _ _ _ _ | with_reducible exact Junk.app4 _ _ _ _ _ _ _ _ | with_reducible exact Junk.app5 _ _ _ _ _ _ _ _ _ | with_reducible apply Junk.alloc | with_reducible apply Junk.junk | with_reducible apply Junk.drew | with_reducible apply Junk.drewN))))) ob cap k (lnsL L) rfl ((HO2.out.on (by ((try simp only [World.junk_junk, Array.append_assoc]); (repeat (first | with_reducible exact Junk.refl _ | with_reducible exact Junk.app _ _ _ _ _ | with_reducible exact Junk.app2 _ _ _ _ _ _ | with_reducible exact Junk.app3 _ _ _ _ _ _ _ | with_reducible exact Junk.app4 _ _ _ _ _ _ _ _ | with_reducible exact Junk.app5 _ _ _ _ _ _ _ _ _ | with_reducible apply Junk.alloc | with_reducible apply Junk.junk | with_reducible apply Junk.drew | with_reducible apply Junk.drewN))))).lower (by omega)) _ 1 1 rfl (Ln.cells ⟨xp, xi, xn, R1, xt⟩) rfl (built_cells (by simp)) (fun h => by cases h) (Ln.one _) (by simp only [maxLen]; omega) (by omega) ?_; intro oa' cap' os' d' hown' _; rw [lnsL_one] at hown'; have Hown3 := Lib.hid hown'; clear hown'))
        go_returns
        exact ⟨oa', cap', by rw [HE.out, show (L ++ [(⟨xp, xi, xn, R1, xt⟩ : Ln)], R1, (0 : Int)).1.length = k + 1 from hlen]; rfl, by ((try simp only [World.junk_junk, Array.append_assoc]); (repeat (first | with_reducible exact Junk.refl _ | with_reducible exact Junk.app _ _ _ _ _ | with_reducible exact Junk.app2 _ _ _ _ _ _ | with_reducible exact Junk.app3 _ _ _ _ _ _ _ | with_reducible exact Junk.app4 _ _ _ _ _ _ _ _ | with_reducible exact Junk.app5 _ _ _ _ _ _ _ _ _ | with_reducible apply Junk.alloc | with_reducible apply Junk.junk | with_reducible apply Junk.drew | with_reducible apply Junk.drewN))), by rw [HE.out, show (L ++ [(⟨xp, xi, xn, R1, xt⟩ : Ln)], R1, (0 : Int)).1.length = k + 1 from hlen]; exact Hown3.out, by rw [HE.out, show (L ++ [(⟨xp, xi, xn, R1, xt⟩ : Ln)], R1, (0 : Int)).1.length = k + 1 from hlen]; exact Hown3.out.capLe.1⟩
    have hk2 : (k : Int) < (l : Int) := by omega
    obtain ⟨y, hy⟩ : ∃ y, L[k]? = some y := ⟨_, List.getElem?_eq_getElem (by rw [HL.out]; exact hkl)⟩
    obtain ⟨g, rfl⟩ := own_at0 HO.out (by omega)
    obtain ⟨b', off', he', hg, c0, c1, c2, c3, c4⟩ := own_ls HO.out k y hy
    cases he'
    rw [Nat.zero_add] at c0 c1 c2 c3 c4
    have HY := Lib.hid hy
    clear hy
    have HNX := Lib.hid (fun (h : innerB ⟨xp, xi, xn, xo, xt⟩ y = false) => show ∀ j, j < k + 1 → ∀ z, L[j]? = some z → innerB ⟨xp, xi, xn, xo, xt⟩ z = false from fun j hj z hz => by
      by_cases h0 : j = k
      · subst h0; rw [HY.out] at hz; cases hz; exact h
      · exact hI.out j (by omega) z hz)
    have HHIT := Lib.hid (fun (h : innerB ⟨xp, xi, xn, xo, xt⟩ y = true) => HOLD.out k y (findIdx_at hI.out HY.out h) HY.out)
    have HTY := Lib.hid (fun (h : (y.proto == xp) = true) => takenL_yes HY.out h)
    have HTN := Lib.hid (fun (h : (y.proto == xp) = false) => takenL_no HY.out h)
    clear HOLD HNEW
    obtain ⟨yp, yi, yn, yo, yt⟩ := y
    dsimp only at c0 c1 c2 c3 c4
    cases e1 : yp == xp with
    | false =>
      have e1' : (yp != xp) = true := by simp [bne, e1]
      have HN2 := Lib.hid (HNX.out (by simp only [innerB]; rw [beq_sw xp yp, e1]; rfl))
      have HM2 := Lib.hid (show M = takenL (L.take (k + 1)) xp by rw [hM.out]; exact HTN.out e1)
      clear HNX HHIT HTY HTN
      go_wp2
      refine wp_region_junk (by kernel_rfl) (by kernel_rfl) ?_; (repeat (go_big_quiet_step (first | fail))); refine wpQuiet_nil ?_; rintro _ ⟨⟨osq, dq⟩, rfl⟩
      go_wp2
      exact ⟨⟨k + 1, m, M, ot, ct, rfl, by go_num, by ((try simp only [World.junk_junk, Array.append_assoc]); (repeat (first | with_reducible exact Junk.refl _ | with_reducible exact Junk.app _ _ _ _ _ | with_reducible exact Junk.app2 _ _ _ _ _ _ | with_reducible exact Junk.app3 _ _ _ _ _ _ _ | with_reducible exact Junk.app4 _ _ _ _ _ _ _ _ | with_reducible exact Junk.app5 _ _ _ _ _ _ _ _ _ | with_reducible apply Junk.alloc | with_reducible apply Junk.junk | with_reducible apply Junk.drew | with_reducible apply Junk.drewN))), Hot.out.on (by ((try simp only [World.junk_junk, Array.append_assoc]); (repeat (first | with_reducible exact Junk.refl _ | with_reducible exact Junk.app _ _ _ _ _ | with_reducible exact Junk.app2 _ _ _ _ _ _ | with_reducible exact Junk.app3 _ _ _ _ _ _ _ | with_reducible exact Junk.app4 _ _ _ _ _ _ _ _ | with_reducible exact Junk.app5 _ _ _ _ _ _ _ _ _ | with_reducible apply Junk.alloc | with_reducible apply Junk.junk | with_reducible apply Junk.drew | with_reducible apply Junk.drewN)))), HM2, HN2, by omega, by omega⟩, by simp [intOf]; omega⟩
    | true =>
    have e1' : (yp != xp) = false := by simp [bne, e1]
    by_cases e23 : yi = xi ∧ yn = xn
    case neg =>
      have hcs : (yi == xi) = false ∨ ((yi == xi) = true ∧ (yn == xn) = false) := by
        by_cases h : yi = xi
        · right; exact ⟨by simpa using h, by simp; intro h2; exact e23 ⟨h, h2⟩⟩
        · left; simpa using h
      clear e23
      have HN2 := Lib.hid (HNX.out (by
        simp only [innerB]
        rcases hcs with h | ⟨h, h2⟩
        · rw [beq_sw xi yi, h]; simp
        · rw [beq_sw xn yn, h2]; simp))
      have HM2 := Lib.hid (show M ++ [yo] = takenL (L.take (k + 1)) xp by rw [hM.out]; exact HTY.out e1)
      clear HNX HHIT HTY HTN
      rcases hcs with e2 | ⟨e2, e3⟩
      · go_wp2
        refine wp_region_junk (by kernel_rfl) (by kernel_rfl) ?_; (repeat (go_big_quiet_step (first | fail))); refine wpQuiet_nil ?_; rintro _ ⟨⟨osqa, dqa⟩, rfl⟩
        go_wp2
        refine wp_region_junk (by kernel_rfl) (by kernel_rfl) ?_; (repeat (go_big_quiet_step (first | fail))); refine wpQuiet_nil ?_; rintro _ ⟨⟨osqb, dqb⟩, rfl⟩
        go_wp2_with (at_builtin; (refine ap_own (W0 := V) rfl _ _ 22 rfl 3 (.int .i64 0) 1 8 (by kernel_rfl) rfl (by decide) Try.underlying22 (by ((try simp only [World.junk_junk, Array.append_assoc]); (repeat (first | with_reducible exact Junk.refl _ | with_reducible exact Junk.app _ _ _ _ _ | with_reducible exact Junk.app2 _ _ _ _ _ _ | with_reducible exact Junk.app3 _ _ _ _ _ _ _ | with_reducible exact Junk.app4 _ _ _ _ _ _ _ _ | with_reducible exact Junk.app5 _ _ _ _ _ _ _ _ _ | with_reducible apply Junk.alloc | with_reducible apply Junk.junk | with_reducible apply Junk.drew | with_reducible apply Junk.drewN)))) ot ct m _ rfl (Hot.out.on (by ((try simp only [World.junk_junk, Array.append_assoc]); (repeat (first | with_reducible exact Junk.refl _ | with_reducible exact Junk.app _ _ _ _ _ | with_reducible exact Junk.app2 _ _ _ _ _ _ | with_reducible exact Junk.app3 _ _ _ _ _ _ _ | with_reducible exact Junk.app4 _ _ _ _ _ _ _ _ | with_reducible exact Junk.app5 _ _ _ _ _ _ _ _ _ | with_reducible apply Junk.alloc | with_reducible apply Junk.junk | with_reducible apply Junk.drew | with_reducible apply Junk.drewN))))) _ 1 1 rfl [_] rfl (built_cells (by simp)) (fun h => by cases h) (by simp [Value.oneCell']) (by simp only [maxLen]; omega) (by omega) ?_; intro oa' cap' os' d' hown' _; rw [intV_add] at hown'; have Hown2 := Lib.hid hown'; clear hown'))
        exact ⟨⟨k + 1, m + 1, M ++ [yo], oa', cap', rfl, by go_num, by ((try simp only [World.junk_junk, Array.append_assoc]); (repeat (first | with_reducible exact Junk.refl _ | with_reducible exact Junk.app _ _ _ _ _ | with_reducible exact Junk.app2 _ _ _ _ _ _ | with_reducible exact Junk.app3 _ _ _ _ _ _ _ | with_reducible exact Junk.app4 _ _ _ _ _ _ _ _ | with_reducible exact Junk.app5 _ _ _ _ _ _ _ _ _ | with_reducible apply Junk.alloc | with_reducible apply Junk.junk | with_reducible apply Junk.drew | with_reducible apply Junk.drewN))), Hown2.out, HM2, HN2, by omega, by omega⟩, by simp [intOf]; omega⟩
      · go_wp2
        refine wp_region_junk (by kernel_rfl) (by kernel_rfl) ?_; (repeat (go_big_quiet_step (first | fail))); refine wpQuiet_nil ?_; rintro _ ⟨⟨osqa, dqa⟩, rfl⟩
        go_wp2
        refine wp_region_junk (by kernel_rfl) (by kernel_rfl) ?_; (repeat (go_big_quiet_step (first | fail))); refine wpQuiet_nil ?_; rintro _ ⟨⟨osqb, dqb⟩, rfl⟩
        go_wp2_with (at_builtin; (refine ap_own (W0 := V) rfl _ _ 22 rfl 3 (.int .i64 0) 1 8 (by kernel_rfl) rfl (by decide) Try.underlying22 (by ((try simp only [World.junk_junk, Array.append_assoc]); (repeat (first | with_reducible exact Junk.refl _ | with_reducible exact Junk.app _ _ _ _ _ | with_reducible exact Junk.app2 _ _ _ _ _ _ | with_reducible exact Junk.app3 _ _ _ _ _ _ _ | with_reducible exact Junk.app4 _ _ _ _ _ _ _ _ | with_reducible exact Junk.app5 _ _ _ _ _ _ _ _ _ | with_reducible apply Junk.alloc | with_reducible apply Junk.junk | with_reducible apply Junk.drew | with_reducible apply Junk.drewN)))) ot ct m _ rfl (Hot.out.on (by ((try simp only [World.junk_junk, Array.append_assoc]); (repeat (first | with_reducible exact Junk.refl _ | with_reducible exact Junk.app _ _ _ _ _ | with_reducible exact Junk.app2 _ _ _ _ _ _ | with_reducible exact Junk.app3 _ _ _ _ _ _ _ | with_reducible exact Junk.app4 _ _ _ _ _ _ _ _ | with_reducible exact Junk.app5 _ _ _ _ _ _ _ _ _ | with_reducible apply Junk.alloc | with_reducible apply Junk.junk | with_reducible apply Junk.drew | with_reducible apply Junk.drewN))))) _ 1 1 rfl [_] rfl (built_cells (by simp)) (fun h => by cases h) (by simp [Value.oneCell']) (by simp only [maxLen]; omega) (by omega) ?_; intro oa' cap' os' d' hown' _; rw [intV_add] at hown'; have Hown2 := Lib.hid hown'; clear hown'))
        exact ⟨⟨k + 1, m + 1, M ++ [yo], oa', cap', rfl, by go_num, by ((try simp only [World.junk_junk, Array.append_assoc]); (repeat (first | with_reducible exact Junk.refl _ | with_reducible exact Junk.app _ _ _ _ _ | with_reducible exact Junk.app2 _ _ _ _ _ _ | with_reducible exact Junk.app3 _ _ _ _ _ _ _ | with_reducible exact Junk.app4 _ _ _ _ _ _ _ _ | with_reducible exact Junk.app5 _ _ _ _ _ _ _ _ _ | with_reducible apply Junk.alloc | with_reducible apply Junk.junk | with_reducible apply Junk.drew | with_reducible apply Junk.drewN))), Hown2.out, HM2, HN2, by omega, by omega⟩, by simp [intOf]; omega⟩
    obtain ⟨e2, e3⟩ := e23
    have HE := Lib.hid (HHIT.out (by simp only [innerB]; rw [beq_sw xp yp, e1, e2, e3]; simp))
    have e2' : (yi == xi) = true := by simpa using e2
    have e3' : (yn == xn) = true := by simpa using e3
    clear HNX HHIT HTY HTN e2 e3 Hot hM hI
    by_cases e4 : yt < xt
    case neg =>
      have HE2 := Lib.hid (show RR = (L, yo, 0) by rw [HE.out]; dsimp only; rw [later_same e4, set_same HY.out])
      clear HE
      go_wp2
      refine wp_region_junk (by kernel_rfl) (by kernel_rfl) ?_; (repeat (go_big_quiet_step (first | fail))); refine wpQuiet_nil ?_; rintro _ ⟨⟨osqa, dqa⟩, rfl⟩
      go_wp2
      refine wp_region_junk (by kernel_rfl) (by kernel_rfl) ?_; (repeat (go_big_quiet_step (first | fail))); refine wpQuiet_nil ?_; rintro _ ⟨⟨osqb, dqb⟩, rfl⟩
      go_wp2
      refine wp_region_junk (by kernel_rfl) (by kernel_rfl) ?_; (repeat (go_big_quiet_step (first | fail))); refine wpQuiet_nil ?_; rintro _ ⟨⟨osqc, dqc⟩, rfl⟩
      go_wp2
      refine wp_region_junk (by kernel_rfl) (by kernel_rfl) ?_; (repeat (go_big_quiet_step (first | fail))); refine wpQuiet_nil ?_; rintro _ ⟨⟨osqd, dqd⟩, rfl⟩
      go_wp2
      go_returns
      exact ⟨some ⟨g, 0, none⟩, cap, by rw [HE2.out, show (L, yo, (0 : Int)).1.length = l from HL.out]; rfl, HJ.out.trans (by ((try simp only [World.junk_junk, Array.append_assoc]); (repeat (first | with_reducible exact Junk.refl _ | with_reducible exact Junk.app _ _ _ _ _ | with_reducible exact Junk.app2 _ _ _ _ _ _ | with_reducible exact Junk.app3 _ _ _ _ _ _ _ | with_reducible exact Junk.app4 _ _ _ _ _ _ _ _ | with_reducible exact Junk.app5 _ _ _ _ _ _ _ _ _ | with_reducible apply Junk.alloc | with_reducible apply Junk.junk | with_reducible apply Junk.drew | with_reducible apply Junk.drewN)))), by rw [HE2.out, show (L, yo, (0 : Int)).1.length = l from HL.out]; exact (HO.out.on (by ((try simp only [World.junk_junk, Array.append_assoc]); (repeat (first | with_reducible exact Junk.refl _ | with_reducible exact Junk.app _ _ _ _ _ | with_reducible exact Junk.app2 _ _ _ _ _ _ | with_reducible exact Junk.app3 _ _ _ _ _ _ _ | with_reducible exact Junk.app4 _ _ _ _ _ _ _ _ | with_reducible exact Junk.app5 _ _ _ _ _ _ _ _ _ | with_reducible apply Junk.alloc | with_reducible apply Junk.junk | with_reducible apply Junk.drew | with_reducible apply Junk.drewN))))).lower (by omega), by rw [HE2.out, show (L, yo, (0 : Int)).1.length = l from HL.out]; exact HO.out.capLe.1⟩
    have hz := World.ownsRow.frozenAt HO.out (k * 5 + 4)
    have hset := lnsL_till (t := xt) HY.out
    dsimp only at hset
    rw [if_pos e4] at hset
    have hn := own_stored HO.out (k * 5 + 4) (.int .i64 xt)
    rw [hset] at hn
    have hjn : Junk w (V.setCell ⟨g, k * 5 + 4, none⟩ (.int .i64 xt)) := HJ.out.setCell (Nat.le_trans (Nat.le_succ _) (own_ge HO.out)) _
    have hg2 : g < (V.setCell ⟨g, k * 5 + 4, none⟩ (.int .i64 xt)).heap.size := by simpa using hg
    have e5 : (V.setCell ⟨g, k * 5 + 4, none⟩ (.int .i64 xt)).cell? ⟨g, k * 5 + 3, none⟩ = some (.int .i64 yo) := by rw [World.cell?_setCell_other _ _ _ _ (by simp)]; exact c3
    have hlen : (L.set k (later xt ⟨yp, yi, yn, yo, yt⟩)).length = l := by rw [List.length_set, HL.out]
    have HO2 := Lib.hid hn
    have HJ2 := Lib.hid hjn
    have HLEN := Lib.hid hlen
    clear hn hjn hset hlen
    go_wp2
    refine wp_region_junk (by kernel_rfl) (by kernel_rfl) ?_; (repeat (go_big_quiet_step (first | fail))); refine wpQuiet_nil ?_; rintro _ ⟨⟨osqa, dqa⟩, rfl⟩
    go_wp2
    refine wp_region_junk (by kernel_rfl) (by kernel_rfl) ?_; (repeat (go_big_quiet_step (first | fail))); refine wpQuiet_nil ?_; rintro _ ⟨⟨osqb, dqb⟩, rfl⟩
    go_wp2
    refine wp_region_junk (by kernel_rfl) (by kernel_rfl) ?_; (repeat (go_big_quiet_step (first | fail))); refine wpQuiet_nil ?_; rintro _ ⟨⟨osqc, dqc⟩, rfl⟩
    go_upto_region 12 with (fail)
    generalize V.setCell ⟨g, k * 5 + 4, none⟩ (.int .i64 xt) = V2 at hg2 e5 HO2 HJ2
    clear HO HJ c0 c1 c2 c3 c4 x0 x1 x2 x3 x4 hfz hz hsz hg
    refine wp_region_junk (by kernel_rfl) (by kernel_rfl) ?_; (repeat (go_big_quiet_step (first | fail))); refine wpQuiet_nil ?_; rintro _ ⟨⟨osqd, dqd⟩, rfl⟩
    go_wp2
    go_returns
    exact ⟨some ⟨g, 0, none⟩, cap, by rw [HE.out, show (L.set k (later xt ⟨yp, yi, yn, yo, yt⟩), yo, (0 : Int)).1.length = l from HLEN.out]; rfl, HJ2.out.trans (by ((try simp only [World.junk_junk, Array.append_assoc]); (repeat (first | with_reducible exact Junk.refl _ | with_reducible exact Junk.app _ _ _ _ _ | with_reducible exact Junk.app2 _ _ _ _ _ _ | with_reducible exact Junk.app3 _ _ _ _ _ _ _ | with_reducible exact Junk.app4 _ _ _ _ _ _ _ _ | with_reducible exact Junk.app5 _ _ _ _ _ _ _ _ _ | with_reducible apply Junk.alloc | with_reducible apply Junk.junk | with_reducible apply Junk.drew | with_reducible apply Junk.drewN)))), by rw [HE.out, show (L.set k (later xt ⟨yp, yi, yn, yo, yt⟩), yo, (0 : Int)).1.length = l from HLEN.out]; exact (HO2.out.on (by ((try simp only [World.junk_junk, Array.append_assoc]); (repeat (first | with_reducible exact Junk.refl _ | with_reducible exact Junk.app _ _ _ _ _ | with_reducible exact Junk.app2 _ _ _ _ _ _ | with_reducible exact Junk.app3 _ _ _ _ _ _ _ | with_reducible exact Junk.app4 _ _ _ _ _ _ _ _ | with_reducible exact Junk.app5 _ _ _ _ _ _ _ _ _ | with_reducible apply Junk.alloc | with_reducible apply Junk.junk | with_reducible apply Junk.drew | with_reducible apply Junk.drewN))))).lower (by omega), by rw [HE.out, show (L.set k (later xt ⟨yp, yi, yn, yo, yt⟩), yo, (0 : Int)).1.length = l from HLEN.out]; exact HO2.out.capLe.1⟩
theorem rask_any (lo hi : Int) (oa : Option Addr) (l c : Nat) (L : List Ln) (x : Ln) (D : Nat) (w : World) (hl : l ≤ 1000000) (hL : L.length = l) (hS : LsAt w oa L) (hn : oa = none → l = 0 ∧ c = 0) (hD : D < 4294967296) :
    Calls Try.prog 21 #[.slice oa l c, .int .i64 lo, .int .i64 hi, x.val, .int .u32 (D : Int)] w (AskM w (askP lo hi L x D)) := by
  cases hb : natRight lo hi L && namedB x with
  | false => exact rask_bad lo hi oa l c L x D w hl hL hS hn hb
  | true =>
    simp only [Bool.and_eq_true] at hb
    have hr : rightB lo hi = true := by have := hb.1; unfold natRight at this; simp only [Bool.and_eq_true] at this; exact this.1
    have hr2 : 1 ≤ lo ∧ lo ≤ hi ∧ hi ≤ 65535 := by simpa [rightB] using hr
    obtain ⟨a, rfl⟩ : ∃ a : Nat, lo = (a : Int) := ⟨lo.toNat, by omega⟩
    obtain ⟨b, rfl⟩ : ∃ b : Nat, hi = (b : Int) := ⟨hi.toNat, by omega⟩
    exact rask_ok a b oa l c L x D w hl hL hS hn hr hb.1 hb.2 hD
end Go.Proofs.Ytambpmbgfjefcaa
