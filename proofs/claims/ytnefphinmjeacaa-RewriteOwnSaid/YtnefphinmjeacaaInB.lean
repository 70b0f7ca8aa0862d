/- inner.get, mend, full: a block of the call's own whose bytes are known, and whatever else must stay. -/
import Derived.Test.YtnefphinmjeacaaInA
import Derived.Test.YtnefphinmjeacaaIcmpPut
set_option linter.unusedVariables false
set_option maxRecDepth 100000
set_option linter.unusedSimpArgs false
namespace Go.Proofs.Ytnefphinmjeacaa
open Go.RowKit
/-- What must stay while block 'g' is written and new blocks come. -/
structure Keeps (g : Nat) (F : World → Prop) : Prop where
  on : ∀ V V', F V → Junk V V' → F V'
  set : ∀ V i v, F V → F (V.setCell ⟨g, i, none⟩ v)
/-- Block 'g', the call's own, holds the bytes 'xs'; the rest is as 'F' says. -/
structure St (F : World → Prop) (W0 V : World) (g l cap : Nat) (xs : Nat → Int) : Prop where
  j : Junk W0 V
  lt : W0.heap.size ≤ g
  gs : g < V.heap.size
  b : Bts V (some ⟨g, 0, none⟩) l cap xs
  fz : ∀ i, i < l → V.frozen? ⟨g, i, none⟩ = false
  f : F V
section
variable {F : World → Prop} {W0 V V' : World} {g l cap : Nat} {xs : Nat → Int}
theorem St.on (h : St F W0 V g l cap xs) (hK : Keeps g F) (hj : Junk V V') : St F W0 V' g l cap xs :=
  ⟨h.j.trans hj, h.lt, Nat.lt_of_lt_of_le h.gs hj.size, h.b.on hj, fun i hi => by
    obtain ⟨os, d, rfl⟩ := hj
    rw [World.frozen?_junk _ _ _ _ _ h.gs]; exact h.fz i hi, hK.on _ _ h.f hj⟩
theorem St.set (h : St F W0 V g l cap xs) (hK : Keeps g F) (i : Nat) (v : Int) (hv : 0 ≤ v ∧ v ≤ 255) : St F W0 (V.setCell ⟨g, i, none⟩ (.int .u8 v)) g l cap (upd xs i v) :=
  ⟨h.j.setCell h.lt _, h.lt, by simpa [World.setCell] using h.gs, bts_set0 h.b i v hv, fun k hk => by rw [World.frozen?_setCell]; exact h.fz k hk, hK.set _ _ _ h.f⟩
theorem St.congr {ys : Nat → Int} (h : St F W0 V g l cap xs) (he : ∀ i, i < l → xs i = ys i) : St F W0 V g l cap ys :=
  ⟨h.j, h.lt, h.gs, ⟨fun i hi => by obtain ⟨b, off, h1, h2, h3⟩ := h.b.at_ i hi; exact ⟨b, off, h1, h2, by rw [← he i hi]; exact h3⟩, fun i hi => by rw [← he i hi]; exact h.b.byte i hi, h.b.nil, h.b.le, h.b.cap⟩, h.fz, h.f⟩
theorem St.cell (h : St F W0 V g l cap xs) (i : Nat) (hi : i < l) : V.cell? ⟨g, i, none⟩ = some (.int .u8 (xs i)) := by
  obtain ⟨b, off, he, _, hc⟩ := h.b.at_ i hi
  cases he
  rw [Nat.zero_add] at hc
  exact hc
end
theorem in_get_any (b off l c : Nat) (x0 x1 : Int) (w : World) (hl : 2 ≤ l) (hb : b < w.heap.size) (h0 : w.cell? ⟨b, off, none⟩ = some (.int .u8 x0)) (h1 : w.cell? ⟨b, off + 1, none⟩ = some (.int .u8 x1)) (b0 : 0 ≤ x0 ∧ x0 ≤ 255) (b1 : 0 ≤ x1 ∧ x1 ≤ 255) :
    Calls Try.prog 31 #[.slice (some ⟨b, off, none⟩) l c] w fun e w' => e = .returned (.int .i64 (x0 * 256 + x1)) ∧ Junk w w' := by
  have q0 := or_i64 8 (x0 * 256) x1 (by omega) (by omega) (by omega) (by omega) (by omega) (by omega)
  have q1 := wrapk_i64 x0 (by omega) (by omega)
  have q2 := wrapk_i64 x1 (by omega) (by omega)
  have q3 := wrapk_i64 (x0 * 256) (by omega) (by omega)
  have j1 : (1 : Int) < (l : Int) := by omega
  have j0 : (0 : Int) < (l : Int) := by omega
  have i1 : 1 < l := by omega
  have i0 : 0 < l := by omega
  go_enter Try.func31, Try.ntmps31
  go_wp2
  refine wp_region_junk (by kernel_rfl) (by kernel_rfl) ?_; (repeat (go_big_quiet_step (first | fail))); refine wpQuiet_nil ?_; rintro _ ⟨⟨osq, dq⟩, rfl⟩
  go_wp2
  go_ret
  exact ⟨rfl, by (repeat (first | with_reducible exact Junk.refl _ | with_reducible exact Junk.app _ _ _ _ _ | with_reducible apply Junk.alloc | with_reducible apply Junk.junk | with_reducible apply Junk.drew | with_reducible apply Junk.drewN))⟩
/-- The word at a place. -/
def wd (xs : Nat → Int) (i : Nat) : Int := xs i * 256 + xs (i + 1)
theorem wd_bd {xs : Nat → Int} {i : Nat} (h0 : 0 ≤ xs i ∧ xs i ≤ 255) (h1 : 0 ≤ xs (i + 1) ∧ xs (i + 1) ≤ 255) : 0 ≤ wd xs i ∧ wd xs i ≤ 65535 := by unfold wd; omega
theorem in_get_st {F : World → Prop} {W0 V : World} {g l cap : Nat} {xs : Nat → Int} (h : St F W0 V g l cap xs) (i l' c' : Nat) (hi : i + 2 ≤ l) (hl : 2 ≤ l') :
    Calls Try.prog 31 #[.slice (some ⟨g, i, none⟩) l' c'] V fun e w' => e = .returned (.int .i64 (wd xs i)) ∧ Junk V w' :=
  in_get_any g i l' c' (xs i) (xs (i + 1)) V hl h.gs (h.cell i (by omega)) (h.cell (i + 1) (by omega)) (h.b.byte i (by omega)) (h.b.byte (i + 1) (by omega))
/-- A check sum mended for words, pair by pair. -/
def mendW (c : Int) (zs : Nat → Int) : Nat → Int
  | 0 => c
  | k + 1 => mendI (mendW c zs k) (zs (2 * k)) (zs (2 * k + 1))
theorem mendW_bd {c : Int} {zs : Nat → Int} (hc : 0 ≤ c ∧ c ≤ 65535) : ∀ k, (∀ i, i < 2 * k → 0 ≤ zs i ∧ zs i ≤ 65535) → 0 ≤ mendW c zs k ∧ mendW c zs k ≤ 65535
  | 0, _ => hc
  | k + 1, h => mendI_bd (mendW_bd hc k (fun i hi => h i (by omega))) (h _ (by omega)) (h _ (by omega))
def w2 (xs : Nat → Int) (i : Nat) (v : Int) : Nat → Int := upd (upd xs i (v / 256)) (i + 1) (v % 256)
theorem upd_upd {xs : Nat → Int} {i : Nat} {v u : Int} : upd (upd xs i v) i u = upd xs i u := by
  funext k; unfold upd; split <;> rfl
theorem w2_w2 {xs : Nat → Int} {i : Nat} {v u : Int} : w2 (w2 xs i v) i u = w2 xs i u := by
  funext k
  unfold w2 upd
  by_cases h1 : k = i + 1
  · rw [if_pos h1, if_pos h1]
  · by_cases h0 : k = i
    · rw [if_neg h1, if_pos h0, if_neg h1, if_pos h0]
    · rw [if_neg h1, if_neg h0, if_neg h1, if_neg h0, if_neg h1, if_neg h0]
theorem wd_w2 {xs : Nat → Int} {i : Nat} {v : Int} : wd (w2 xs i v) i = v := by
  unfold wd w2
  rw [upd_other _ _ _ _ (by omega), upd_same, upd_same]
  omega
def InM (F : World → Prop) (W0 : World) (g l cap : Nat) (ys : Nat → Int) (e : Ending) (w' : World) : Prop := e = .returned (.tuple #[]) ∧ St F W0 w' g l cap ys
set_option maxHeartbeats 2000000 in
theorem in_mend_st {F : World → Prop} {W0 V : World} {g l cap : Nat} {xs : Nat → Int} (h : St F W0 V g l cap xs) (hK : Keeps g F) (i l' c' : Nat) (hi : i + 2 ≤ l) (hl : 2 ≤ l')
    (on : Option Addr) (n k cn : Nat) (zs : Nat → Int) (hn : n = 2 * k) (hk : k ≤ 1000) (hw : IntsAt V on n .u16 zs) (hz : ∀ i, i < n → 0 ≤ zs i ∧ zs i ≤ 65535) :
    Calls Try.prog 72 #[.slice (some ⟨g, i, none⟩) l' c', .slice on n cn] V (InM F W0 g l cap (w2 xs i (mendW (wd xs i) zs k))) := by
  have hb0 := h.b.byte i (by omega)
  have hb1 := h.b.byte (i + 1) (by omega)
  have hwb := wd_bd hb0 hb1
  have HMB := Lib.hid (fun j (hj : j ≤ k) => mendW_bd hwb j (zs := zs) (fun i hi => hz i (by omega)))
  have HS := Lib.hid h
  have HK := Lib.hid hK
  have HW := Lib.hid hw
  have HZ := Lib.hid hz
  have hgs := h.gs
  have c0 := h.cell i (by omega)
  have c1 := h.cell (i + 1) (by omega)
  have f0 := h.fz i (by omega)
  have f1 := h.fz (i + 1) (by omega)
  obtain ⟨c, hc⟩ : ∃ c, wd xs i = c := ⟨_, rfl⟩
  have HC := Lib.hid hc
  have HGET := Lib.hid (show Calls Try.prog 31 #[.slice (some ⟨g, i, none⟩) l' c'] V fun e w' => e = .returned (.int .i64 c) ∧ Junk V w' by rw [← hc]; exact in_get_st h i l' c' hi hl)
  have hcb : 0 ≤ c ∧ c ≤ 65535 := by rw [← hc]; exact hwb
  have q0 := wrapk_u16 c (by omega) (by omega)
  rw [hc] at HMB
  have j0 : (0 : Int) < (l' : Int) := by omega
  have j1 : (1 : Int) < (l' : Int) := by omega
  have i0 : 0 < l' := by omega
  have i1 : 1 < l' := by omega
  have HN0 := Lib.hid hn
  have hn2k : n ≤ 2000 := by omega
  clear hb0 hb1 hwb h hK hw hz hc hn
  go_enter Try.func72, Try.ntmps72
  go_wp2_with (first | (go_at_call 31; refine HGET.out.mono ?_; rintro e w' ⟨rfl, ⟨osj, dj, rfl⟩⟩))
  go_loopw [4, 5] (fun v u wr => ∃ (j : Nat) (os : Array Obj) (d : Nat), j ≤ k ∧ v = .int .u16 (mendW c zs j) ∧ u = .int .i64 ((2 * j : Nat) : Int) ∧ wr = V.junk os d) (fun _ u _ => 2 * k + 2 - (intOf u).toNat)
  case atStart => exact ⟨0, _, _, by omega, rfl, rfl, rfl⟩
  case round =>
    obtain ⟨j, os, d, hj, rfl, rfl, rfl⟩ := hrel
    have hj1000 : 2 * j ≤ 2000 := by omega
    have hmb := HMB.out j hj
    by_cases hjk : j < k
    case neg =>
      obtain rfl : j = k := by omega
      have hn2 : ¬ ((2 * j : Nat) : Int) + 1 < (n : Int) := by have := HN0.out; omega
      obtain ⟨M, hM⟩ : ∃ M, mendW c zs j = M := ⟨_, rfl⟩
      have HM := Lib.hid hM
      rw [hM] at hmb ⊢
      obtain ⟨U, hU⟩ : ∃ U, 2 * j = U := ⟨_, rfl⟩
      rw [hU] at hn2 ⊢
      have r0 := wrapk_u8 (M / 256) (by omega) (by omega)
      have r1 : IntKind.u8.wrap M = M % 256 := IntKind.wrap_u8 _
      have r2 : M / 256 % 256 = M / 256 := by omega
      have r3 := wrapk_i64 ((U : Int) + 1) (by omega) (by omega)
      clear hM hU
      go_wp2
      go_end0
      refine ⟨rfl, ?_⟩
      rw [HC.out, HM.out]
      exact ((HS.out.set HK.out i _ (by omega)).set HK.out (i + 1) _ (by omega)).on HK.out ⟨os, d, rfl⟩
    have hz0 := HZ.out (2 * j) (by have := HN0.out; omega)
    have hz1 := HZ.out (2 * j + 1) (by have := HN0.out; omega)
    obtain ⟨bn, offn, rfl, hbn, hcn⟩ := HW.out (2 * j) (by have := HN0.out; omega)
    obtain ⟨bn', offn', he, hbn', hcn'⟩ := HW.out (2 * j + 1) (by have := HN0.out; omega)
    cases he
    obtain ⟨M, hM⟩ : ∃ M, mendW c zs j = M := ⟨_, rfl⟩
    obtain ⟨z0, hz0'⟩ : ∃ z, zs (2 * j) = z := ⟨_, rfl⟩
    obtain ⟨z1, hz1'⟩ : ∃ z, zs (2 * j + 1) = z := ⟨_, rfl⟩
    obtain ⟨N, hN⟩ : ∃ N, mendI M z0 z1 = N := ⟨_, rfl⟩
    have HN := Lib.hid (show mendW c zs (j + 1) = N by show mendI (mendW c zs j) (zs (2 * j)) (zs (2 * j + 1)) = N; rw [hM, hz0', hz1', hN])
    rw [hz0'] at hz0 hcn
    rw [hz1'] at hz1 hcn'
    rw [hM] at hmb ⊢
    have HCM := Lib.hid (fun w1 => show Calls Try.prog 94 #[.int .u16 M, .int .u16 z0, .int .u16 z1] w1 fun e w' => e = .returned (.int .u16 N) ∧ Junk w1 w' by rw [← hN]; exact Calls.junk_of_same (cmend_any M z0 z1 w1 hmb hz0 hz1))
    obtain ⟨X, hX⟩ : ∃ X, 2 * j + 1 = X := ⟨_, rfl⟩
    rw [hX] at hcn'
    have HX := Lib.hid hX
    obtain ⟨U, hU⟩ : ∃ U, 2 * j = U := ⟨_, rfl⟩
    have HU := Lib.hid hU
    rw [hU] at hcn ⊢
    have eX : (U : Int) + 1 = (X : Int) := by omega
    have hXn : X < n := by have := HN0.out; omega
    have hUn : U < n := by omega
    have hXi : (X : Int) < (n : Int) := by omega
    have hUi : (U : Int) < (n : Int) := by omega
    have r3 := wrapk_i64 (X : Int) (by omega) (by omega)
    have r4 := wrapk_i64 ((U : Int) + 2) (by omega) (by omega)
    clear hM hz0' hz1' hN hX hU
    go_wp2
    refine wp_region_junk (by kernel_rfl) (by kernel_rfl) ?_; (repeat (go_big_quiet_step (first | (go_at_call 94; first | with_reducible exact Calls.junk_of5 (HCM.out _) | with_reducible exact Calls.junk_of4 (HCM.out _) | with_reducible exact Calls.junk_of3 (HCM.out _) | with_reducible exact Calls.junk_of2 (HCM.out _) | with_reducible exact Calls.junk_of (HCM.out _))))); refine wpQuiet_nil ?_; rintro _ ⟨⟨osq, dq⟩, rfl⟩
    go_wp2
    exact ⟨⟨j + 1, _, _, by omega, by rw [HN.out], by rw [← HU.out]; go_num, rfl⟩, by simp [intOf]; have := HU.out; omega⟩
def fullI (v : Int) : Int := if v = 0 then 65535 else v
set_option maxHeartbeats 2000000 in
theorem in_full_st {F : World → Prop} {W0 V : World} {g l cap : Nat} {xs : Nat → Int} (h : St F W0 V g l cap xs) (hK : Keeps g F) (i l' c' : Nat) (hi : i + 2 ≤ l) (hl : 2 ≤ l')
    (on : Option Addr) (n k cn : Nat) (zs : Nat → Int) (hn : n = 2 * k) (hk : k ≤ 1000) (hw : IntsAt V on n .u16 zs) (hz : ∀ i, i < n → 0 ≤ zs i ∧ zs i ≤ 65535) :
    Calls Try.prog 73 #[.slice (some ⟨g, i, none⟩) l' c', .slice on n cn] V (InM F W0 g l cap (w2 xs i (fullI (mendW (wd xs i) zs k)))) := by
  have HS := Lib.hid h
  have HK := Lib.hid hK
  have HW := Lib.hid hw
  have HZ := Lib.hid hz
  have HN0 := Lib.hid hn
  have hgs := h.gs
  obtain ⟨M, hM⟩ : ∃ M, mendW (wd xs i) zs k = M := ⟨_, rfl⟩
  have HM := Lib.hid hM
  have j0 : (0 : Int) < (l' : Int) := by omega
  have j1 : (1 : Int) < (l' : Int) := by omega
  have i0 : 0 < l' := by omega
  have i1 : 1 < l' := by omega
  clear h hK hw hz hn hM
  by_cases h0 : M = 0
  · have h0' : (M == 0) = true := by simpa using h0
    have HE := Lib.hid (show fullI (mendW (wd xs i) zs k) = 65535 by rw [HM.out]; unfold fullI; rw [if_pos h0])
    clear h0
    go_enter Try.func73, Try.ntmps73
    go_wp2_with (first | (go_at_call 72; refine (in_mend_st HS.out HK.out i l' c' hi hl on n k cn zs HN0.out hk HW.out HZ.out).mono ?_; rintro e V1 ⟨rfl, hS1⟩; have HS1 := Lib.hid hS1; have hgs1 := hS1.gs; have c0 := hS1.cell i (by omega); have c1 := hS1.cell (i + 1) (by omega); have f0 := hS1.fz i (by omega); have f1 := hS1.fz (i + 1) (by omega); clear hS1) | (go_at_call 31; refine (in_get_st HS1.out i l' c' hi hl).mono ?_; rintro e w' ⟨rfl, ⟨osj, dj, rfl⟩⟩; rw [wd_w2, HM.out]))
    go_end0
    refine ⟨rfl, ?_⟩
    rw [HE.out, ← w2_w2 (v := mendW (wd xs i) zs k) (u := 65535)]
    exact ((HS1.out.set HK.out i 255 (by omega)).set HK.out (i + 1) 255 (by omega)).on HK.out ⟨_, _, rfl⟩
  · have h0' : (M == 0) = false := by simpa using h0
    have HE := Lib.hid (show fullI (mendW (wd xs i) zs k) = mendW (wd xs i) zs k by rw [HM.out]; unfold fullI; rw [if_neg h0])
    clear h0
    go_enter Try.func73, Try.ntmps73
    go_wp2_with (first | (go_at_call 72; refine (in_mend_st HS.out HK.out i l' c' hi hl on n k cn zs HN0.out hk HW.out HZ.out).mono ?_; rintro e V1 ⟨rfl, hS1⟩; have HS1 := Lib.hid hS1; have hgs1 := hS1.gs; have c0 := hS1.cell i (by omega); have c1 := hS1.cell (i + 1) (by omega); have f0 := hS1.fz i (by omega); have f1 := hS1.fz (i + 1) (by omega); clear hS1) | (go_at_call 31; refine (in_get_st HS1.out i l' c' hi hl).mono ?_; rintro e w' ⟨rfl, ⟨osj, dj, rfl⟩⟩; rw [wd_w2, HM.out]))
    go_end0
    refine ⟨rfl, ?_⟩
    rw [HE.out]
    exact HS1.out.on HK.out ⟨_, _, rfl⟩
theorem in_talks_any (t : Int) (w : World) : Calls Try.prog 32 #[.int .i64 t] w fun e w' => e = .returned (.bool (asksB t || answersB t)) ∧ Junk w w' := by
  cases h1 : asksB t with
  | true =>
    have H1 := Lib.hid (fun (x1 x2 x3 : Value) w1 => show Calls Try.prog 67 #[.agg #[.int .i64 t, x1, x2, x3]] w1 fun e w' => e = .returned (.bool true) ∧ Junk w1 w' by rw [← h1]; exact asks_any t x1 x2 x3 w1)
    clear h1
    go_enter Try.func32, Try.ntmps32
    go_wp2_with (first | (go_at_call 67; refine (H1.out _ _ _ _).mono ?_; rintro e w' ⟨rfl, ⟨osj, dj, rfl⟩⟩))
    go_ret
    exact ⟨ret_bool rfl, by (first | ((repeat (first | with_reducible exact Junk.refl _ | with_reducible exact Junk.app _ _ _ _ _ | with_reducible apply Junk.alloc | with_reducible apply Junk.junk | with_reducible apply Junk.drew | with_reducible apply Junk.drewN)); done) | ((try simp only [World.junk_junk, Array.append_assoc]); (repeat (first | with_reducible exact Junk.refl _ | with_reducible exact Junk.app _ _ _ _ _ | with_reducible exact Junk.app2 _ _ _ _ _ _ | with_reducible exact Junk.app3 _ _ _ _ _ _ _ | with_reducible exact Junk.app4 _ _ _ _ _ _ _ _ | with_reducible exact Junk.app5 _ _ _ _ _ _ _ _ _ | with_reducible apply Junk.alloc | with_reducible apply Junk.junk | with_reducible apply Junk.drew | with_reducible apply Junk.drewN))))⟩
  | false =>
    have H1 := Lib.hid (fun (x1 x2 x3 : Value) w1 => show Calls Try.prog 67 #[.agg #[.int .i64 t, x1, x2, x3]] w1 fun e w' => e = .returned (.bool false) ∧ Junk w1 w' by rw [← h1]; exact asks_any t x1 x2 x3 w1)
    clear h1
    go_enter Try.func32, Try.ntmps32
    go_wp2_with (first | (go_at_call 67; refine (H1.out _ _ _ _).mono ?_; rintro e w' ⟨rfl, ⟨osj, dj, rfl⟩⟩) | (go_at_call 68; refine (answers_any t _ _ _ _).mono ?_; rintro e w' ⟨rfl, ⟨osj, dj, rfl⟩⟩))
    go_ret
    exact ⟨ret_bool rfl, by (first | ((repeat (first | with_reducible exact Junk.refl _ | with_reducible exact Junk.app _ _ _ _ _ | with_reducible apply Junk.alloc | with_reducible apply Junk.junk | with_reducible apply Junk.drew | with_reducible apply Junk.drewN)); done) | ((try simp only [World.junk_junk, Array.append_assoc]); (repeat (first | with_reducible exact Junk.refl _ | with_reducible exact Junk.app _ _ _ _ _ | with_reducible exact Junk.app2 _ _ _ _ _ _ | with_reducible exact Junk.app3 _ _ _ _ _ _ _ | with_reducible exact Junk.app4 _ _ _ _ _ _ _ _ | with_reducible exact Junk.app5 _ _ _ _ _ _ _ _ _ | with_reducible apply Junk.alloc | with_reducible apply Junk.junk | with_reducible apply Junk.drew | with_reducible apply Junk.drewN))))⟩
end Go.Proofs.Ytnefphinmjeacaa
