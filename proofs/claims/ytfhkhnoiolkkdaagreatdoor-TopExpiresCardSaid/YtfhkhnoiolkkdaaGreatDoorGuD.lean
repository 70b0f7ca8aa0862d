/- The heap's Push and Fix; the wheel's Set and Tick. -/
import Derived.Test.YtfhkhnoiolkkdaaGreatDoorXrP
import Derived.Test.YtfhkhnoiolkkdaaGreatDoorMixP
import Derived.Test.YtfhkhnoiolkkdaaGreatDoorTcpA
import Derived.Maps.OwnSet
import Derived.Deep.DeepCutAuto
import Derived.Test.YtfhkhnoiolkkdaaGreatDoorIpA
import Derived.LoopN
set_option linter.unusedVariables false
set_option maxRecDepth 100000
set_option linter.unusedSimpArgs false
namespace Go.Proofs.YtfhkhnoiolkkdaaGreatDoor
open Go.RowKit
def uportB (n : Int) : Bool := decide (0 ≤ n) && decide (n ≤ 65535)
theorem uport_any (n : Int) (w : World) : Calls Tryz.prog 54 #[.int .i64 n] w fun e w' => e = .returned (.bool (uportB n)) ∧ w = w' := by
  by_cases h1 : 0 ≤ n
  · go_enter Tryz.func54, Tryz.ntmps54
    go_wp2
    go_ret
    exact ⟨ret_bool (by simp [uportB, h1]), rfl⟩
  · go_enter Tryz.func54, Tryz.ntmps54
    go_wp2
    go_ret
    exact ⟨ret_bool (by simp [uportB]; intro; omega), rfl⟩
def GrewZ (W0 : World) (n : Nat) (zs : Nat → Int) (e : Ending) (w' : World) : Prop := ∃ (oa : Option Addr) (cap : Nat), e = .returned (.slice oa n cap) ∧ Junk W0 w' ∧ OwB W0.heap.size w' oa cap n zs
set_option maxHeartbeats 400000 in
theorem uhalf_any (W0 w : World) (oa : Option Addr) (cap n : Nat) (zs : Nat → Int) (v : Int) (hv0 : 0 ≤ v) (hv1 : v ≤ 65535) (hn : n ≤ 100) (hj : Junk W0 w) (hown : OwB W0.heap.size w oa cap n zs) (hz0 : zs n = v / 256) (hz1 : zs (n + 1) = v % 256) :
    Calls Tryz.prog 55 #[.slice oa n cap, .int .i64 v] w (GrewZ W0 (n + 2) zs) := by
  have HJ := Lib.hid hj
  have HO := Lib.hid hown
  have H0 := Lib.hid hz0
  have H1 := Lib.hid hz1
  clear hj hown hz0 hz1
  have q5 : IntKind.u8.wrap (v / 256) = v / 256 := wrapk_u8 _ (by omega) (by omega)
  have q6 : IntKind.u8.wrap v = v % 256 := IntKind.wrap_u8 _
  go_enter Tryz.func55, Tryz.ntmps55
  go_wp2_with (at_builtin; (refine ap_bz (W0 := W0) rfl _ _ rfl (HJ.out.trans (by (exact jkc))) oa cap n zs rfl (HO.out.on (by (exact jkc))) _ 2 2 rfl (by exact alloc_ints _ _ _ _ (by simp) 2 _ (bz2 H0.out H1.out)) (fun h => by cases h) (by omega) ?_; intro o2 c2 os2 d2 h_2 hn2; have H2 := Lib.hid h_2; clear h_2))
  go_ret
  exact ⟨o2, c2, rfl, ⟨_, _, rfl⟩, H2.out⟩
def udB (sp dp c : Int) (body : Nat → Int) (l : Nat) : Nat → Int
  | 0 => sp / 256
  | 1 => sp % 256
  | 2 => dp / 256
  | 3 => dp % 256
  | 4 => ((8 + l : Nat) : Int) / 256
  | 5 => ((8 + l : Nat) : Int) % 256
  | 6 => c / 256
  | 7 => c % 256
  | k + 8 => body k
def udSum (src dst sp dp : Int) (body : Nat → Int) (l : Nat) : Int :=
  if usumN src dst (udB sp dp 0 body l) (8 + l) = 65535 then 65535 else 65535 - usumN src dst (udB sp dp 0 body l) (8 + l)
def udOf (src dst sp dp : Int) (body : Nat → Int) (l : Nat) : Nat → Int := udB sp dp (udSum src dst sp dp body l) body l
theorem eight (i : Nat) : i = 0 ∨ i = 1 ∨ i = 2 ∨ i = 3 ∨ i = 4 ∨ i = 5 ∨ i = 6 ∨ i = 7 ∨ ∃ k, i = k + 8 := by
  by_cases h : i < 8
  · omega
  · have : ∃ k, i = k + 8 := ⟨i - 8, by omega⟩
    simp [this]
theorem udB_byte {sp dp c : Int} {body : Nat → Int} {l : Nat} (h1 : 0 ≤ sp ∧ sp ≤ 65535) (h2 : 0 ≤ dp ∧ dp ≤ 65535) (hc : 0 ≤ c ∧ c ≤ 65535) (hl : 8 + l ≤ 65535) (hb : ∀ i, i < l → 0 ≤ body i ∧ body i ≤ 255) : ∀ i, i < 8 + l → 0 ≤ udB sp dp c body l i ∧ udB sp dp c body l i ≤ 255 := by
  intro i hi
  rcases eight i with rfl | rfl | rfl | rfl | rfl | rfl | rfl | rfl | ⟨k, rfl⟩
  all_goals simp only [udB]
  all_goals first | omega | exact hb _ (by omega)
theorem usumN_bd {src dst : Int} {xs : Nat → Int} {l : Nat} (h1 : 0 ≤ src ∧ src ≤ 4294967295) (h2 : 0 ≤ dst ∧ dst ≤ 4294967295) (hl : l ≤ 65535) (hx : ∀ i, i < l → 0 ≤ xs i ∧ xs i ≤ 255) : 0 ≤ usumN src dst xs l ∧ usumN src dst xs l ≤ 65535 := by
  have hr := rawN_bd xs l hx
  have hp := pseudoN_bd (proto := 17) (size := (l : Int)) h1 h2 (by omega) (by omega)
  exact foldI_bd _ (by omega)
theorem udSum_bd {src dst sp dp : Int} {body : Nat → Int} {l : Nat} (h1 : 0 ≤ src ∧ src ≤ 4294967295) (h2 : 0 ≤ dst ∧ dst ≤ 4294967295) (hs : 0 ≤ sp ∧ sp ≤ 65535) (hd : 0 ≤ dp ∧ dp ≤ 65535) (hl : 8 + l ≤ 65535) (hb : ∀ i, i < l → 0 ≤ body i ∧ body i ≤ 255) :
    0 < udSum src dst sp dp body l ∧ udSum src dst sp dp body l ≤ 65535 := by
  have := usumN_bd (xs := udB sp dp 0 body l) h1 h2 hl (udB_byte hs hd (by omega) hl hb)
  unfold udSum
  split <;> omega
theorem udOf_byte {src dst sp dp : Int} {body : Nat → Int} {l : Nat} (h1 : 0 ≤ src ∧ src ≤ 4294967295) (h2 : 0 ≤ dst ∧ dst ≤ 4294967295) (hs : 0 ≤ sp ∧ sp ≤ 65535) (hd : 0 ≤ dp ∧ dp ≤ 65535) (hl : 8 + l ≤ 65535) (hb : ∀ i, i < l → 0 ≤ body i ∧ body i ≤ 255) :
    ∀ i, i < 8 + l → 0 ≤ udOf src dst sp dp body l i ∧ udOf src dst sp dp body l i ≤ 255 := by
  have := udSum_bd h1 h2 hs hd hl hb
  exact udB_byte hs hd (by omega) hl hb
theorem udB_raw (sp dp c : Int) (body : Nat → Int) (l : Nat) : ∀ k, rawN (udB sp dp c body l) (8 + k) = rawN (udB sp dp 0 body l) (8 + k) + (c / 256 * 256 + c % 256)
  | 0 => by
    show rawN (udB sp dp c body l) 8 = rawN (udB sp dp 0 body l) 8 + _
    simp [rawN, udB]
    omega
  | k + 1 => by
    have h := udB_raw sp dp c body l k
    show rawN (udB sp dp c body l) ((8 + k) + 1) = rawN (udB sp dp 0 body l) ((8 + k) + 1) + _
    simp only [rawN]
    rw [h]
    have e : udB sp dp c body l (8 + k) = udB sp dp 0 body l (8 + k) := by rw [Nat.add_comm]; rfl
    rw [e]
    omega
theorem udOf_sum {src dst sp dp : Int} {body : Nat → Int} {l : Nat} (h1 : 0 ≤ src ∧ src ≤ 4294967295) (h2 : 0 ≤ dst ∧ dst ≤ 4294967295) (hs : 0 ≤ sp ∧ sp ≤ 65535) (hd : 0 ≤ dp ∧ dp ≤ 65535) (hl : 8 + l ≤ 65535) (hb : ∀ i, i < l → 0 ≤ body i ∧ body i ≤ 255) :
    usumN src dst (udOf src dst sp dp body l) (8 + l) = 65535 := by
  have hB := udB_byte (c := 0) hs hd (by omega) hl hb
  have hr := (rawN_bd _ _ hB).1
  have hp := pseudoN_bd (proto := 17) (size := ((8 + l : Nat) : Int)) h1 h2 (by omega) (by omega)
  have hS := udSum_bd h1 h2 hs hd hl hb
  have hfull := foldI_full (n := pseudoN src dst 17 ((8 + l : Nat) : Int) + rawN (udB sp dp 0 body l) (8 + l)) (by omega)
  unfold usumN udOf
  rw [udB_raw sp dp _ body l l]
  generalize hC : udSum src dst sp dp body l = C at hS ⊢
  have hC2 : C / 256 * 256 + C % 256 = C := by omega
  rw [hC2, ← Int.add_assoc]
  unfold udSum usumN at hC
  split at hC
  · rename_i h
    rw [foldI_iff (by omega)] at h ⊢
    omega
  · rw [← hC]; exact hfull
def UPutM (w : World) (src dst sp dp : Int) (body : Nat → Int) (l : Nat) (e : Ending) (w' : World) : Prop :=
  ∃ (ob : Option Addr) (cb : Nat), e = .returned (.tuple #[.slice ob (8 + l) cb, .int .i64 0]) ∧ Junk w w' ∧ Bts w' ob (8 + l) cb (udOf src dst sp dp body l)
theorem udOf_set {src dst sp dp : Int} {body : Nat → Int} {l : Nat} {C : Int} (h : udSum src dst sp dp body l = C) : ∀ i, (fun k => if k = 7 then C % 256 else (fun k => if k = 6 then C / 256 else udB sp dp 0 body l k) k) i = udOf src dst sp dp body l i := by
  intro i
  unfold udOf
  rw [h]
  rcases eight i with rfl | rfl | rfl | rfl | rfl | rfl | rfl | rfl | ⟨k, rfl⟩
  all_goals first | rfl | (show (if k + 8 = 7 then _ else (if k + 8 = 6 then _ else body k)) = body k; rw [if_neg (by omega), if_neg (by omega)])
theorem u_bts_congr {w : World} {oa : Option Addr} {l c : Nat} {xs ys : Nat → Int} (h : Bts w oa l c xs) (he : ∀ i, i < l → xs i = ys i) : Bts w oa l c ys :=
  ⟨fun i hi => by obtain ⟨b, off, h1, h2, h3⟩ := h.at_ i hi; exact ⟨b, off, h1, h2, by rw [← he i hi]; exact h3⟩, fun i hi => by rw [← he i hi]; exact h.byte i hi, h.nil, h.le, h.cap⟩
set_option maxHeartbeats 4000000 in
theorem uput_any (src dst sp dp : Int) (oa : Option Addr) (l ca : Nat) (body : Nat → Int) (w : World) (h1 : 0 ≤ src ∧ src ≤ 4294967295) (h2 : 0 ≤ dst ∧ dst ≤ 4294967295) (hs : 0 ≤ sp ∧ sp ≤ 65535) (hd : 0 ≤ dp ∧ dp ≤ 65535) (hl : 8 + l ≤ 65535) (hB : Bts w oa l ca body) :
    Calls Tryz.prog 27 #[.int .u32 src, .int .u32 dst, .agg #[.int .i64 sp, .int .i64 dp, .bool false, .slice oa l ca]] w (UPutM w src dst sp dp body l) := by
  have HB := Lib.hid hB
  obtain ⟨L, hL⟩ : ∃ L, 8 + l = L := ⟨_, rfl⟩
  have HLL := Lib.hid hL
  have eL : (8 : Int) + (l : Int) = (L : Int) := by omega
  have hL2 : ¬ (65535 : Int) < (L : Int) := by omega
  have hLb : L ≤ 65535 := by omega
  have hL8 : 8 ≤ L := by omega
  have hlb : l ≤ 65527 := by omega
  have hBz := udB_byte (c := 0) hs hd (by omega) hl hB.byte
  have hsb := usumN_bd h1 h2 hl hBz
  have hcb := udSum_bd h1 h2 hs hd hl hB.byte
  have HSET := Lib.hid (fun (C : Int) (h : udSum src dst sp dp body l = C) => udOf_set h)
  have p1 := Lib.hid (fun w1 => show Calls Tryz.prog 54 #[.int .i64 sp] w1 fun e w' => e = .returned (.bool true) ∧ w1 = w' by have := uport_any sp w1; rw [show uportB sp = true by unfold uportB; simp; omega] at this; exact this)
  have p2 := Lib.hid (fun w1 => show Calls Tryz.prog 54 #[.int .i64 dp] w1 fun e w' => e = .returned (.bool true) ∧ w1 = w' by have := uport_any dp w1; rw [show uportB dp = true by unfold uportB; simp; omega] at this; exact this)
  obtain ⟨X, hX⟩ : ∃ X, usumN src dst (udB sp dp 0 body l) (8 + l) = X := ⟨_, rfl⟩
  obtain ⟨C, hC⟩ : ∃ C, udSum src dst sp dp body l = C := ⟨_, rfl⟩
  have HC := Lib.hid hC
  have hCX : C = if X = 65535 then 65535 else 65535 - X := by rw [← hC, ← hX]; rfl
  obtain ⟨Z, hZ⟩ : ∃ Z, udB sp dp 0 body l = Z := ⟨_, rfl⟩
  have z0 : Z 0 = sp / 256 := by rw [← hZ]; rfl
  have z1 : Z (0 + 1) = sp % 256 := by rw [← hZ]; rfl
  have z2 : Z 2 = dp / 256 := by rw [← hZ]; rfl
  have z3 : Z (2 + 1) = dp % 256 := by rw [← hZ]; rfl
  have z4 : Z 4 = (L : Int) / 256 := by rw [← hZ, ← hL]; rfl
  have z5 : Z (4 + 1) = (L : Int) % 256 := by rw [← hZ, ← hL]; rfl
  have z6 : Z 6 = 0 / 256 := by rw [← hZ]; rfl
  have z7 : Z (6 + 1) = 0 % 256 := by rw [← hZ]; rfl
  have z8 : ∀ j, body j = Z (8 + j) := fun j => by rw [← hZ, Nat.add_comm]; rfl
  have HZ := Lib.hid (And.intro z0 (And.intro z1 (And.intro z2 (And.intro z3 (And.intro z4 (And.intro z5 (And.intro z6 (And.intro z7 z8))))))))
  have HZZ := Lib.hid hZ
  rw [hZ] at hBz
  rw [hL] at hBz
  have HBZ := Lib.hid hBz
  rw [hX] at hsb
  rw [hC] at hcb
  have HSUM := Lib.hid (fun (o : Option Addr) (c : Nat) (w1 : World) (hb : IntsAt w1 o L .u8 Z) => show Calls Tryz.prog 56 #[.int .u32 src, .int .u32 dst, .slice o L c] w1 fun e w' => e = .returned (.int .u16 X) ∧ Junk w1 w' by
    rw [← hX, hZ, hL]
    exact usum_any src dst o L c Z w1 h1 h2 hLb hb hBz)
  obtain ⟨hs0, hs1⟩ := hs
  obtain ⟨hd0, hd1⟩ := hd
  clear z0 z1 z2 z3 z4 z5 z6 z7 z8 hBz hB hX hC hZ hl hL
  by_cases hX0 : X = 65535
  · rw [if_pos hX0] at hCX
    subst hCX
    subst hX0
    go_enter Tryz.func27, Tryz.ntmps27
    go_wp2_with (first | (go_at_call 54; (with_reducible refine (p1.out _).mono ?_); rintro e w' ⟨rfl, rfl⟩) | (go_at_call 54; (with_reducible refine (p2.out _).mono ?_); rintro e w' ⟨rfl, rfl⟩))
    refine wp_region_mixj ((w.alloc (.cells #[.int .i64 sp, .int .i64 dp, .bool false, .slice oa l ca] 90))) [(0, true), (1, true), (3, true), (4, true), (6, true), (2, false), (5, false), (7, false), (8, false), (9, true)] (by kernel_rfl) (by kernel_rfl) (by (exact jkc)) ?_; (iterate 5 (refine wpMix_q rfl (fun K hK => ?_); (go_simp; try go_bits); (refine hK _ ?_; clear hK K))); refine wpMix_e rfl (fun osm4_0 dm4_0 K hK => ?_); (go_simp; try go_bits); (go_at_call 55; refine (uhalf_any ((w.alloc (.cells #[.int .i64 sp, .int .i64 dp, .bool false, .slice oa l ca] 90))) _ none 0 0 Z sp hs0 hs1 (by omega) (by (exact jkc)) (OwB.nil _ _ _) HZ.out.1 HZ.out.2.1).mono ?_; rintro e w' ⟨oA, cA, rfl, ⟨osA, dA, rfl⟩, h_A⟩; have HA := Lib.hid h_A; clear h_A); refine hK _ _ (Junk.pair (by (first | exact jkc | repeat (first | with_reducible exact Junk.refl _ | with_reducible exact Junk.app _ _ _ _ _ | with_reducible apply Junk.alloc | with_reducible apply Junk.junk | with_reducible apply Junk.drew | with_reducible apply Junk.drewN | (with_reducible refine Junk.setCell ?_ (by simp) _))))) ?_; clear hK K; refine wpMix_e rfl (fun osm4_1 dm4_1 K hK => ?_); (go_simp; try go_bits); (go_at_call 55; refine (uhalf_any ((w.alloc (.cells #[.int .i64 sp, .int .i64 dp, .bool false, .slice oa l ca] 90))) _ oA cA 2 Z dp hd0 hd1 (by omega) (by (exact jkc)) (HA.out.on (by (exact jkc))) HZ.out.2.2.1 HZ.out.2.2.2.1).mono ?_; rintro e w' ⟨oQ, cQ, rfl, ⟨osQ, dQ, rfl⟩, h_Q⟩; have HQ := Lib.hid h_Q; clear h_Q); refine hK _ _ (Junk.pair (by (first | exact jkc | repeat (first | with_reducible exact Junk.refl _ | with_reducible exact Junk.app _ _ _ _ _ | with_reducible apply Junk.alloc | with_reducible apply Junk.junk | with_reducible apply Junk.drew | with_reducible apply Junk.drewN | (with_reducible refine Junk.setCell ?_ (by simp) _))))) ?_; clear hK K; refine wpMix_e rfl (fun osm4_2 dm4_2 K hK => ?_); (go_simp; try go_bits); (go_at_call 55; refine (uhalf_any ((w.alloc (.cells #[.int .i64 sp, .int .i64 dp, .bool false, .slice oa l ca] 90))) _ oQ cQ 4 Z (L : Int) (by omega) (by omega) (by omega) (by (exact jkc)) (HQ.out.on (by (exact jkc))) HZ.out.2.2.2.2.1 HZ.out.2.2.2.2.2.1).mono ?_; rintro e w' ⟨oR, cR, rfl, ⟨osR, dR, rfl⟩, h_R⟩; have HR := Lib.hid h_R; clear h_R); refine hK _ _ (Junk.pair (by (first | exact jkc | repeat (first | with_reducible exact Junk.refl _ | with_reducible exact Junk.app _ _ _ _ _ | with_reducible apply Junk.alloc | with_reducible apply Junk.junk | with_reducible apply Junk.drew | with_reducible apply Junk.drewN | (with_reducible refine Junk.setCell ?_ (by simp) _))))) ?_; clear hK K; refine wpMix_e rfl (fun osm4_3 dm4_3 K hK => ?_); (go_simp; try go_bits); (go_at_call 55; refine (uhalf_any ((w.alloc (.cells #[.int .i64 sp, .int .i64 dp, .bool false, .slice oa l ca] 90))) _ oR cR 6 Z 0 (by omega) (by omega) (by omega) (by (exact jkc)) (HR.out.on (by (exact jkc))) HZ.out.2.2.2.2.2.2.1 HZ.out.2.2.2.2.2.2.2.1).mono ?_; rintro e w' ⟨oD, cD, rfl, ⟨osD, dD, rfl⟩, h_D⟩; have HD := Lib.hid h_D; clear h_D); refine hK _ _ (Junk.pair (by (first | exact jkc | repeat (first | with_reducible exact Junk.refl _ | with_reducible exact Junk.app _ _ _ _ _ | with_reducible apply Junk.alloc | with_reducible apply Junk.junk | with_reducible apply Junk.drew | with_reducible apply Junk.drewN | (with_reducible refine Junk.setCell ?_ (by simp) _))))) ?_; clear hK K; (iterate 1 (refine wpMix_q rfl (fun K hK => ?_); (go_simp; try go_bits); (refine hK _ ?_; clear hK K))); refine wpMix_nil (fun osm dm => ?_)
    go_upto_region 5 with (fail)
    go_upto_region 6 with (first | (at_builtin; (refine ap_bz (W0 := (w.alloc (.cells #[.int .i64 sp, .int .i64 dp, .bool false, .slice oa l ca] 90))) rfl _ _ rfl (by (exact jkc)) oD (cD) (8) (Z) rfl (HD.out.on (by (exact jkc))) oa (l) (ca) rfl (ints_congr (HB.out.at_.on (by (exact jkc))) (fun j _ => HZ.out.2.2.2.2.2.2.2.2 j)) ((fun h => HB.out.nil h)) (by omega) ?_; intro oE cE osE dE h_E hnE; have HE := Lib.hid h_E; clear h_E)))
    rw [HLL.out] at HE
    rw [HLL.out]
    (obtain ⟨g, rfl, hgB, hgS, hcells⟩ := own_some HE.out (by omega); obtain ⟨hc6, hf6⟩ := hcells 6 (.int .u8 (Z 6)) (by rw [bz, List.getElem?_map, List.getElem?_range (by omega)]; rfl); obtain ⟨hc7, hf7⟩ := hcells 7 (.int .u8 (Z 7)) (by rw [bz, List.getElem?_map, List.getElem?_range (by omega)]; rfl); have HBT := Lib.hid (HE.out.bts HBZ.out); clear hcells)
    go_upto_region 8 with (fail)
    have hJV : Junk w (((w.alloc (.cells #[.int .i64 sp, .int .i64 dp, .bool false, .slice oa l ca] 90))).junk osE dE) := by (exact jkc)
    have hgw : w.heap.size ≤ g := by simp at hgB; omega
    clear HE hgB
    generalize ((w.alloc (.cells #[.int .i64 sp, .int .i64 dp, .bool false, .slice oa l ca] 90))).junk osE dE = V at hgS hc6 hf6 hc7 hf7 HBT hJV ⊢
    have HJV := Lib.hid hJV
    clear hJV
    go_wp2_with (first | (go_at_call 56; (with_reducible refine (HSUM.out _ _ _ (HBT.out.at_.on (by (exact jkc)))).mono ?_); rintro e w' ⟨rfl, ⟨osj, dj, rfl⟩⟩))
    go_returns
    rw [HLL.out.symm] at HBT
    refine ⟨some ⟨g, 0, none⟩, cE, (by rw [HLL.out]; rfl), ?_, ?_⟩
    · exact (Junk.setCell (Junk.setCell HJV.out (a := ⟨g, 6, none⟩) hgw _) (a := ⟨g, 7, none⟩) hgw _).junk _ _
    · refine Bts.on (W := _) ?_ ⟨_, _, rfl⟩
      exact u_bts_congr (bts_set0 (bts_set0 HBT.out 6 _ (by omega)) 7 _ (by omega)) (fun i _ => by have := HSET.out _ HC.out i; rw [HZZ.out] at this; exact this)
  · rw [if_neg hX0] at hCX
    have hXC : bits .xor .u16 IntKind.u16.max X = C := by rw [hCX]; exact xor_u16 X hsb.1 (by omega)
    have hC0 : (C == 0) = false := by simp; omega
    have hC1 : (bits .xor .u16 (if IntKind.u16.signed = true then -1 else IntKind.u16.max) X == 0) = false := by rw [if_neg (by decide), hXC]; exact hC0
    have q7 : C / 256 % 256 = C / 256 := by omega
    have q8 := wrapk_u8 (C / 256) (by omega) (by omega)
    have q9 : IntKind.u8.wrap C = C % 256 := IntKind.wrap_u8 _
    clear hCX hX0
    go_enter Tryz.func27, Tryz.ntmps27
    go_wp2_with (first | (go_at_call 54; (with_reducible refine (p1.out _).mono ?_); rintro e w' ⟨rfl, rfl⟩) | (go_at_call 54; (with_reducible refine (p2.out _).mono ?_); rintro e w' ⟨rfl, rfl⟩))
    refine wp_region_mixj ((w.alloc (.cells #[.int .i64 sp, .int .i64 dp, .bool false, .slice oa l ca] 90))) [(0, true), (1, true), (3, true), (4, true), (6, true), (2, false), (5, false), (7, false), (8, false), (9, true)] (by kernel_rfl) (by kernel_rfl) (by (exact jkc)) ?_; (iterate 5 (refine wpMix_q rfl (fun K hK => ?_); (go_simp; try go_bits); (refine hK _ ?_; clear hK K))); refine wpMix_e rfl (fun osm4_0 dm4_0 K hK => ?_); (go_simp; try go_bits); (go_at_call 55; refine (uhalf_any ((w.alloc (.cells #[.int .i64 sp, .int .i64 dp, .bool false, .slice oa l ca] 90))) _ none 0 0 Z sp hs0 hs1 (by omega) (by (exact jkc)) (OwB.nil _ _ _) HZ.out.1 HZ.out.2.1).mono ?_; rintro e w' ⟨oA, cA, rfl, ⟨osA, dA, rfl⟩, h_A⟩; have HA := Lib.hid h_A; clear h_A); refine hK _ _ (Junk.pair (by (first | exact jkc | repeat (first | with_reducible exact Junk.refl _ | with_reducible exact Junk.app _ _ _ _ _ | with_reducible apply Junk.alloc | with_reducible apply Junk.junk | with_reducible apply Junk.drew | with_reducible apply Junk.drewN | (with_reducible refine Junk.setCell ?_ (by simp) _))))) ?_; clear hK K; refine wpMix_e rfl (fun osm4_1 dm4_1 K hK => ?_); (go_simp; try go_bits); (go_at_call 55; refine (uhalf_any ((w.alloc (.cells #[.int .i64 sp, .int .i64 dp, .bool false, .slice oa l ca] 90))) _ oA cA 2 Z dp hd0 hd1 (by omega) (by (exact jkc)) (HA.out.on (by (exact jkc))) HZ.out.2.2.1 HZ.out.2.2.2.1).mono ?_; rintro e w' ⟨oQ, cQ, rfl, ⟨osQ, dQ, rfl⟩, h_Q⟩; have HQ := Lib.hid h_Q; clear h_Q); refine hK _ _ (Junk.pair (by (first | exact jkc | repeat (first | with_reducible exact Junk.refl _ | with_reducible exact Junk.app _ _ _ _ _ | with_reducible apply Junk.alloc | with_reducible apply Junk.junk | with_reducible apply Junk.drew | with_reducible apply Junk.drewN | (with_reducible refine Junk.setCell ?_ (by simp) _))))) ?_; clear hK K; refine wpMix_e rfl (fun osm4_2 dm4_2 K hK => ?_); (go_simp; try go_bits); (go_at_call 55; refine (uhalf_any ((w.alloc (.cells #[.int .i64 sp, .int .i64 dp, .bool false, .slice oa l ca] 90))) _ oQ cQ 4 Z (L : Int) (by omega) (by omega) (by omega) (by (exact jkc)) (HQ.out.on (by (exact jkc))) HZ.out.2.2.2.2.1 HZ.out.2.2.2.2.2.1).mono ?_; rintro e w' ⟨oR, cR, rfl, ⟨osR, dR, rfl⟩, h_R⟩; have HR := Lib.hid h_R; clear h_R); refine hK _ _ (Junk.pair (by (first | exact jkc | repeat (first | with_reducible exact Junk.refl _ | with_reducible exact Junk.app _ _ _ _ _ | with_reducible apply Junk.alloc | with_reducible apply Junk.junk | with_reducible apply Junk.drew | with_reducible apply Junk.drewN | (with_reducible refine Junk.setCell ?_ (by simp) _))))) ?_; clear hK K; refine wpMix_e rfl (fun osm4_3 dm4_3 K hK => ?_); (go_simp; try go_bits); (go_at_call 55; refine (uhalf_any ((w.alloc (.cells #[.int .i64 sp, .int .i64 dp, .bool false, .slice oa l ca] 90))) _ oR cR 6 Z 0 (by omega) (by omega) (by omega) (by (exact jkc)) (HR.out.on (by (exact jkc))) HZ.out.2.2.2.2.2.2.1 HZ.out.2.2.2.2.2.2.2.1).mono ?_; rintro e w' ⟨oD, cD, rfl, ⟨osD, dD, rfl⟩, h_D⟩; have HD := Lib.hid h_D; clear h_D); refine hK _ _ (Junk.pair (by (first | exact jkc | repeat (first | with_reducible exact Junk.refl _ | with_reducible exact Junk.app _ _ _ _ _ | with_reducible apply Junk.alloc | with_reducible apply Junk.junk | with_reducible apply Junk.drew | with_reducible apply Junk.drewN | (with_reducible refine Junk.setCell ?_ (by simp) _))))) ?_; clear hK K; (iterate 1 (refine wpMix_q rfl (fun K hK => ?_); (go_simp; try go_bits); (refine hK _ ?_; clear hK K))); refine wpMix_nil (fun osm dm => ?_)
    go_upto_region 5 with (fail)
    go_upto_region 6 with (first | (at_builtin; (refine ap_bz (W0 := (w.alloc (.cells #[.int .i64 sp, .int .i64 dp, .bool false, .slice oa l ca] 90))) rfl _ _ rfl (by (exact jkc)) oD (cD) (8) (Z) rfl (HD.out.on (by (exact jkc))) oa (l) (ca) rfl (ints_congr (HB.out.at_.on (by (exact jkc))) (fun j _ => HZ.out.2.2.2.2.2.2.2.2 j)) ((fun h => HB.out.nil h)) (by omega) ?_; intro oE cE osE dE h_E hnE; have HE := Lib.hid h_E; clear h_E)))
    rw [HLL.out] at HE
    rw [HLL.out]
    (obtain ⟨g, rfl, hgB, hgS, hcells⟩ := own_some HE.out (by omega); obtain ⟨hc6, hf6⟩ := hcells 6 (.int .u8 (Z 6)) (by rw [bz, List.getElem?_map, List.getElem?_range (by omega)]; rfl); obtain ⟨hc7, hf7⟩ := hcells 7 (.int .u8 (Z 7)) (by rw [bz, List.getElem?_map, List.getElem?_range (by omega)]; rfl); have HBT := Lib.hid (HE.out.bts HBZ.out); clear hcells)
    go_upto_region 8 with (fail)
    have hJV : Junk w (((w.alloc (.cells #[.int .i64 sp, .int .i64 dp, .bool false, .slice oa l ca] 90))).junk osE dE) := by (exact jkc)
    have hgw : w.heap.size ≤ g := by simp at hgB; omega
    clear HE hgB
    generalize ((w.alloc (.cells #[.int .i64 sp, .int .i64 dp, .bool false, .slice oa l ca] 90))).junk osE dE = V at hgS hc6 hf6 hc7 hf7 HBT hJV ⊢
    have HJV := Lib.hid hJV
    clear hJV
    go_wp2_with (first | (go_at_call 56; (with_reducible refine (HSUM.out _ _ _ (HBT.out.at_.on (by (exact jkc)))).mono ?_); rintro e w' ⟨rfl, ⟨osj, dj, rfl⟩⟩))
    go_returns
    rw [HLL.out.symm] at HBT
    refine ⟨some ⟨g, 0, none⟩, cE, (by rw [HLL.out]; rfl), ?_, ?_⟩
    · exact (Junk.setCell (Junk.setCell HJV.out (a := ⟨g, 6, none⟩) hgw _) (a := ⟨g, 7, none⟩) hgw _).junk _ _
    · refine Bts.on (W := _) ?_ ⟨_, _, rfl⟩
      exact u_bts_congr (bts_set0 (bts_set0 HBT.out 6 _ (by omega)) 7 _ (by omega)) (fun i _ => by have := HSET.out _ HC.out i; rw [HZZ.out] at this; exact this)
end Go.Proofs.YtfhkhnoiolkkdaaGreatDoor
set_option linter.unusedVariables false
set_option maxRecDepth 100000
set_option linter.unusedSimpArgs false
namespace Go.Proofs.YtfhkhnoiolkkdaaGreatDoor
open Go.RowKit
theorem w2_byte {xs : Nat → Int} {k l : Nat} {v : Int} (hx : ∀ i, i < l → 0 ≤ xs i ∧ xs i ≤ 255) (hv : 0 ≤ v ∧ v ≤ 65535) : ∀ i, i < l → 0 ≤ w2 xs k v i ∧ w2 xs k v i ≤ 255 := fun i hi => by
  by_cases h1 : i = k
  · subst h1; rw [w2_hi]; omega
  · by_cases h2 : i = k + 1
    · subst h2; rw [w2_lo]; omega
    · rw [w2_ne h1 h2]; exact hx i hi
theorem bmI_byte {pl : Bool} {xs : Nat → Int} {k l : Nat} {o n : Int} (hk : k + 2 ≤ l) (hx : ∀ i, i < l → 0 ≤ xs i ∧ xs i ≤ 255) (ho : 0 ≤ o ∧ o ≤ 65535) (hn : 0 ≤ n ∧ n ≤ 65535) : ∀ i, i < l → 0 ≤ bmI pl k xs o n i ∧ bmI pl k xs o n i ≤ 255 := by
  unfold bmI
  split
  · exact hx
  · exact w2_byte hx (mendI_bd (wd_bd (hx k (by omega)) (hx (k + 1) (by omega))) ho hn)
theorem rwFin_byte {pl : Bool} {xs : Nat → Int} {k l : Nat} (hx : ∀ i, i < l → 0 ≤ xs i ∧ xs i ≤ 255) : ∀ i, i < l → 0 ≤ rwFin pl k xs i ∧ rwFin pl k xs i ≤ 255 := by
  unfold rwFin
  split
  · exact hx
  · split
    · exact w2_byte hx (by decide)
    · exact hx
theorem tnB_byte {xs : Nat → Int} {own addr port : Int} {P l : Nat} (hP : P = 0 ∨ P = 2) (hx : ∀ i, i < l → 0 ≤ xs i ∧ xs i ≤ 255) (hl8 : 8 ≤ l)
    (ho : 0 ≤ own ∧ own ≤ 4294967295) (ha : 0 ≤ addr ∧ addr ≤ 4294967295) (hp : 0 ≤ port ∧ port ≤ 65535) : ∀ i, i < l → 0 ≤ tnB xs own addr port P i ∧ tnB xs own addr port P i ≤ 255 := by
  have hPb := wd_bd (hx P (by omega)) (hx (P + 1) (by omega))
  unfold tnB
  exact rwFin_byte (bmI_byte (by omega) (bmI_byte (by omega) (w2_byte (bmI_byte (by omega) hx hPb hp) hp) (by omega) (by omega)) (by omega) (by omega))
theorem turned_err {src dst src' dst' port D : Int} {xs ys : Nat → Int} {l P : Nat} (h0 : udpErr src dst xs l = 0) (hz : ¬ wd xs 6 = 0) (hP : P = 0 ∨ P = 2) (hx : ∀ i, i < l → 0 ≤ xs i ∧ xs i ≤ 255) (hy : ∀ i, i < l → 0 ≤ ys i ∧ ys i ≤ 255)
    (hR : TnB xs ys P port D) (hD : D = adW src + adW dst - adW src' - adW dst') (hs : 0 ≤ src' ∧ src' ≤ 4294967295) (hd : 0 ≤ dst' ∧ dst' ≤ 4294967295) (hs0 : 0 ≤ src) (hd0 : 0 ≤ dst) : udpErr src' dst' ys l = 0 := by
  have hps : ∀ (pr n s d : Int), pseudoN s d pr n = adW s + adW d + pr + n := fun pr n s d => by unfold pseudoN adW; omega
  obtain ⟨r1, r2, r3, r4⟩ := hR
  have e4 : ys 4 = xs 4 := r1 4 (by omega) (by omega) (by omega) (by omega)
  have e5 : ys 5 = xs 5 := r1 5 (by omega) (by omega) (by omega) (by omega)
  have eS : uSize ys = uSize xs := by unfold uSize; rw [e4, e5]
  unfold udpErr at h0 ⊢
  rw [eS]
  split at h0
  · cases h0
  · rename_i g1
    rw [if_neg g1]
    split at h0
    · cases h0
    · rename_i g2
      rw [if_neg g2]
      split at h0
      · cases h0
      · rename_i g3
        rw [if_neg]
        intro hc
        refine hc.2 ?_
        have g4 : usumN src dst xs (uSize xs) = 65535 := Decidable.of_not_not fun h => g3 ⟨hz, h⟩
        have hr := rawN_two (a := P) (k := 6) (n := uSize xs) (by omega) (by omega) (by omega) (by omega) (by omega) r1 (fun i hi => hy i (by omega))
        have hb := rawN_bd xs (uSize xs) (fun i hi => hx i (by omega))
        have hb2 := rawN_bd ys (uSize xs) (fun i hi => hy i (by omega))
        have hw := rawN_word (k := 6) (n := uSize xs) (by omega) (by omega) (fun i hi => hy i (by omega))
        unfold usumN at g4 ⊢
        have a1 : ∀ a : Int, 0 ≤ a → 0 ≤ adW a := fun a h => by unfold adW; omega
        have q1 := a1 src' hs.1
        have q2 := a1 dst' hd.1
        rw [hps] at g4 ⊢
        have hnn : 0 ≤ adW src + adW dst + 17 + (uSize xs : Int) + rawN xs (uSize xs) := by
          have q3 := a1 src hs0
          have q4 := a1 dst hd0
          omega
        rw [foldI_iff hnn] at g4
        rw [foldI_iff (by omega)]
        refine ⟨by omega, ?_⟩
        subst hD
        obtain ⟨_, g5⟩ := g4
        rw [hr, r2]
        omega
theorem UdP.tnS {p : Ip} {s d addr port : Int} (h : UdP p s d) (ha : 0 ≤ addr ∧ addr ≤ 4294967295) (hp : 0 ≤ port ∧ port ≤ 65535) : UdP (tnS p addr port) port d := by
  have R := tnB_plain (P := 0) (l := p.bl) (.inl rfl) h.w.body h.len h.w.src ha hp
  have B := tnB_byte (P := 0) (l := p.bl) (.inl rfl) h.w.body h.len h.w.src ha hp
  exact ⟨h.mf, h.off, h.pr, turned_err (src' := addr) (dst' := p.dst) h.err h.sum (.inl rfl) h.w.body B R (by omega) ha h.w.dst h.w.src.1 h.w.dst.1, (by have := R.sum.1; show ¬ wd (tnB _ _ _ _ _) 6 = 0; omega), ⟨ha, h.w.dst, B⟩, R.prt, (wd_at (R.same 2 (by omega) (by omega) (by omega) (by omega)) (R.same 3 (by omega) (by omega) (by omega) (by omega))).trans h.dp⟩
theorem UdP.tnD {p : Ip} {s d addr port : Int} (h : UdP p s d) (ha : 0 ≤ addr ∧ addr ≤ 4294967295) (hp : 0 ≤ port ∧ port ≤ 65535) : UdP (tnD p addr port) s port := by
  have R := tnB_plain (P := 2) (l := p.bl) (.inr rfl) h.w.body h.len h.w.dst ha hp
  have B := tnB_byte (P := 2) (l := p.bl) (.inr rfl) h.w.body h.len h.w.dst ha hp
  exact ⟨h.mf, h.off, h.pr, turned_err (src' := p.src) (dst' := addr) h.err h.sum (.inr rfl) h.w.body B R (by omega) h.w.src ha h.w.src.1 h.w.dst.1, (by have := R.sum.1; show ¬ wd (tnB _ _ _ _ _) 6 = 0; omega), ⟨h.w.src, ha, B⟩, (wd_at (R.same 0 (by omega) (by omega) (by omega) (by omega)) (R.same 1 (by omega) (by omega) (by omega) (by omega))).trans h.sp, R.prt⟩
end Go.Proofs.YtfhkhnoiolkkdaaGreatDoor
set_option linter.unusedVariables false
set_option maxRecDepth 100000
set_option linter.unusedSimpArgs false
namespace Go.Proofs.YtfhkhnoiolkkdaaGreatDoor
open Go.RowKit
structure ParseOk (xs : Nat → Int) (l : Nat) : Prop where
  len : LenOk xs l
  top : ipFlags xs / 32768 = 0
  pc : piecesB (parseIp xs) = true
theorem parseErr_of {xs : Nat → Int} {l : Nat} (h : ParseOk xs l) : parseErr xs l = 0 := by
  unfold parseErr
  rw [lenErr_of h.len, if_neg (by decide), if_pos ⟨h.top, h.pc⟩]
theorem headB_sum (p : Ip) (c : Int) : ∀ n, 12 ≤ n → rawN (headB p c) n = rawN (headB p 0) n + c := by
  intro n hn
  obtain ⟨k, rfl⟩ : ∃ k, n = 12 + k := ⟨n - 12, by omega⟩
  induction k with
  | zero => simp [rawN, headB]; omega
  | succ k ih =>
    have := ih (by omega)
    show rawN (headB p c) ((12 + k) + 1) = rawN (headB p 0) ((12 + k) + 1) + c
    simp only [rawN]
    rw [this]
    have e : headB p c (12 + k) = headB p 0 (12 + k) := by
      rcases twenty (12 + k) with h | h | h | h | h | h | h | h | h | h | h | h | h | h | h | h | h | h | h | h | ⟨j, h⟩
      all_goals first | omega | (rw [h]; rfl)
    rw [e]; split <;> omega
theorem pkt_sum {p : Ip} (h : MayP p) (hs : 0 ≤ p.src ∧ p.src ≤ 4294967295) (hd : 0 ≤ p.dst ∧ p.dst ≤ 4294967295) (ho : ∀ i, i < p.ol → 0 ≤ p.opts i ∧ p.opts i ≤ 255) : sumN (pktB p) (20 + p.ol) = 65535 := by
  have e : sumN (pktB p) (20 + p.ol) = sumN (headB p (hdrSum p)) (20 + p.ol) := sumN_congr fun i hi => by unfold pktB; rw [if_pos hi]
  rw [e]
  unfold sumN
  rw [headB_sum p _ _ (by omega)]
  unfold hdrSum sumN
  exact foldI_full (rawN_bd _ _ (headB_byte h (by omega) hs hd ho)).1
theorem pkt_head (p : Ip) (i : Nat) (h : i < 20 + p.ol) : pktB p i = headB p (hdrSum p) i := by unfold pktB; rw [if_pos h]
theorem pkt_ver2 {p : Ip} (h : p.ol ≤ 40) (h4 : p.ol % 4 = 0) : pktB p 0 / 16 = 4 ∧ pktB p 0 % 16 * 4 = 20 + p.ol := by
  rw [pkt_head p 0 (by omega)]
  simp only [headB]
  omega
def behind (n : Nat) (ys xs : Nat → Int) : Nat → Int := fun i => if i < n then ys i else xs (i - n)
theorem parse_put {p : Ip} {m : Nat} {xs : Nat → Int} (h : MayP p) (hs : 0 ≤ p.src ∧ p.src ≤ 4294967295) (hd : 0 ≤ p.dst ∧ p.dst ≤ 4294967295) (ho : ∀ i, i < p.ol → 0 ≤ p.opts i ∧ p.opts i ≤ 255) (hb : ∀ i, i < p.bl → 0 ≤ p.body i ∧ p.body i ≤ 255) :
    parseErr (behind (20 + p.ol + p.bl) (pktB p) xs) (20 + p.ol + p.bl + m) = 0 ∧ (∃ opts body, parseIp (behind (20 + p.ol + p.bl) (pktB p) xs) = ⟨p.tos, p.id, p.df, p.mf, p.off, p.ttl, p.proto, p.src, p.dst, p.ol, opts, p.bl, body⟩ ∧ (∀ i, i < p.ol → opts i = p.opts i) ∧ ∀ i, i < p.bl → body i = p.body i) := by
  have hv := pkt_ver2 h.ol h.ol4
  have hfit := h.fit
  have hoff := h.off
  have hof8 := h.off8
  have hid := h.id
  have hol := h.ol
  have hbd := bitsI_bd hoff.1 hoff.2
  have y : ∀ i, i < 20 + p.ol → behind (20 + p.ol + p.bl) (pktB p) xs i = headB p (hdrSum p) i := fun i hi => by
    unfold behind; rw [if_pos (by omega), pkt_head p i hi]
  have y0 : behind (20 + p.ol + p.bl) (pktB p) xs 0 = pktB p 0 := by unfold behind; rw [if_pos (by omega)]
  have y1 : behind (20 + p.ol + p.bl) (pktB p) xs 1 = p.tos := y 1 (by omega)
  have y2 : behind (20 + p.ol + p.bl) (pktB p) xs 2 = (20 + (p.ol : Int) + p.bl) / 256 := y 2 (by omega)
  have y3 : behind (20 + p.ol + p.bl) (pktB p) xs 3 = (20 + (p.ol : Int) + p.bl) % 256 := y 3 (by omega)
  have y4 : behind (20 + p.ol + p.bl) (pktB p) xs 4 = p.id / 256 := y 4 (by omega)
  have y5 : behind (20 + p.ol + p.bl) (pktB p) xs 5 = p.id % 256 := y 5 (by omega)
  have y6 : behind (20 + p.ol + p.bl) (pktB p) xs 6 = bitsI p / 256 := y 6 (by omega)
  have y7 : behind (20 + p.ol + p.bl) (pktB p) xs 7 = bitsI p % 256 := y 7 (by omega)
  have y8 : behind (20 + p.ol + p.bl) (pktB p) xs 8 = p.ttl := y 8 (by omega)
  have y9 : behind (20 + p.ol + p.bl) (pktB p) xs 9 = p.proto := y 9 (by omega)
  have y12 : behind (20 + p.ol + p.bl) (pktB p) xs 12 = p.src / 65536 / 256 := y 12 (by omega)
  have y13 : behind (20 + p.ol + p.bl) (pktB p) xs 13 = p.src / 65536 % 256 := y 13 (by omega)
  have y14 : behind (20 + p.ol + p.bl) (pktB p) xs 14 = p.src % 65536 / 256 := y 14 (by omega)
  have y15 : behind (20 + p.ol + p.bl) (pktB p) xs 15 = p.src % 256 := y 15 (by omega)
  have y16 : behind (20 + p.ol + p.bl) (pktB p) xs 16 = p.dst / 65536 / 256 := y 16 (by omega)
  have y17 : behind (20 + p.ol + p.bl) (pktB p) xs 17 = p.dst / 65536 % 256 := y 17 (by omega)
  have y18 : behind (20 + p.ol + p.bl) (pktB p) xs 18 = p.dst % 65536 / 256 := y 18 (by omega)
  have y19 : behind (20 + p.ol + p.bl) (pktB p) xs 19 = p.dst % 256 := y 19 (by omega)
  have yo : ∀ k, k < p.ol → behind (20 + p.ol + p.bl) (pktB p) xs (20 + k) = p.opts k := fun k hk => by
    rw [y (20 + k) (by omega), Nat.add_comm]; rfl
  have yb : ∀ k, k < p.bl → behind (20 + p.ol + p.bl) (pktB p) xs (20 + p.ol + k) = p.body k := fun k hk => by
    unfold behind pktB; rw [if_pos (by omega), if_neg (by omega), Nat.add_sub_cancel_left]
  have ysum : sumN (behind (20 + p.ol + p.bl) (pktB p) xs) (20 + p.ol) = 65535 := by
    rw [← pkt_sum h hs hd ho]
    exact sumN_congr fun i hi => by unfold behind; rw [if_pos (by omega)]
  generalize behind (20 + p.ol + p.bl) (pktB p) xs = ys at *
  have hS : ipSize ys = 20 + p.ol := by unfold ipSize; rw [y0]; omega
  have hT : ipTotal ys = 20 + p.ol + p.bl := by unfold ipTotal; rw [y2, y3]; omega
  have hF : ipFlags ys = bitsI p := by unfold ipFlags; rw [y6, y7]; omega
  have hfl : bitsI p % 8192 * 8 = p.off ∧ (bitsI p / 16384 % 2 == 1) = p.df ∧ (bitsI p / 8192 % 2 == 1) = p.mf := by
    unfold bitsI
    cases p.df <;> cases p.mf
    all_goals simp
    all_goals omega
  have hq : (parseIp ys).tos = p.tos ∧ (parseIp ys).id = p.id ∧ (parseIp ys).df = p.df ∧ (parseIp ys).mf = p.mf ∧ (parseIp ys).off = p.off ∧ (parseIp ys).ttl = p.ttl ∧ (parseIp ys).proto = p.proto ∧ (parseIp ys).src = p.src ∧ (parseIp ys).dst = p.dst ∧ (parseIp ys).ol = p.ol ∧ (parseIp ys).bl = p.bl := by
    refine ⟨y1, ?_, ?_, ?_, ?_, y8, y9, ?_, ?_, ?_, ?_⟩
    · show ys 4 * 256 + ys 5 = _; omega
    · show (ipFlags ys / 16384 % 2 == 1) = _; rw [hF]; exact hfl.2.1
    · show (ipFlags ys / 8192 % 2 == 1) = _; rw [hF]; exact hfl.2.2
    · show ipFlags ys % 8192 * 8 = _; rw [hF]; exact hfl.1
    · show (ys 12 * 256 + ys 13) * 65536 + (ys 14 * 256 + ys 15) = _; omega
    · show (ys 16 * 256 + ys 17) * 65536 + (ys 18 * 256 + ys 19) = _; omega
    · show ipSize ys - 20 = _; omega
    · show ipTotal ys - ipSize ys = _; omega
  obtain ⟨q1, q2, q3, q4, q5, q6, q7, q8, q9, q10, q11⟩ := hq
  refine ⟨parseErr_of ⟨⟨by omega, by omega, by omega, by omega, by omega, by omega, by rw [hS]; exact ysum⟩, by rw [hF]; omega, ?_⟩, ?_⟩
  · have hm := may_iff.2 h
    simp only [mayB, Bool.and_eq_true] at hm
    have hp := hm.2
    unfold piecesB at hp ⊢
    rw [q4, q5, q10, q11]
    exact hp
  · refine ⟨(parseIp ys).opts, (parseIp ys).body, ?_, fun i hi => ?_, fun i hi => ?_⟩
    · rw [← q1, ← q2, ← q3, ← q4, ← q5, ← q6, ← q7, ← q8, ← q9, ← q10, ← q11]
    · exact yo i hi
    · show ys (ipSize ys + i) = _; rw [hS]; exact yb i hi
theorem IpPutM.okP {w w' : World} {p : Ip} {e : Ending} (h : IpPutM w p e w') (h0 : mayB p = true) : ∃ (ob : Option Addr) (cb : Nat), e = .returned (.tuple #[.slice ob (20 + p.ol + p.bl) cb, .int .i64 0]) ∧ Junk w w' ∧ Bts w' ob (20 + p.ol + p.bl) cb (pktB p) ∧
    Own w.heap.size w' 5 1 ob cb (20 + p.ol + p.bl) (bytesL (20 + p.ol + p.bl) (pktB p)) := by
  obtain ⟨ob, lb, cb, rfl, hj, hb, ⟨h1, rfl, ho⟩ | ⟨h1, _⟩⟩ := h
  · exact ⟨ob, cb, by simp [ipErr, h0], hj, hb, ho⟩
  · rw [h0] at h1; cases h1
theorem IpParseM.okP {w w' : World} {xs : Nat → Int} {l : Nat} {e : Ending} (h : IpParseM w xs l e w') (h0 : parseErr xs l = 0) :
    ∃ (oo ob : Option Addr) (oc bc : Nat), e = .returned (.tuple #[.agg #[.int .i64 (parseIp xs).tos, .int .i64 (parseIp xs).id, .bool (parseIp xs).df, .bool (parseIp xs).mf, .int .i64 (parseIp xs).off, .int .i64 (parseIp xs).ttl, .int .i64 (parseIp xs).proto, .int .u32 (parseIp xs).src, .int .u32 (parseIp xs).dst, .slice oo (parseIp xs).ol oc, .slice ob (parseIp xs).bl bc], .int .i64 0]) ∧ Junk w w' ∧ IpAt w' (parseIp xs) oo oc ob bc := by
  obtain ⟨p, oo, ob, oc, bc, rfl, hj, hp, ⟨_, rfl⟩ | ⟨h1, _⟩⟩ := h
  · exact ⟨oo, ob, oc, bc, by rw [h0], hj, hp⟩
  · exact absurd h0 h1
def Pk (T src dst : Int) (bl : Nat) (body : Nat → Int) : Ip := ⟨0, 0, false, false, 0, T, 17, src, dst, 0, fun _ => 0, bl, body⟩
theorem pk_may {T src dst : Int} {bl : Nat} {body : Nat → Int} (hT : 0 ≤ T ∧ T ≤ 255) (hb : bl ≤ 1000) : mayB (Pk T src dst bl body) = true := by
  rw [may_iff]
  exact ⟨(by decide : (0 : Int) ≤ 0 ∧ (0 : Int) ≤ 255), hT, (by decide : (0 : Int) ≤ 17 ∧ (17 : Int) ≤ 255), (by decide : (0 : Int) ≤ 0 ∧ (0 : Int) ≤ 65535), (by decide : (0 : Int) ≤ 0 ∧ (0 : Int) ≤ 65528), rfl, (by decide : 0 ≤ 40), rfl, (by show 20 + ((0 : Nat) : Int) + 0 + bl ≤ 65535; omega), fun h => by cases h⟩
end Go.Proofs.YtfhkhnoiolkkdaaGreatDoor
set_option linter.unusedVariables false
set_option maxRecDepth 100000
set_option linter.unusedSimpArgs false
namespace Go.Proofs.YtfhkhnoiolkkdaaGreatDoor
open Go.RowKit
theorem bts_over25 {V : World} {cur cur' : Array Value} {t : TypeId} {os : Array Obj} {d : Nat} {oa : Option Addr} {l c : Nat} {xs : Nat → Int}
    (h : Bts ((V.alloc (.cells cur t)).junk os d) oa l c xs) (hn : ∀ (i : Nat) (v : Int), cur[i]? ≠ some (.int .u8 v)) : Bts ((V.alloc (.cells cur' t)).junk os d) oa l c xs := by
  refine ⟨fun i hi => ?_, h.byte, h.nil, h.le, h.cap⟩
  obtain ⟨b, off, he, hlt, hc⟩ := h.at_ i hi
  by_cases hb : b = V.heap.size
  · subst hb
    rw [World.cell?_junk _ _ _ _ _ (by simp), World.cell?_alloc_new] at hc
    exact absurd hc (hn _ _)
  · refine ⟨b, off, he, by simpa using hlt, ?_⟩
    rw [← hc]
    apply World.cell?_of_block
    simp only [World.junk, World.alloc]
    rcases Nat.lt_or_gt_of_ne hb with h1 | h1
    · rw [Array.getElem?_append_left (by simp; omega), Array.getElem?_append_left (by simp; omega), Array.getElem?_push, Array.getElem?_push, if_neg hb, if_neg hb]
    · rw [Array.getElem?_append_right (by simp; omega), Array.getElem?_append_right (by simp; omega)]
      simp
theorem ip0_nb : ∀ (i : Nat) (v : Int), (#[.int .i64 0, .int .i64 0, .bool false, .bool false, .int .i64 0, .int .i64 0, .int .i64 0, .int .u32 0, .int .u32 0, .slice none 0 0, .slice none 0 0] : Array Value)[i]? ≠ some (.int .u8 v) := by
  intro i v h
  rcases i with _ | _ | _ | _ | _ | _ | _ | _ | _ | _ | _ | i <;> simp at h
theorem ipAt_over25 {V : World} {cur cur' : Array Value} {t : TypeId} {os : Array Obj} {d : Nat} {q : Ip} {oo ob : Option Addr} {oc bc : Nat}
    (h : IpAt ((V.alloc (.cells cur t)).junk os d) q oo oc ob bc) (hn : ∀ (i : Nat) (v : Int), cur[i]? ≠ some (.int .u8 v)) : IpAt ((V.alloc (.cells cur' t)).junk os d) q oo oc ob bc :=
  ⟨bts_over25 h.opts hn, bts_over25 h.body hn, h.src, h.dst⟩
theorem ipAt_swap2 {A : World} {cur cur' : Array Value} {t : TypeId} {o3 : Obj} {os1 os : Array Obj} {d1 d : Nat} {q : Ip} {oo ob : Option Addr} {oc bc : Nat}
    (h : IpAt ((((A.alloc (.cells cur t)).junk os1 d1).alloc o3).junk os d) q oo oc ob bc) (hn : ∀ (i : Nat) (v : Int), cur[i]? ≠ some (.int .u8 v)) : IpAt ((((A.alloc (.cells cur' t)).junk os1 d1).alloc o3).junk os d) q oo oc ob bc :=
  ⟨bts_swap2 h.opts hn, bts_swap2 h.body hn, h.src, h.dst⟩
set_option maxHeartbeats 4000000 in
theorem rsrc_ud (p : Ip) (s d : Int) (oo ob : Option Addr) (oc bc : Nat) (addr port : Int) (w : World) (hP : IpAt w p oo oc ob bc) (hU : UdP p s d) (hl : p.bl ≤ 100000000) (hol : p.ol ≤ 100000000) (haddr : 0 ≤ addr ∧ addr ≤ 4294967295) (hport : 0 ≤ port ∧ port ≤ 65535) :
    Calls Tryz.prog 263 #[.agg #[.int .i64 p.tos, .int .i64 p.id, .bool p.df, .bool p.mf, .int .i64 p.off, .int .i64 p.ttl, .int .i64 p.proto, .int .u32 p.src, .int .u32 p.dst, .slice oo p.ol oc, .slice ob p.bl bc], .int .u32 addr, .int .i64 port] w (RtM w (tnS p addr port)) := by
  have HP := Lib.hid hP
  have h8 := hU.len
  have hpr := hU.pr
  have HT := Lib.hid (fun w1 (hp : IpAt w1 p oo oc ob bc) => rturnS_ok p oo ob oc bc addr port w1 hp hl hol haddr hport hU.of h8 6 (by rw [hpr]; rfl) (by omega) false (by unfold rwPlain; rw [hpr]; simp [hU.sum]) rfl hU.sum (by rw [hpr]; decide) 0 rfl)
  unfold RtM at HT
  obtain ⟨q, hq⟩ : ∃ q, tnS p addr port = q := ⟨_, rfl⟩
  have HQ := Lib.hid hq
  rw [hq]
  replace HT := Lib.hid (fun w1 (hp : IpAt w1 p oo oc ob bc) => by have := HT.out w1 hp; exact (show Calls Tryz.prog 304 #[.agg #[.int .i64 0, .func (.func 303) #[] #[]], .agg #[.int .i64 p.tos, .int .i64 p.id, .bool p.df, .bool p.mf, .int .i64 p.off, .int .i64 p.ttl, .int .i64 p.proto, .int .u32 p.src, .int .u32 p.dst, .slice oo p.ol oc, .slice ob p.bl bc], .int .u32 addr, .int .i64 port] w1 (RtM w1 q) by rw [← hq]; exact this))
  unfold RtM at HT
  clear hq hP hU hpr
  go_enter Tryz.func263, Tryz.ntmps263
  go_wp2_with (first | (go_at_call 304; (with_reducible refine (HT.out _ (HP.out.on (by (exact jkc)))).mono ?_); rintro e w' ⟨oo2, ob2, oc2, bc2, rfl, ⟨os2, d2, rfl⟩, hP2⟩; have HP2 := Lib.hid hP2; clear hP2))
  go_returns
  exact ⟨oo2, ob2, oc2, bc2, rfl, by (exact jkc), ipAt_over25 HP2.out ip0_nb⟩
set_option maxHeartbeats 4000000 in
theorem rdst_ud (p : Ip) (s d : Int) (oo ob : Option Addr) (oc bc : Nat) (addr port : Int) (w : World) (hP : IpAt w p oo oc ob bc) (hU : UdP p s d) (hl : p.bl ≤ 100000000) (hol : p.ol ≤ 100000000) (haddr : 0 ≤ addr ∧ addr ≤ 4294967295) (hport : 0 ≤ port ∧ port ≤ 65535) :
    Calls Tryz.prog 264 #[.agg #[.int .i64 p.tos, .int .i64 p.id, .bool p.df, .bool p.mf, .int .i64 p.off, .int .i64 p.ttl, .int .i64 p.proto, .int .u32 p.src, .int .u32 p.dst, .slice oo p.ol oc, .slice ob p.bl bc], .int .u32 addr, .int .i64 port] w (RtM w (tnD p addr port)) := by
  have HP := Lib.hid hP
  have h8 := hU.len
  have hpr := hU.pr
  have HT := Lib.hid (fun w1 (hp : IpAt w1 p oo oc ob bc) => rturnD_ok p oo ob oc bc addr port w1 hp hl hol haddr hport hU.of h8 6 (by rw [hpr]; rfl) (by omega) false (by unfold rwPlain; rw [hpr]; simp [hU.sum]) rfl hU.sum (by rw [hpr]; decide) 2 rfl)
  unfold RtM at HT
  obtain ⟨q, hq⟩ : ∃ q, tnD p addr port = q := ⟨_, rfl⟩
  have HQ := Lib.hid hq
  rw [hq]
  replace HT := Lib.hid (fun w1 (hp : IpAt w1 p oo oc ob bc) => by have := HT.out w1 hp; exact (show Calls Tryz.prog 304 #[.agg #[.int .i64 2, .func (.func 305) #[] #[]], .agg #[.int .i64 p.tos, .int .i64 p.id, .bool p.df, .bool p.mf, .int .i64 p.off, .int .i64 p.ttl, .int .i64 p.proto, .int .u32 p.src, .int .u32 p.dst, .slice oo p.ol oc, .slice ob p.bl bc], .int .u32 addr, .int .i64 port] w1 (RtM w1 q) by rw [← hq]; exact this))
  unfold RtM at HT
  clear hq hP hU hpr
  go_enter Tryz.func264, Tryz.ntmps264
  go_wp2_with (first | (go_at_call 304; (with_reducible refine (HT.out _ (HP.out.on (by (exact jkc)))).mono ?_); rintro e w' ⟨oo2, ob2, oc2, bc2, rfl, ⟨os2, d2, rfl⟩, hP2⟩; have HP2 := Lib.hid hP2; clear hP2))
  go_returns
  exact ⟨oo2, ob2, oc2, bc2, rfl, by (exact jkc), ipAt_over25 HP2.out ip0_nb⟩
set_option maxHeartbeats 4000000 in
theorem rboth_ud (p : Ip) (s d : Int) (oo ob : Option Addr) (oc bc : Nat) (tp ts sp td dp : Int) (w : World) (hP : IpAt w p oo oc ob bc) (hU : UdP p s d) (htp : tp = 17) (hl : p.bl ≤ 100000000) (hol : p.ol ≤ 100000000) (hts : 0 ≤ ts ∧ ts ≤ 4294967295) (htd : 0 ≤ td ∧ td ≤ 4294967295) (hsp : 0 ≤ sp ∧ sp ≤ 65535) (hdp : 0 ≤ dp ∧ dp ≤ 65535) :
    Calls Tryz.prog 199 #[.agg #[.int .i64 p.tos, .int .i64 p.id, .bool p.df, .bool p.mf, .int .i64 p.off, .int .i64 p.ttl, .int .i64 p.proto, .int .u32 p.src, .int .u32 p.dst, .slice oo p.ol oc, .slice ob p.bl bc], .agg #[.int .i64 tp, .int .u32 ts, .int .i64 sp, .int .u32 td, .int .i64 dp]] w (RtM w (tnD (tnS p ts sp) td dp)) := by
  have HP := Lib.hid hP
  have HS := Lib.hid (fun w1 (hp : IpAt w1 p oo oc ob bc) => rsrc_ud p s d oo ob oc bc ts sp w1 hp hU hl hol hts hsp)
  unfold RtM at HS
  have hqb : (tnS p ts sp).bl ≤ 100000000 := hl
  have hqo : (tnS p ts sp).ol ≤ 100000000 := hol
  have hq2 := hU.tnS hts hsp
  have g1 : (p.proto != tp) = false := by rw [hU.pr, htp]; rfl
  have g2 : (tp == 1) = false := by rw [htp]; rfl
  obtain ⟨q, hq⟩ : ∃ q, tnS p ts sp = q := ⟨_, rfl⟩
  rw [hq] at HS hqb hqo hq2 ⊢
  have HD := Lib.hid (fun oo2 ob2 oc2 bc2 w1 (hp : IpAt w1 q oo2 oc2 ob2 bc2) => rdst_ud q sp d oo2 ob2 oc2 bc2 td dp w1 hp hq2 hqb hqo htd hdp)
  unfold RtM at HD
  obtain ⟨r, hr⟩ : ∃ r, tnD q td dp = r := ⟨_, rfl⟩
  rw [hr] at HD ⊢
  clear hq hP hqb hqo hr hU hq2 htp
  go_enter Tryz.func199, Tryz.ntmps199
  go_wp2_with (first | (go_at_call 263; (with_reducible refine (HS.out _ (HP.out.on (by (exact jkc)))).mono ?_); rintro e w' ⟨oo2, ob2, oc2, bc2, rfl, ⟨os2, d2, rfl⟩, hP2⟩; have HP2 := Lib.hid hP2; clear hP2) | (go_at_call 264; (with_reducible refine (HD.out oo2 ob2 oc2 bc2 _ (HP2.out.on (by (exact jkc)))).mono ?_); rintro e w' ⟨oo3, ob3, oc3, bc3, rfl, ⟨os3, d3, rfl⟩, hP3⟩; have HP3 := Lib.hid hP3; clear hP3))
  go_returns
  exact ⟨oo3, ob3, oc3, bc3, rfl, by (exact jkc), ipAt_swap2 HP3.out ip0_nb⟩
end Go.Proofs.YtfhkhnoiolkkdaaGreatDoor
set_option linter.unusedVariables false
set_option maxRecDepth 100000
set_option linter.unusedSimpArgs false
namespace Go.Proofs.YtfhkhnoiolkkdaaGreatDoor
open Go.RowKit
abbrev pkV (T src dst : Int) (bl : Nat) (oo ob : Option Addr) (oc bc : Nat) : Value := .agg #[.int .i64 0, .int .i64 0, .bool false, .bool false, .int .i64 0, .int .i64 T, .int .i64 17, .int .u32 src, .int .u32 dst, .slice oo 0 oc, .slice ob bl bc]
theorem pk_put (T src dst : Int) (bl : Nat) (body : Nat → Int) (oo ob : Option Addr) (oc bc : Nat) (w : World) (hT : 0 ≤ T ∧ T ≤ 255) (hb : bl ≤ 1000) (hP : IpAt w (Pk T src dst bl body) oo oc ob bc) :
    Calls Tryz.prog 28 #[.agg #[.int .i64 0, .int .i64 0, .bool false, .bool false, .int .i64 0, .int .i64 T, .int .i64 17, .int .u32 src, .int .u32 dst, .slice oo 0 oc, .slice ob bl bc]] w fun e w' => ∃ (o : Option Addr) (c : Nat), e = .returned (.tuple #[.slice o (20 + bl) c, .int .i64 0]) ∧ Junk w w' ∧ Bts w' o (20 + bl) c (pktB (Pk T src dst bl body)) ∧ Own w.heap.size w' 5 1 o c (20 + bl) (bytesL (20 + bl) (pktB (Pk T src dst bl body))) :=
  (ipPut_any (Pk T src dst bl body) oo ob oc bc w (by show 0 ≤ _; omega) (by show bl ≤ _; omega) hP).mono fun e w' h => h.okP (pk_may hT hb)
theorem pk_parse (T src dst : Int) (bl : Nat) (body : Nat → Int) (o : Option Addr) (c : Nat) (w : World) (hT : 0 ≤ T ∧ T ≤ 255) (hb : bl ≤ 1000) (hs : 0 ≤ src ∧ src ≤ 4294967295) (hd : 0 ≤ dst ∧ dst ≤ 4294967295) (hby : ∀ i, i < bl → 0 ≤ body i ∧ body i ≤ 255) (hB : Bts w o (20 + bl) c (pktB (Pk T src dst bl body))) :
    Calls Tryz.prog 29 #[.slice o ((20 + bl : Nat)) c] w fun e w' => ∃ (oo ob : Option Addr) (oc bc : Nat), e = .returned (.tuple #[pkV T src dst bl oo ob oc bc, .int .i64 0]) ∧ Junk w w' ∧ IpAt w' (Pk T src dst bl body) oo oc ob bc := by
  have hB2 : Bts w o (20 + bl) c (behind (20 + bl) (pktB (Pk T src dst bl body)) (fun _ => 0)) := u_bts_congr hB fun i hi => by unfold behind; rw [if_pos hi]
  obtain ⟨h0, opts, bd, he, h1, h2⟩ := parse_put (p := Pk T src dst bl body) (m := 0) (xs := fun _ => 0) (may_iff.1 (pk_may hT hb)) hs hd (fun i hi => absurd hi (Nat.not_lt_zero i)) hby
  refine (ipParse_any o (20 + bl) c _ w (by omega) hB2).mono fun e w' h => ?_
  obtain ⟨oo, ob, oc, bc, rfl, hj, hp⟩ := h.okP h0
  have he2 : parseIp (behind (20 + bl) (pktB (Pk T src dst bl body)) (fun _ => 0)) = ⟨0, 0, false, false, 0, T, 17, src, dst, 0, opts, bl, bd⟩ := he
  rw [he2] at hp ⊢
  exact ⟨oo, ob, oc, bc, rfl, hj, ⟨u_bts_congr hp.opts fun i hi => absurd hi (Nat.not_lt_zero i), u_bts_congr hp.body h2, hp.src, hp.dst⟩⟩
theorem pk_of (T src dst : Int) (bl : Nat) (body : Nat → Int) (s d : Int) (oo ob : Option Addr) (oc bc : Nat) (w : World) (hU : UdP (Pk T src dst bl body) s d) (hb : bl ≤ 1000) (hP : IpAt w (Pk T src dst bl body) oo oc ob bc) :
    Calls Tryz.prog 32 #[pkV T src dst bl oo ob oc bc] w fun e w' => e = .returned (.tuple #[.agg #[.int .i64 17, .int .u32 src, .int .i64 s, .int .u32 dst, .int .i64 d], .int .i64 0]) ∧ Junk w w' := by
  have h := tup_of_any (.int .i64 0) (.int .i64 0) (.bool false) (.int .i64 T) (.slice oo 0 oc) false 0 17 src dst ob bl bc body w hU.w.src hU.w.dst (by omega) hP.body hU.of
  rw [show ofErr false 0 17 src dst body bl = 0 from hU.of, show ofTup false 0 17 src dst body bl = ⟨17, src, s, dst, d⟩ from hU.tup] at h
  exact h
def tn2 (body : Nat → Int) (src dst ts sp td dp : Int) : Nat → Int := tnB (tnB body src ts sp 0) dst td dp 2
theorem pk_tn {T src dst s d ts sp td dp : Int} {bl : Nat} {body : Nat → Int} (hU : UdP (Pk T src dst bl body) s d) (hts : 0 ≤ ts ∧ ts ≤ 4294967295) (htd : 0 ≤ td ∧ td ≤ 4294967295) (hsp : 0 ≤ sp ∧ sp ≤ 65535) (hdp : 0 ≤ dp ∧ dp ≤ 65535) :
    UdP (Pk T ts td bl (tn2 body src dst ts sp td dp)) sp dp := (hU.tnS hts hsp).tnD htd hdp
theorem pk_ttl {T T' src dst s d : Int} {bl : Nat} {body : Nat → Int} (hU : UdP (Pk T src dst bl body) s d) : UdP (Pk T' src dst bl body) s d := ⟨hU.mf, hU.off, hU.pr, hU.err, hU.sum, ⟨hU.w.src, hU.w.dst, hU.w.body⟩, hU.sp, hU.dp⟩
theorem pk_both (T src dst s d ts sp td dp : Int) (bl : Nat) (body : Nat → Int) (oo ob : Option Addr) (oc bc : Nat) (w : World) (hP : IpAt w (Pk T src dst bl body) oo oc ob bc) (hU : UdP (Pk T src dst bl body) s d) (hb : bl ≤ 1000) (hts : 0 ≤ ts ∧ ts ≤ 4294967295) (htd : 0 ≤ td ∧ td ≤ 4294967295) (hsp : 0 ≤ sp ∧ sp ≤ 65535) (hdp : 0 ≤ dp ∧ dp ≤ 65535) :
    Calls Tryz.prog 199 #[pkV T src dst bl oo ob oc bc, .agg #[.int .i64 17, .int .u32 ts, .int .i64 sp, .int .u32 td, .int .i64 dp]] w fun e w' => ∃ (o1 o2 : Option Addr) (c1 c2 : Nat), e = .returned (.tuple #[pkV T ts td bl o1 o2 c1 c2, .int .i64 0]) ∧ Junk w w' ∧ IpAt w' (Pk T ts td bl (tn2 body src dst ts sp td dp)) o1 c1 o2 c2 :=
  rboth_ud (Pk T src dst bl body) s d oo ob oc bc 17 ts sp td dp w hP hU rfl (by show bl ≤ _; omega) (by show 0 ≤ _; omega) hts htd hsp hdp
end Go.Proofs.YtfhkhnoiolkkdaaGreatDoor
set_option linter.unusedVariables false
set_option maxRecDepth 100000
set_option linter.unusedSimpArgs false
namespace Go
open RowKit MapKept ChangeMaps
structure Tch (L : Nat → Prop) (w w' : World) : Prop where
  os : w'.os = w.os
  tape : w'.tape = w.tape
  output : w'.output = w.output
  size : w.heap.size ≤ w'.heap.size
  block : ∀ k, k < w.heap.size → ¬ L k → w'.heap[k]? = w.heap[k]?
section
variable {L L' : Nat → Prop} {w w' w'' : World}
theorem Tch.refl (w : World) : Tch L w w := ⟨rfl, rfl, rfl, Nat.le_refl _, fun _ _ _ => rfl⟩
theorem Tch.trans (h : Tch L w w') (k : Tch L w' w'') : Tch L w w'' :=
  ⟨k.os.trans h.os, k.tape.trans h.tape, k.output.trans h.output, Nat.le_trans h.size k.size, fun i hi hL => (k.block i (Nat.lt_of_lt_of_le hi h.size) hL).trans (h.block i hi hL)⟩
theorem Tch.mono (h : Tch L w w') (hL : ∀ k, L k → L' k) : Tch L' w w' := ⟨h.os, h.tape, h.output, h.size, fun k hk hn => h.block k hk fun e => hn (hL k e)⟩
theorem Tch.then (h : Tch L w w') (k : Tch L' w' w'') (hL : ∀ i, i < w.heap.size → L' i → L i) : Tch L w w'' :=
  ⟨k.os.trans h.os, k.tape.trans h.tape, k.output.trans h.output, Nat.le_trans h.size k.size, fun i hi hn => (k.block i (Nat.lt_of_lt_of_le hi h.size) (fun e => hn (hL i hi e))).trans (h.block i hi hn)⟩
theorem Tch.of_below (h : Below w.heap.size w w') : Tch L w w' := ⟨h.os, h.tape, h.output, h.size, fun k hk _ => h.block k hk⟩
theorem Tch.of_junk (h : Junk w w') : Tch L w w' := Tch.of_below (h.below (Nat.le_refl _))
theorem Tch.junk (h : Tch (fun _ => False) w w') : Junk w w' := Junk.of_below ⟨h.os, h.tape, h.output, h.size, fun k hk => h.block k hk (fun e => e)⟩
theorem Tch.of_grown {r : Nat} (h : w.grownBy w' (some r)) (hr : L r) : Tch L w w' := ⟨h.os, h.tape, h.output, h.size, fun k hk hn => h.block k hk fun e => by cases e; exact hn hr⟩
theorem Tch.grown (h : Tch L w w') {r : Nat} (g : w'.grownBy w'' (some r)) (hr : r < w.heap.size → L r) : Tch L w w'' :=
  h.then (Tch.of_grown (L := (· = r)) g rfl) (fun i hi e => by subst e; exact hr hi)
theorem Tch.set (h : Tch L w w') {a : Addr} (v : Value) (ha : a.block < w.heap.size → L a.block) : Tch L w (w'.setCell a v) := h.grown (grown_set w' a v) ha
theorem Tch.new (h : Tch L w w') (o : Obj) : Tch L w (w'.alloc o) := h.then (Tch.of_junk (L := L) (show Junk w' (w'.alloc o) by (exact jkc))) (fun i _ e => e)
theorem Tch.on (h : Tch L w w') (j : Junk w' w'') : Tch L w w'' := h.trans (Tch.of_junk j)
theorem Tch.cell (h : Tch L w w') {a : Addr} {v : Value} (hc : w.cell? a = some v) (hn : ¬ L a.block) : w'.cell? a = some v := by
  have hlt : a.block < w.heap.size := World.block_lt_of_cell? w a hc
  rw [← hc]
  exact World.cell?_of_block (h.block _ hlt hn)
theorem Tch.below (h : Tch L w w') {B : Nat} (hB : B ≤ w.heap.size) (hL : ∀ k, L k → B ≤ k) : Below B w w' :=
  ⟨h.os, h.tape, h.output, h.size, fun k hk => h.block k (Nat.lt_of_lt_of_le hk hB) fun e => by have := hL k e; omega⟩
theorem Tch.frozen (h : Tch L w w') {a : Addr} (hlt : a.block < w.heap.size) (hn : ¬ L a.block) : w'.frozen? a = w.frozen? a := World.frozen?_of_block (h.block _ hlt hn)
theorem Box.tch {g : Nat} {e : TypeId} {cs : List Value} (h : Box w g e cs) (t : Tch L w w') (hn : ¬ L g) : Box w' g e cs := (t.block g h.lt hn).trans h
theorem own_keep {B sz g cap n : Nat} {e : TypeId} {xs : List Value} (h : Own B w e sz (some ⟨g, 0, none⟩) cap n xs) (t : Tch L w w') (hn : ¬ L g) : Own B w' e sz (some ⟨g, 0, none⟩) cap n xs := by
  refine ⟨h.1, ?_⟩
  rcases h.2 with h0 | ⟨g1, cap', cur, h1, hg, hh, hr⟩
  · exact .inl h0
  · refine .inr ⟨g1, cap', cur, h1, hg, ?_, hr⟩
    have e1 : g1 = g := by injection h1 with h1; injection h1 with h1; injection h1 with h1; exact h1.symm
    subst e1
    rw [t.block g1 (Array.getElem?_eq_some_iff.1 hh).1 hn]
    exact hh
/-! maps -/
def Mp0 (w : World) (b : Nat) : Prop := ∃ c, w.heap[b]? = some (.map #[] c)
def Mp1 (w : World) (b : Nat) : Prop := ∃ n c, w.heap[b]? = some (.map #[⟨.int .i64 0, .int .i64 0, n⟩] c)
theorem Mp0.tch {b : Nat} (h : Mp0 w b) (t : Tch L w w') (hn : ¬ L b) : Mp0 w' b := by
  obtain ⟨c, hb⟩ := h
  exact ⟨c, (t.block b (Array.getElem?_eq_some_iff.1 hb).1 hn).trans hb⟩
theorem Mp1.tch {b : Nat} (h : Mp1 w b) (t : Tch L w w') (hn : ¬ L b) : Mp1 w' b := by
  obtain ⟨n, c, hb⟩ := h
  exact ⟨n, c, (t.block b (Array.getElem?_eq_some_iff.1 hb).1 hn).trans hb⟩
theorem Mp0.on {b : Nat} (h : Mp0 w b) (j : Junk w w') : Mp0 w' b := h.tch (L := fun _ => False) (Tch.of_junk j) (fun e => e)
theorem Mp1.on {b : Nat} (h : Mp1 w b) (j : Junk w w') : Mp1 w' b := h.tch (L := fun _ => False) (Tch.of_junk j) (fun e => e)
theorem Mp0.lt {b : Nat} (h : Mp0 w b) : b < w.heap.size := by obtain ⟨c, hb⟩ := h; exact (Array.getElem?_eq_some_iff.1 hb).1
theorem Mp1.lt {b : Nat} (h : Mp1 w b) : b < w.heap.size := by obtain ⟨n, c, hb⟩ := h; exact (Array.getElem?_eq_some_iff.1 hb).1
theorem mp_made (w : World) : Mp0 (w.alloc (.map #[] 0)) w.heap.size := ⟨0, (MapKept.heap_alloc w _).1⟩
theorem setBlock_grown {b : Nat} {o o' : Obj} (hb : w.heap[b]? = some o) : w.grownBy (setBlock w b o') (some b) :=
  ⟨rfl, rfl, rfl, by simp [setBlock], fun i _ hi => (MapKept.heap_set hb).2 i (fun e => hi (by rw [e]))⟩
theorem setBlock_self {b : Nat} {o : Obj} (hb : w.heap[b]? = some o) : setBlock w b o = w := by
  have e : w.heap.setIfInBounds b o = w.heap := by
    apply Array.ext_getElem?
    intro i
    by_cases hi : i = b
    · subst hi
      exact (MapKept.heap_set hb).1.trans hb.symm
    · exact (MapKept.heap_set hb).2 i hi
  unfold setBlock
  rw [e]
variable {P : Program} {t k e : TypeId} {b : Nat}
theorem key_i64 (n : Int) : IsKey (.int .i64) (.int .i64 n) := by simp [IsKey]
theorem mp_look0 {z : Value} (h : Mp0 w b) (ht : P.underlying t = some (.map k e)) (hk : P.underlying k = some (.int .i64)) (hz : (zeroValue e).run P w = .ok z w) (n : Int) : (Instr.lookup t (.map (some b)) (.int .i64 n) true).run P w = .ok (.tuple #[z, .bool false]) w := by
  obtain ⟨c, hb⟩ := h
  have h1 : Instr.findNow (.int .i64) (.int .i64 n) [] 0 = some none := rfl
  simp [Instr.lookup, run_underlying ht, MapKept.run_getObj_map hb, MapKept.run_checkKey hk (key_i64 n), MapKept.run_findKey hk h1, hz, Result.andThen]
theorem mp_look1 (h : Mp1 w b) (ht : P.underlying t = some (.map k e)) (hk : P.underlying k = some (.int .i64)) : (Instr.lookup t (.map (some b)) (.int .i64 0) true).run P w = .ok (.tuple #[.int .i64 0, .bool true]) w := by
  obtain ⟨n, c, hb⟩ := h
  have h1 : Instr.findNow (.int .i64) (.int .i64 0) [⟨.int .i64 0, .int .i64 0, n⟩] 0 = some (some (0, .int .i64 0)) := rfl
  simp [Instr.lookup, run_underlying ht, MapKept.run_getObj_map hb, MapKept.run_checkKey hk (key_i64 0), MapKept.run_findKey hk h1, Result.andThen]
theorem mp_put0 (h : Mp0 w b) (ht : P.underlying t = some (.map k e)) (hk : P.underlying k = some (.int .i64)) : ∃ w', (Instr.mapUpdate t (.map (some b)) (.int .i64 0) (.int .i64 0)).run P w = .ok () w' ∧ Mp1 w' b ∧ w.grownBy w' (some b) := by
  obtain ⟨c, hb⟩ := h
  have h1 : Instr.findNow (.int .i64) (.int .i64 0) [] 0 = some none := rfl
  refine ⟨setBlock w b (.map #[⟨.int .i64 0, .int .i64 0, c⟩] (c + 1)), ?_, ⟨c, c + 1, (MapKept.heap_set hb).1⟩, setBlock_grown hb⟩
  simp [Instr.mapUpdate, run_underlying ht, MapKept.run_getObj_map hb, MapKept.run_checkKey hk (key_i64 0), MapKept.run_findKey hk h1, MapKept.run_setObj_map _ hb, Result.andThen, setBlock]
theorem mp_del0 (h : Mp0 w b) (ht : P.underlying t = some (.map k e)) (hk : P.underlying k = some (.int .i64)) (n : Int) (ty : TypeId) : (Builtin.delete_ #[t, k] ty #[.map (some b), .int .i64 n]).run P w = .ok (.tuple #[]) w := by
  obtain ⟨c, hb⟩ := h
  have h1 : Instr.findNow (.int .i64) (.int .i64 n) [] 0 = some none := rfl
  have h2 := setBlock_self hb
  unfold setBlock at h2
  simp [Builtin.delete_, run_underlying ht, MapKept.run_getObj_map hb, MapKept.run_checkKey hk (key_i64 n), MapKept.run_findKey hk h1, MapKept.run_setObj_map _ hb, Result.andThen, h2]
theorem mp_del1 (h : Mp1 w b) (ht : P.underlying t = some (.map k e)) (hk : P.underlying k = some (.int .i64)) (ty : TypeId) : ∃ w', (Builtin.delete_ #[t, k] ty #[.map (some b), .int .i64 0]).run P w = .ok (.tuple #[]) w' ∧ Mp0 w' b ∧ w.grownBy w' (some b) := by
  obtain ⟨n, c, hb⟩ := h
  have h1 : Instr.findNow (.int .i64) (.int .i64 0) [⟨.int .i64 0, .int .i64 0, n⟩] 0 = some (some (0, .int .i64 0)) := rfl
  refine ⟨setBlock w b (.map #[] c), ?_, ⟨c, (MapKept.heap_set hb).1⟩, setBlock_grown hb⟩
  simp [Builtin.delete_, run_underlying ht, MapKept.run_getObj_map hb, MapKept.run_checkKey hk (key_i64 0), MapKept.run_findKey hk h1, MapKept.run_setObj_map _ hb, Result.andThen, setBlock, Array.eraseIdxIfInBounds]
variable {ops : Array Oper} {rest : List Oper} {o : Oper} {a : Act} {Q : Exit → Act → World → Prop}
theorem put0_wp {K : Act → World → Prop} (m x v : Operand) (hop : o.op = Op.mapUpdate t m x v) (h : Mp0 w b) (ht : P.underlying t = some (.map k e)) (hk : P.underlying k = some (.int .i64))
    (hm : a.eval m = .map (some b)) (hx : a.eval x = .int .i64 0) (hv : a.eval v = .int .i64 0) (hK : ∀ w', Mp1 w' b → w.grownBy w' (some b) → K (a.put o.dst undef) w') : o.wp P a w K Q := by
  obtain ⟨w', hrun, r1, r2⟩ := mp_put0 h ht hk
  unfold Oper.wp
  simp only [execOp, hop, hm, hx, hv, hrun, Sem.run_bind, Sem.run_pure, Result.andThen]
  simpa [Oper.upon] using hK w' r1 r2
theorem del1_wp {K : Act → World → Prop} (m x : Operand) (hop : o.op = Op.call { callee := Callee.builtin Builtin.delete, args := #[m, x], argTypes := #[t, k] }) (h : Mp1 w b) (ht : P.underlying t = some (.map k e)) (hk : P.underlying k = some (.int .i64))
    (hm : a.eval m = .map (some b)) (hx : a.eval x = .int .i64 0) (hK : ∀ w', Mp0 w' b → w.grownBy w' (some b) → K (a.put o.dst (.tuple #[])) w') : o.wp P a w K Q := by
  obtain ⟨w', hrun, r1, r2⟩ := mp_del1 h ht hk o.type
  unfold Oper.wp
  simp only [execOp, hop, resolve, invoke, builtin, hm, hx, List.map_toArray, List.map_cons, List.map_nil, hrun, Sem.run_bind, Sem.run_pure, Result.andThen]
  simpa [Oper.upon] using hK w' r1 r2
end
end Go
set_option linter.unusedVariables false
set_option maxRecDepth 100000
set_option linter.unusedSimpArgs false
namespace Go.Proofs.YtfhkhnoiolkkdaaGreatDoor
open Go.RowKit
structure Wh0 (w : World) (wh mp : Nat) (oa : Option Addr) (c : Nat) (now : Int) : Prop where
  box : Box w wh 283 [.slice oa 0 c, .map (some mp), .int .i64 now]
  mm : Mp0 w mp
  ne : wh ≠ mp
structure Wh1 (w : World) (wh mp li lc : Nat) (till now : Int) : Prop where
  box : Box w wh 283 [.slice (some ⟨li, 0, none⟩) 1 lc, .map (some mp), .int .i64 now]
  ls : Own 0 w 285 2 (some ⟨li, 0, none⟩) lc 1 [.int .i64 0, .int .i64 till]
  mm : Mp1 w mp
  ne : wh ≠ mp ∧ wh ≠ li
variable {L : Nat → Prop} {w w' : World} {wh mp li lc c : Nat} {oa : Option Addr} {till now : Int}
theorem Wh0.tch (h : Wh0 w wh mp oa c now) (t : Tch L w w') (h1 : ¬ L wh) (h2 : ¬ L mp) : Wh0 w' wh mp oa c now := ⟨h.box.tch t h1, h.mm.tch t h2, h.ne⟩
theorem Wh1.tch (h : Wh1 w wh mp li lc till now) (t : Tch L w w') (h1 : ¬ L wh) (h2 : ¬ L mp) (h3 : ¬ L li) : Wh1 w' wh mp li lc till now := ⟨h.box.tch t h1, own_keep h.ls t h3, h.mm.tch t h2, h.ne⟩
theorem Wh0.on (h : Wh0 w wh mp oa c now) (j : Junk w w') : Wh0 w' wh mp oa c now := h.tch (L := fun _ => False) (Tch.of_junk j) (fun e => e) (fun e => e)
theorem Wh1.on (h : Wh1 w wh mp li lc till now) (j : Junk w w') : Wh1 w' wh mp li lc till now := h.tch (L := fun _ => False) (Tch.of_junk j) (fun e => e) (fun e => e) (fun e => e)
theorem box_at {n : Nat} {V : World} {cs : Array Value} {e : TypeId} (hn : n = V.heap.size) : Box (V.alloc (.cells cs e)) n e cs.toList := by subst hn; exact box_new V cs e
theorem wnow_any (v : Int) (w : World) (hb : wh < w.heap.size) (h : w.cell? ⟨wh, 2, none⟩ = some (.int .i64 v)) : Calls Tryz.prog 261 #[.pointer (some ⟨wh, 0, none⟩)] w fun e w' => e = .returned (.int .i64 v) ∧ Junk w w' := by
  go_enter Tryz.func261, Tryz.ntmps261
  go_wp2
  go_ret
  exact ⟨rfl, by (exact jkc)⟩
theorem wnew_any (w : World) : Calls Tryz.prog 107 #[] w fun e w' => ∃ wh mp, e = .returned (.pointer (some ⟨wh, 0, none⟩)) ∧ Junk w w' ∧ Wh0 w' wh mp none 0 0 ∧ w.heap.size ≤ wh ∧ w.heap.size ≤ mp := by
  have hmm := @run_makeMap Tryz.prog
  go_enter Tryz.func107, Tryz.ntmps107
  go_wp2
  go_ret
  exact ⟨_, _, rfl, by (exact jkc), ⟨box_at (by simp), (mp_made w).tch (L := fun _ => False) (Tch.of_junk (by (exact jkc))) (fun e => e), by omega⟩, by omega, Nat.le_refl _⟩
/-! the alarms' methods -/
theorem al_nil (a : Addr) (s : String) (h : s = "Push" ∨ s = "Pop" ∨ s = "Len" ∨ s = "Swap" ∨ s = "Less") (w : World) : (nilAhead 157 287 (.pointer (some a)) s).run Tryz.prog w = .ok (some false) w := by
  rcases h with rfl | rfl | rfl | rfl | rfl <;> kernel_rfl
theorem al_push (a : Addr) (w : World) : (method 157 287 (.pointer (some a)) "Push").run Tryz.prog w = .ok (339, .pointer (some a)) w := by kernel_rfl
theorem alen_any (n : Nat) (oa : Option Addr) (c : Nat) (w : World) (hb : wh < w.heap.size) (h : w.cell? ⟨wh, 0, none⟩ = some (.slice oa n c)) : Calls Tryz.prog 156 #[.pointer (some ⟨wh, 0, none⟩)] w fun e w' => e = .returned (.int .i64 (n : Int)) ∧ Junk w w' := by
  go_enter Tryz.func156, Tryz.ntmps156
  go_wp2
  go_ret
  exact ⟨rfl, by (exact jkc)⟩
theorem hup_any (w : World) : Calls Tryz.prog 307 #[.iface 287 (.pointer (some ⟨wh, 0, none⟩)), .int .i64 0] w fun e w' => e = .returned (.tuple #[]) ∧ Junk w w' := by
  go_enter Tryz.func307, Tryz.ntmps307
  go_wp2
  refine wp_loop_rounds 1 ?_
  rw [rounds_succ]
  go_wp2
  go_end0
  exact ⟨rfl, by (exact jkc)⟩
theorem hdown_any (n : Int) (hn : 0 ≤ n ∧ n ≤ 1) (w : World) : Calls Tryz.prog 239 #[.iface 287 (.pointer (some ⟨wh, 0, none⟩)), .int .i64 0, .int .i64 n] w fun e w' => e = .returned (.bool false) ∧ Junk w w' := by
  have h2 : n ≤ (1 : Int) := by omega
  go_enter Tryz.func239, Tryz.ntmps239
  go_wp2
  refine wp_loop_rounds 1 ?_
  rw [rounds_succ]
  go_wp2
  go_ret
  exact ⟨rfl, by (exact jkc)⟩
end Go.Proofs.YtfhkhnoiolkkdaaGreatDoor
set_option linter.unusedVariables false
set_option maxRecDepth 100000
set_option linter.unusedSimpArgs false
namespace Go.Proofs.YtfhkhnoiolkkdaaGreatDoor
open Go.RowKit Go.Ix
def tbL (T : Tb) : List Value := (T.map cellL).flatten
theorem tbL_len (T : Tb) : (tbL T).length = T.length * 7 := by unfold tbL; rw [flat_len (cellL_rows T), List.length_map]
theorem tbL_one (T : Tb) : ∀ v ∈ tbL T, v.oneCell' = true := by
  intro v hv
  unfold tbL at hv
  obtain ⟨r, hr, hv⟩ := List.mem_flatten.1 hv
  obtain ⟨c, _, rfl⟩ := List.mem_map.1 hr
  rcases c with _ | ⟨t, m⟩ <;> (simp only [cellL, List.mem_cons, List.not_mem_nil, or_false] at hv; rcases hv with rfl | rfl | rfl | rfl | rfl | rfl | rfl <;> rfl)
theorem TbAt.src {w : World} {b : Nat} {T : Tb} (h : TbAt w b T) : SrcAt w (some ⟨b, 0, none⟩) (tbL T) := fun ad had j u hu => by
  cases had
  rw [Addr.add_lit, Nat.zero_add]
  have hj : j < T.length * 7 := by rw [← tbL_len]; exact (List.getElem?_eq_some_iff.1 hu).1
  obtain ⟨x, hx⟩ : ∃ x, T[j / 7]? = some x := ⟨_, List.getElem?_eq_getElem (by omega)⟩
  have e : j = j / 7 * 7 + j % 7 := by omega
  have h1 := flat_get (cellL_rows T) (i := j / 7) (r := cellL x) (by rw [List.getElem?_map, hx]; rfl) (j := j % 7) (Nat.mod_lt _ (by decide))
  rw [← e] at h1
  have h2 := h.2 _ x hx (j % 7) u (by rw [← h1]; exact hu)
  rw [← e] at h2
  exact h2
theorem own_mk7 (w : World) (e : TypeId) (cur : Array Value) (hs : cur.size = 0) : Own w.heap.size (w.alloc (.cells cur e)) e 7 (some ⟨w.heap.size, 0, none⟩) 0 0 [] := own_made w e 7 0 _ cur rfl (Nat.le_refl _) (by simp [maxLen]) (by simp [hs])
set_option maxHeartbeats 1000000 in
theorem iclone_any (T : Tb) (b c : Nat) (w : World) (hT : T.length = 1024) (hA : TbAt w b T) :
    Calls Tryz.prog 240 #[.slice (some ⟨b, 0, none⟩) 1024 c] w fun e w' => ∃ g cap, e = .returned (.slice (some ⟨g, 0, none⟩) 1024 cap) ∧ Junk w w' ∧ Own w.heap.size w' 324 7 (some ⟨g, 0, none⟩) cap 1024 (tbL T) := by
  have HA := Lib.hid hA
  have HB := Lib.hid (show (tbL T).length = 1024 * 7 by rw [tbL_len, hT])
  clear hA hT
  have hne := fun (w : World) => Lib.run_eql_slice_nil (P := Tryz.prog) w 185 324 (some ⟨b, 0, none⟩) 1024 c 0 0 Tryz.underlying185
  go_enter Tryz.func240, Tryz.ntmps240
  go_wp2_with (first
    | (at_builtin; (refine ap_own (W0 := w) rfl _ _ 185 rfl 324 (.agg #[.bool false, .int .i64 0, .int .u32 0, .int .i64 0, .int .u32 0, .int .i64 0, .int .i64 0]) 7 56 (by kernel_rfl) rfl (by decide) Tryz.underlying185 (by (exact jkc)) _ 0 0 [] rfl (own_mk7 _ _ _ (by simp)) (some ⟨b, 0, none⟩) 1024 c rfl (tbL T) HB.out (HA.out.src.on (by (exact jkc))) (fun h => by cases h) (tbL_one T) (by simp only [maxLen]; omega) (by omega) ?_; intro oa1 cap1 os1 d1 hown _; rw [List.nil_append, Nat.zero_add] at hown; have Hown := Lib.hid hown; clear hown)))
  go_ret
  rcases Hown.out.form with ⟨_, h0, _⟩ | ⟨g, cur, rfl, _⟩
  · exact absurd h0 (by decide)
  · exact ⟨g, cap1, rfl, by (exact jkc), Hown.out⟩
theorem junk_cell0 {w V : World} {cur : Array Value} {e : TypeId} {j : Nat} {v : Value} (hj : Junk (w.alloc (.cells cur e)) V) (hv : cur[j]? = some v) : V.cell? ⟨w.heap.size, j, none⟩ = some v := by
  obtain ⟨os, d, rfl⟩ := hj
  rw [World.cell?_junk _ _ _ _ _ (by simp)]
  rw [cell_of_row (w.alloc (.cells cur e)) w.heap.size j cur e (0, 0) (heap_alloc_last w _)]
  exact hv
theorem own_at_le {B sz g cap n : Nat} {w : World} {e : TypeId} {xs : List Value} (h : Own B w e sz (some ⟨g, 0, none⟩) cap n xs) : B ≤ g ∧ g < w.heap.size := by
  rcases h.form with ⟨h0, _⟩ | ⟨g1, cur, h0, h1, h2, _⟩
  · cases h0
  · cases h0
    exact ⟨h1, (Array.getElem?_eq_some_iff.1 h2).1⟩
theorem tbL_put {T : Tb} {r : Nat} (hr : r < T.length) (x : Option (Tup × Int)) : (tbL T).take (r * 7) ++ cellL x ++ (tbL T).drop (r * 7 + (cellL x).length) = tbL (T.set r x) := by
  unfold tbL
  rw [flat_put (cellL_rows T) (by rw [List.length_map]; exact hr) (cellL_len x), List.map_set]
set_option maxHeartbeats 2000000 in
theorem iput_any (T : Tb) (k : Tup) (b c r : Nat) (n : Int) (w : World) (hT : TbOk T) (hk : TupW k) (hok : tupRight k = true) (hA : TbAt w b T) (hF : findT hN T k = (r, false)) (hr : r < 1024) (hl : lenT T < 1023) :
    Calls Tryz.prog 236 #[.slice (some ⟨b, 0, none⟩) 1024 c, .agg #[.int .i64 k.proto, .int .u32 k.src, .int .i64 k.sport, .int .u32 k.dst, .int .i64 k.dport], .int .i64 n] w fun e w' => ∃ g cap, e = .returned (.tuple #[.slice (some ⟨g, 0, none⟩) 1024 cap, .int .i64 0]) ∧ Junk w w' ∧ Own w.heap.size w' 324 7 (some ⟨g, 0, none⟩) cap 1024 (tbL (T.set r (some (k, n)))) := by
  have HC := Lib.hid (fun w1 (hj : Junk w w1) => iclone_any T b c w1 hT.len (hA.on hj))
  have HR := Lib.hid (fun w1 (hj : Junk w w1) => iright_any T b c w1 hT (hA.on hj))
  have HI := Lib.hid (fun w1 (hj : Junk w w1) => ifind_any T k b c r false w1 hT.len hk (hA.on hj) hF)
  obtain ⟨L, hL⟩ : ∃ L, lenT T = L := ⟨_, rfl⟩
  have HL := Lib.hid (fun w1 (hj : Junk w w1) => show Calls Tryz.prog 260 #[.slice (some ⟨b, 0, none⟩) 1024 c] w1 fun e w' => e = .returned (.int .i64 (L : Int)) ∧ Junk w1 w' by rw [← hL]; exact ilen_any T b c w1 hT.len (hA.on hj))
  have HK := Lib.hid (fun w1 => show Calls Tryz.prog 164 #[.agg #[.int .i64 k.proto, .int .u32 k.src, .int .i64 k.sport, .int .u32 k.dst, .int .i64 k.dport]] w1 fun e w' => e = .returned (.bool true) ∧ Junk w1 w' by have := tup_right_any k w1; rw [hok] at this; exact this)
  have hne : ((L : Int) == 1023) = false := by rw [hL] at hl; simp; omega
  have HP := Lib.hid (tbL_put (T := T) (r := r) (by rw [hT.len]; exact hr) (some (k, n)))
  have hr3 : (r : Int) < 1024 := by omega
  clear hA hF hL hl hok hk hT
  go_enter Tryz.func236, Tryz.ntmps236
  go_upto_region 9 with (first
    | (go_at_call 240; refine (HC.out _ (by (exact jkc))).mono ?_; rintro e w' ⟨g, cap, rfl, ⟨osc, dc, rfl⟩, hO⟩; have HO := Lib.hid hO; clear hO)
    | (go_at_call 194; (with_reducible refine (HR.out _ (by (exact jkc))).mono ?_); rintro e w' ⟨rfl, ⟨osj, dj, rfl⟩⟩) | (go_at_call 164; (with_reducible refine (HK.out _).mono ?_); rintro e w' ⟨rfl, ⟨osj, dj, rfl⟩⟩) | (go_at_call 195; (with_reducible refine (HI.out _ (by (exact jkc))).mono ?_); rintro e w' ⟨rfl, ⟨osj, dj, rfl⟩⟩) | (go_at_call 260; (with_reducible refine (HL.out _ (by (exact jkc))).mono ?_); rintro e w' ⟨rfl, ⟨osj, dj, rfl⟩⟩))
  refine wp_keep (fun V => Junk (w.alloc (.cells #[.int .i64 k.proto, .int .u32 k.src, .int .i64 k.sport, .int .u32 k.dst, .int .i64 k.dport] 38)) V ∧ Own (w.heap.size + 1) V 324 7 (some ⟨g, 0, none⟩) cap 1024 (tbL T)) ⟨by (exact jkc), (HO.out.lower (by simp)).on (by (exact jkc))⟩ ?_
  intro V ⟨hj, hO⟩
  have HJ := Lib.hid hj
  have HO2 := Lib.hid hO
  have k0 : V.cell? ⟨w.heap.size, 0, none⟩ = some (.int .i64 k.proto) := junk_cell0 hj rfl
  have k1 : V.cell? ⟨w.heap.size, 1, none⟩ = some (.int .u32 k.src) := junk_cell0 hj rfl
  have k2 : V.cell? ⟨w.heap.size, 2, none⟩ = some (.int .i64 k.sport) := junk_cell0 hj rfl
  have k3 : V.cell? ⟨w.heap.size, 3, none⟩ = some (.int .u32 k.dst) := junk_cell0 hj rfl
  have k4 : V.cell? ⟨w.heap.size, 4, none⟩ = some (.int .i64 k.dport) := junk_cell0 hj rfl
  have ks : w.heap.size < V.heap.size := Nat.lt_of_lt_of_le (by simp) hj.size
  clear hj hO HC HR HI HL HO
  go_wp2_with (first
    | ((with_reducible show wpList _ _ _ _ _ _); refine wpList_storeOwn rfl 324 _ _ rfl HO2.out (r * 7) (cellL (some (k, n))).toArray (by kernel_rfl) rfl rfl (by simp [cellL]; omega) (by simp [cellL, Value.oneCell']) ?_; intro w7 hg7 hO7; rw [show (cellL (some (k, n))).toArray.toList = cellL (some (k, n)) from rfl, HP.out] at hO7; have HO7 := Lib.hid hO7; have HG7 := Lib.hid hg7; clear hO7 hg7))
  go_returns
  exact ⟨g, cap, rfl, below_of_grown (Junk.trans (by (exact jkc)) HJ.out) HG7.out (fun k hk => by cases hk; exact Nat.le_trans (by omega) (own_at_le HO2.out).1), HO7.out.lower (by omega)⟩
end Go.Proofs.YtfhkhnoiolkkdaaGreatDoor
set_option linter.unusedVariables false
set_option maxRecDepth 100000
set_option linter.unusedSimpArgs false
namespace Go.Proofs.YtfhkhnoiolkkdaaGreatDoor
open Go.RowKit Go.Ix
theorem and_1023n (x : Int) : bits .and .i64 x 1023 = x % 1024 := by
  have e : (x % 18446744073709551616).toNat &&& 1023 = (x % 18446744073709551616).toNat % 1024 := Nat.and_two_pow_sub_one_eq_mod _ 10
  show IntKind.i64.wrap (((BitVec.ofInt 64 x &&& BitVec.ofInt 64 1023).toNat : Nat) : Int) = _
  rw [BitVec.toNat_and, BitVec.toNat_ofInt, BitVec.toNat_ofInt]
  have e2 : ((1023 : Int) % ((2 ^ 64 : Nat) : Int)).toNat = 1023 := by decide
  rw [e2, show ((2 ^ 64 : Nat) : Int) = 18446744073709551616 from rfl, e, IntKind.wrap_i64]
  omega
theorem delGo_out (T : Tb) (f h a : Nat) (ha : T[a]? = some none) : delGo hN T f h a = T.set h none := by
  cases f <;> simp [delGo, ha]
theorem al_le (w : World) (o : Obj) : w.heap.size ≤ (w.alloc o).heap.size := by simp
structure DelW (W V : World) (g cap : Nat) (T' : Tb) (z h a f : Nat) (R : Tb) : Prop where
  j : Junk W V
  own : Own W.heap.size V 324 7 (some ⟨g, 0, none⟩) cap 1024 (tbL T')
  len : T'.length = 1024
  keys : ∀ (i : Nat) (t : Tup) (m : Int), T'[i]? = some (some (t, m)) → TupW t
  ez : T'[z]? = some none
  zl : z < 1024
  hole : ∃ y, T'[h]? = some (some y)
  hl : h < 1024
  al : a < 1024
  fl : (z + 1024 - a) % 1024 ≤ f
  res : delGo hN T' f h a = R
theorem DelW.kept {W V V' : World} {g cap z h a f : Nat} {T' R : Tb} (d : DelW W V g cap T' z h a (f + 1) R) (hne : a ≠ z) (hr : delGo hN T' f h ((a + 1) % 1024) = R) (hj : Junk V V') : DelW W V' g cap T' z h ((a + 1) % 1024) f R :=
  ⟨d.j.trans hj, d.own.on hj, d.len, d.keys, d.ez, d.zl, d.hole, d.hl, Nat.mod_lt _ (by decide), by have := d.fl; have := d.al; have := d.zl; omega, hr⟩
theorem DelW.moved {W V V1 V' : World} {g cap z h a f : Nat} {T' R : Tb} {t : Tup} {m : Int} (d : DelW W V g cap T' z h a (f + 1) R) (hx : T'[a]? = some (some (t, m))) (hne : a ≠ z) (hr : delGo hN (T'.set h (some (t, m))) f a ((a + 1) % 1024) = R) (hj : Junk V V1) (hg : V1.grownBy V' (some g))
    (ho : Own W.heap.size V' 324 7 (some ⟨g, 0, none⟩) cap 1024 (tbL (T'.set h (some (t, m))))) : DelW W V' g cap (T'.set h (some (t, m))) z a ((a + 1) % 1024) f R := by
  have hhz : h ≠ z := fun e => by obtain ⟨y, hy⟩ := d.hole; rw [e, d.ez] at hy; cases hy
  refine ⟨below_of_grown (d.j.trans hj) hg (fun k hk => by cases hk; exact (own_at_le d.own).1), ho, by rw [List.length_set]; exact d.len, ?_, by rw [List.getElem?_set_ne hhz]; exact d.ez, d.zl, ?_, d.al, Nat.mod_lt _ (by decide), by have := d.fl; have := d.al; have := d.zl; omega, hr⟩
  · intro i t1 m1 hi
    by_cases e : h = i
    · subst e
      rw [List.getElem?_set_self (by rw [d.len]; exact d.hl)] at hi
      cases hi
      exact d.keys a _ _ hx
    · rw [List.getElem?_set_ne e] at hi
      exact d.keys i _ _ hi
  · by_cases e : h = a
    · subst e
      exact ⟨_, List.getElem?_set_self (by rw [d.len]; exact d.hl)⟩
    · exact ⟨_, by rw [List.getElem?_set_ne e]; exact hx⟩
set_option maxHeartbeats 4000000 in
theorem idel_any (T : Tb) (k : Tup) (b c r z : Nat) (w : World) (hT : TbOk T) (hk : TupW k) (hA : TbAt w b T) (hF : findT hN T k = (r, true)) (hr : r < 1024) (hz : T[z]? = some none) :
    Calls Tryz.prog 158 #[.slice (some ⟨b, 0, none⟩) 1024 c, .agg #[.int .i64 k.proto, .int .u32 k.src, .int .i64 k.sport, .int .u32 k.dst, .int .i64 k.dport]] w fun e w' => ∃ g cap, e = .returned (.tuple #[.slice (some ⟨g, 0, none⟩) 1024 cap, .int .i64 0]) ∧ Junk w w' ∧ Own w.heap.size w' 324 7 (some ⟨g, 0, none⟩) cap 1024 (tbL (delGo hN T 1024 r ((r + 1) % 1024))) := by
  obtain ⟨R, hR⟩ : ∃ R, delGo hN T 1024 r ((r + 1) % 1024) = R := ⟨_, rfl⟩
  rw [hR]
  have HRR := Lib.hid hR
  clear hR
  have HC := Lib.hid (fun w1 (hj : Junk w w1) => iclone_any T b c w1 hT.len (hA.on hj))
  have HR := Lib.hid (fun w1 (hj : Junk w w1) => iright_any T b c w1 hT (hA.on hj))
  have HI := Lib.hid (fun w1 (hj : Junk w w1) => ifind_any T k b c r true w1 hT.len hk (hA.on hj) hF)
  have HT := Lib.hid hT
  have HZ := Lib.hid hz
  have HH := Lib.hid (show ∃ y, T[r]? = some (some y) by
    obtain ⟨v, hv⟩ := find_true (hm := hN) (by rw [hT.len]; decide) (by rw [hF])
    rw [hF] at hv
    exact ⟨_, hv⟩)
  have hzl : z < 1024 := by rw [← hT.len]; exact (List.getElem?_eq_some_iff.1 hz).1
  have q1 : bits .and .i64 ((r : Int) + 1) 1023 = (((r + 1) % 1024 : Nat) : Int) := by rw [and_1023n]; omega
  clear hA hF hk hT hz
  go_enter Tryz.func158, Tryz.ntmps158
  go_upto_region 8 with (first
    | (go_at_call 240; refine (HC.out _ (by (exact jkc))).mono ?_; rintro e w' ⟨g, cap, rfl, ⟨osc, dc, rfl⟩, hO⟩; have HO := Lib.hid hO; clear hO)
    | (go_at_call 194; (with_reducible refine (HR.out _ (by (exact jkc))).mono ?_); rintro e w' ⟨rfl, ⟨osj, dj, rfl⟩⟩) | (go_at_call 195; (with_reducible refine (HI.out _ (by (exact jkc))).mono ?_); rintro e w' ⟨rfl, ⟨osj, dj, rfl⟩⟩))
  refine wp_keep (fun V => DelW (w.alloc (.cells #[.int .i64 k.proto, .int .u32 k.src, .int .i64 k.sport, .int .u32 k.dst, .int .i64 k.dport] 38)) V g cap T z r ((r + 1) % 1024) 1024 R) ⟨by (exact jkc), (HO.out.lower (by simp)).on (by (exact jkc)), HT.out.len, HT.out.keys, HZ.out, hzl, HH.out, hr, Nat.mod_lt _ (by decide), by omega, HRR.out⟩ ?_
  intro V hD
  have HD := Lib.hid hD
  clear hD HC HR HI HO HT HZ HH
  go_wp2
  go_loopw [7, 10] (fun h a wr => ∃ (hh aa f : Nat) (T' : Tb), h = .int .i64 (hh : Int) ∧ a = .int .i64 (aa : Int) ∧ Hid (DelW (w.alloc (.cells #[.int .i64 k.proto, .int .u32 k.src, .int .i64 k.sport, .int .u32 k.dst, .int .i64 k.dport] 38)) wr g cap T' z hh aa f R)) (fun _ a _ => (z + 1024 - (intOf a).toNat) % 1024)
  case atStart => exact ⟨r, (r + 1) % 1024, 1024, T, rfl, rfl, HD⟩
  case round =>
    obtain ⟨h, a, f, T', rfl, rfl, HW⟩ := hrel
    have ha2 : (a : Int) < 1024 := by have := HW.out.al; omega
    have hh2 : (h : Int) < 1024 := by have := HW.out.hl; omega
    have HA := Lib.hid (TbAt.own HW.out.own (by decide))
    obtain ⟨x, hx⟩ : ∃ x, T'[a]? = some x := ⟨_, List.getElem?_eq_getElem (by rw [HW.out.len]; exact HW.out.al)⟩
    have hb := HA.out.1
    rcases x with _ | ⟨t, m⟩
    · have c0 := HA.out.no hx
      have HE := Lib.hid (show T'.set h none = R by rw [← HW.out.res, delGo_out _ _ _ _ hx])
      have HP := Lib.hid (tbL_put (T := T') (r := h) (by rw [HW.out.len]; exact HW.out.hl) none)
      have hz := icell_zero
      clear hx
      go_wp2_with (first
        | ((with_reducible show wpList _ _ _ _ _ _); refine wpList_storeOwn rfl 324 _ _ rfl HW.out.own (h * 7) (cellL none).toArray (by kernel_rfl) rfl rfl (by simp [cellL]; omega) (by simp [cellL, Value.oneCell']) ?_; intro w7 hg7 hO7; rw [show (cellL none).toArray.toList = cellL none from rfl, HP.out, HE.out] at hO7; have HO7 := Lib.hid hO7; have HG7 := Lib.hid hg7; clear hO7 hg7))
      go_returns
      exact ⟨g, cap, rfl, below_of_grown (Junk.trans (by (exact jkc)) HW.out.j) HG7.out (fun k hk => by cases hk; exact Nat.le_trans (al_le _ _) (own_at_le HW.out.own).1), HO7.out.lower (al_le _ _)⟩
    · obtain ⟨c0, c1, c2, c3, c4, c5, c6⟩ := HA.out.yes hx
      have hne : a ≠ z := fun e => by subst e; rw [HW.out.ez] at hx; cases hx
      obtain ⟨f2, rfl⟩ : ∃ f2, f = f2 + 1 := ⟨f - 1, by have := HW.out.fl; have := HW.out.al; have := HW.out.zl; omega⟩
      obtain ⟨H, hH⟩ : ∃ H, hN t = H := ⟨_, rfl⟩
      have HC := Lib.hid (fun w1 => show Calls Tryz.prog 241 #[.agg #[.int .i64 t.proto, .int .u32 t.src, .int .i64 t.sport, .int .u32 t.dst, .int .i64 t.dport], .int .u32 0] w1 fun e w' => e = .returned (.int .u32 (H : Int)) ∧ Junk w1 w' by rw [← hH, ← tupHash_nat]; exact tup_hash_any t 0 w1 (HW.out.keys _ _ _ hx) (by omega))
      have hH4 : (H : Int) ≤ 4294967295 := by rw [← hH, ← tupHash_nat]; exact (tupHash_lt t).2
      have q1 : IntKind.i64.wrap (H : Int) = (H : Int) := wrapk_i64 _ (by omega) (by omega)
      have q2 : bits .and .i64 (H : Int) 1023 = ((H % 1024 : Nat) : Int) := by rw [and_1023n]; omega
      have q3 : bits .and .i64 ((a : Int) - (H : Int) % 1024) 1023 = (((a + 1024 - H % 1024) % 1024 : Nat) : Int) := by rw [and_1023n]; omega
      have q4 : bits .and .i64 ((a : Int) - (h : Int)) 1023 = (((a + 1024 - h) % 1024 : Nat) : Int) := by rw [and_1023n]; omega
      have q5 : bits .and .i64 ((a : Int) + 1) 1023 = (((a + 1) % 1024 : Nat) : Int) := by rw [and_1023n]; omega
      have HX := Lib.hid hx
      have hres := HW.out.res
      rw [delGo, hx] at hres
      simp only [hH, HW.out.len] at hres
      clear hx
      by_cases hge : (a + 1024 - H % 1024) % 1024 ≥ (a + 1024 - h) % 1024
      · rw [if_pos hge] at hres
        have HRS := Lib.hid hres
        clear hres
        have hge2 : (((a + 1024 - H % 1024) % 1024 : Nat) : Int) ≥ (((a + 1024 - h) % 1024 : Nat) : Int) := by omega
        have HP := Lib.hid (tbL_put (T := T') (r := h) (by rw [HW.out.len]; exact HW.out.hl) (some (t, m)))
        go_wp2_with (first
          | (go_at_call 241; (with_reducible refine (HC.out _).mono ?_); rintro e w' ⟨rfl, ⟨osj, dj, rfl⟩⟩)
          | ((with_reducible show wpList _ _ _ _ _ _); refine wpList_storeOwn rfl 324 _ _ rfl (HW.out.own.on (by (exact jkc))) (h * 7) (cellL (some (t, m))).toArray (by kernel_rfl) rfl rfl (by simp [cellL]; omega) (by simp [cellL, Value.oneCell']) ?_; intro w7 hg7 hO7; rw [show (cellL (some (t, m))).toArray.toList = cellL (some (t, m)) from rfl, HP.out] at hO7; have HO7 := Lib.hid hO7; have HG7 := Lib.hid hg7; clear hO7 hg7))
        exact ⟨⟨a, (a + 1) % 1024, f2, T'.set h (some (t, m)), by go_num, by go_num, Lib.hid (HW.out.moved HX.out hne HRS.out (by (exact jkc)) HG7.out HO7.out)⟩, by simp [intOf]; have := HW.out.al; omega⟩
      · rw [if_neg hge] at hres
        have HRS := Lib.hid hres
        clear hres
        have hge2 : ¬ (((a + 1024 - H % 1024) % 1024 : Nat) : Int) ≥ (((a + 1024 - h) % 1024 : Nat) : Int) := by omega
        go_wp2_with (first | (go_at_call 241; (with_reducible refine (HC.out _).mono ?_); rintro e w' ⟨rfl, ⟨osj, dj, rfl⟩⟩))
        exact ⟨⟨h, (a + 1) % 1024, f2, T', by go_num, by go_num, Lib.hid (HW.out.kept hne HRS.out (by (exact jkc)))⟩, by simp [intOf]; have := HW.out.al; omega⟩
end Go.Proofs.YtfhkhnoiolkkdaaGreatDoor
set_option linter.unusedVariables false
set_option maxRecDepth 100000
set_option linter.unusedSimpArgs false
namespace Go.Proofs.YtfhkhnoiolkkdaaGreatDoor
open Go.Ix
def T0 : Tb := List.replicate 1024 none
theorem T0_len : T0.length = 1024 := List.length_replicate
theorem T0_get {i : Nat} {x : Tup × Int} : ¬ T0[i]? = some (some x) := fun h => by
  unfold T0 at h
  rw [List.getElem?_replicate] at h
  split at h <;> cases h
theorem T0_lenT : lenT T0 = 0 := by
  unfold lenT T0
  rw [List.countP_replicate]
  simp
theorem T0_ok : TbOk T0 := ⟨T0_len, right_mk (by rw [T0_len]; decide) (by rw [T0_lenT, T0_len]; decide) (fun i x h => absurd h T0_get), fun i t m h => absurd h T0_get⟩
theorem TbOk.put {T : Tb} {k : Tup} {n : Int} (h : TbOk T) (hk : TupW k) (hok : tupRight k = true) (hf : (findT hN T k).2 = false) (hl : lenT T + 1 < 1024) : TbOk (T.set (findT hN T k).1 (some (k, n))) := by
  refine ⟨by rw [List.length_set]; exact h.len, ?_, fun i t m hi => ?_⟩
  · exact (put_right (n := n) h.right hok hf (by rw [h.len]; exact hl)).1
  · by_cases e : (findT hN T k).1 = i
    · rw [← e] at hi
      by_cases e2 : (findT hN T k).1 < T.length
      · rw [List.getElem?_set_self e2] at hi
        cases hi
        exact hk
      · rw [List.getElem?_eq_none (by rw [List.length_set]; omega)] at hi
        cases hi
    · rw [List.getElem?_set_ne e] at hi
      exact h.keys i t m hi
theorem TbOk.put_has {T : Tb} {k : Tup} {n : Int} (h : TbOk T) (hok : tupRight k = true) (hf : (findT hN T k).2 = false) (hl : lenT T + 1 < 1024) (k' : Tup) (v : Int) : Has (T.set (findT hN T k).1 (some (k, n))) k' v ↔ Has T k' v ∨ k' = k ∧ v = n :=
  (put_right (n := n) h.right hok hf (by rw [h.len]; exact hl)).2.2 k' v
theorem TbOk.put_len {T : Tb} {k : Tup} {n : Int} (h : TbOk T) (hok : tupRight k = true) (hf : (findT hN T k).2 = false) (hl : lenT T + 1 < 1024) : lenT (T.set (findT hN T k).1 (some (k, n))) = lenT T + 1 :=
  (put_right (n := n) h.right hok hf (by rw [h.len]; exact hl)).2.1
theorem T0_has (k : Tup) (v : Int) : ¬ Has T0 k v := fun ⟨i, h⟩ => T0_get h
theorem find_no {T : Tb} {k : Tup} (hT : T.length = 1024) (h : ∀ v, ¬ Has T k v) : (findT hN T k).2 = false := by
  cases hb : (findT hN T k).2 with
  | false => rfl
  | true =>
    obtain ⟨v, hv⟩ := find_true (hm := hN) (by rw [hT]; decide) hb
    exact absurd ⟨_, hv⟩ (h v)
def T1 (k : Tup) (v : Int) : Tb := T0.set (hN k % 1024) (some (k, v))
theorem find_at_none {T : Tb} {k : Tup} {a n : Nat} (h : T[a]? = some none) : findGo T k (n + 1) a = (a, false) := by
  rw [findGo, h]
theorem T0_find (k : Tup) : findT hN T0 k = (hN k % 1024, false) := by
  have h3 : T0[hN k % 1024]? = some none := by unfold T0; rw [List.getElem?_replicate, if_pos (Nat.mod_lt _ (by decide))]
  have h4 := find_at_none (k := k) (n := 1023) h3
  unfold findT
  rw [T0_len]
  exact h4
theorem T1_ok {k : Tup} {v : Int} (hk : TupW k) (hok : tupRight k = true) : TbOk (T1 k v) := by
  have := T0_ok.put (n := v) hk hok (by rw [T0_find]) (by rw [T0_lenT]; decide)
  rw [T0_find] at this
  exact this
theorem T1_has {k k' : Tup} {v v' : Int} (hok : tupRight k = true) : Has (T1 k v) k' v' ↔ k' = k ∧ v' = v := by
  have := T0_ok.put_has (n := v) hok (by rw [T0_find]) (by rw [T0_lenT]; decide) k' v'
  rw [T0_find] at this
  unfold T1
  rw [this]
  exact ⟨fun h => h.resolve_left (T0_has _ _), .inr⟩
theorem T1_lenT {k : Tup} {v : Int} (hok : tupRight k = true) : lenT (T1 k v) = 1 := by
  have := T0_ok.put_len (n := v) hok (by rw [T0_find]) (by rw [T0_lenT]; decide)
  rw [T0_find, T0_lenT] at this
  exact this
end Go.Proofs.YtfhkhnoiolkkdaaGreatDoor
set_option linter.unusedVariables false
set_option maxRecDepth 100000
set_option linter.unusedSimpArgs false
namespace Go.Proofs.YtfhkhnoiolkkdaaGreatDoor
open Go.Ix
def T2 (k1 : Tup) (v1 : Int) (k2 : Tup) (v2 : Int) : Tb := (T1 k1 v1).set (findT hN (T1 k1 v1) k2).1 (some (k2, v2))
theorem T2_no {k1 k2 : Tup} {v1 : Int} (hok : tupRight k1 = true) (hne : k2 ≠ k1) : (findT hN (T1 k1 v1) k2).2 = false :=
  find_no (by unfold T1; rw [List.length_set, T0_len]) (fun v h => hne ((T1_has hok).1 h).1)
theorem T2_ok {k1 k2 : Tup} {v1 v2 : Int} (hk1 : TupW k1) (h1 : tupRight k1 = true) (hk2 : TupW k2) (h2 : tupRight k2 = true) (hne : k2 ≠ k1) : TbOk (T2 k1 v1 k2 v2) :=
  (T1_ok hk1 h1).put hk2 h2 (T2_no h1 hne) (by rw [T1_lenT h1]; decide)
theorem T2_has {k1 k2 : Tup} {v1 v2 : Int} (hk1 : TupW k1) (h1 : tupRight k1 = true) (h2 : tupRight k2 = true) (hne : k2 ≠ k1) (k : Tup) (v : Int) : Has (T2 k1 v1 k2 v2) k v ↔ (k = k1 ∧ v = v1) ∨ k = k2 ∧ v = v2 := by
  have := (T1_ok (v := v1) hk1 h1).put_has (n := v2) h2 (T2_no h1 hne) (by rw [T1_lenT h1]; decide) k v
  unfold T2
  rw [this, T1_has h1]
end Go.Proofs.YtfhkhnoiolkkdaaGreatDoor
set_option linter.unusedVariables false
set_option maxRecDepth 100000
set_option linter.unusedSimpArgs false
namespace Go.Proofs.YtfhkhnoiolkkdaaGreatDoor
open Go.Ix
theorem T0_at {i : Nat} (h : i < 1024) : T0[i]? = some none := by unfold T0; rw [List.getElem?_replicate, if_pos h]
theorem find_at_other {T : Tb} {k : Tup} {x : Tup × Int} {a n : Nat} (h : T[a]? = some (some x)) (hk : x.1 ≠ k) : findGo T k (n + 1) a = findGo T k n ((a + 1) % T.length) := by
  rw [findGo, h]
  simp only [if_neg hk]
theorem T1_at {k : Tup} {v : Int} {i : Nat} (h : i < 1024) : (T1 k v)[i]? = if i = hN k % 1024 then some (some (k, v)) else some none := by
  unfold T1
  rw [List.getElem?_set]
  by_cases e : hN k % 1024 = i
  · rw [if_pos e, if_pos e.symm, T0_len, if_pos (by omega)]
  · rw [if_neg e, if_neg (fun e2 => e e2.symm), T0_at h]
theorem T1_len (k : Tup) (v : Int) : (T1 k v).length = 1024 := by unfold T1; rw [List.length_set, T0_len]
theorem findT_F {T : Tb} (hT : T.length = 1024) (k : Tup) (F : Nat) (hF : F = 1024) : findT hN T k = findGo T k F (hN k % 1024) := by
  unfold findT
  rw [hT, hF]
def pl2 (k1 k2 : Tup) : Nat := if hN k2 % 1024 = hN k1 % 1024 then (hN k1 % 1024 + 1) % 1024 else hN k2 % 1024
theorem pl2_lt (k1 k2 : Tup) : pl2 k1 k2 < 1024 := by unfold pl2; split <;> omega
theorem pl2_ne (k1 k2 : Tup) : pl2 k1 k2 ≠ hN k1 % 1024 := by unfold pl2; split <;> omega
theorem T1_find {k1 k2 : Tup} {v1 : Int} (hne : k2 ≠ k1) : findT hN (T1 k1 v1) k2 = (pl2 k1 k2, false) := by
  obtain ⟨f, hf⟩ : ∃ f, f + 2 = 1024 := ⟨1022, rfl⟩
  rw [findT_F (T1_len _ _) k2 (f + 2) hf]
  by_cases h : hN k2 % 1024 = hN k1 % 1024
  · have h1 : (T1 k1 v1)[hN k2 % 1024]? = some (some (k1, v1)) := by rw [T1_at (by omega), if_pos h]
    have h2 : (T1 k1 v1)[(hN k2 % 1024 + 1) % 1024]? = some none := by rw [T1_at (by omega), if_neg (by omega)]
    rw [find_at_other (n := f + 1) h1 (fun e => hne e.symm), T1_len, find_at_none (n := f) h2]
    unfold pl2
    rw [if_pos h, h]
  · have h1 : (T1 k1 v1)[hN k2 % 1024]? = some none := by rw [T1_at (by omega), if_neg h]
    rw [find_at_none (n := f + 1) h1]
    unfold pl2
    rw [if_neg h]
theorem T2_eq {k1 k2 : Tup} {v1 v2 : Int} (hne : k2 ≠ k1) : T2 k1 v1 k2 v2 = (T1 k1 v1).set (pl2 k1 k2) (some (k2, v2)) := by
  unfold T2
  rw [T1_find hne]
theorem T2_at {k1 k2 : Tup} {v1 v2 : Int} (hne : k2 ≠ k1) {i : Nat} (h : i < 1024) : (T2 k1 v1 k2 v2)[i]? = if i = pl2 k1 k2 then some (some (k2, v2)) else if i = hN k1 % 1024 then some (some (k1, v1)) else some none := by
  rw [T2_eq hne, List.getElem?_set]
  by_cases e : pl2 k1 k2 = i
  · rw [if_pos e, if_pos e.symm, T1_len, if_pos (by omega)]
  · rw [if_neg e, if_neg (fun e2 => e e2.symm), T1_at h]
theorem T2_len {k1 k2 : Tup} {v1 v2 : Int} (hne : k2 ≠ k1) : (T2 k1 v1 k2 v2).length = 1024 := by rw [T2_eq hne, List.length_set, T1_len]
theorem delGo_mv {T : Tb} {f h a : Nat} {x : Tup × Int} (hx : T[a]? = some (some x)) (hc : (a + T.length - hN x.1 % T.length) % T.length ≥ (a + T.length - h) % T.length) : delGo hN T (f + 1) h a = delGo hN (T.set h (some x)) f a ((a + 1) % T.length) := by
  rw [delGo, hx]
  simp only [if_pos hc]
theorem delGo_sk {T : Tb} {f h a : Nat} {x : Tup × Int} (hx : T[a]? = some (some x)) (hc : ¬ (a + T.length - hN x.1 % T.length) % T.length ≥ (a + T.length - h) % T.length) : delGo hN T (f + 1) h a = delGo hN T f h ((a + 1) % T.length) := by
  rw [delGo, hx]
  simp only [if_neg hc]
theorem tb_ext {S T : Tb} (hS : S.length = 1024) (hT : T.length = 1024) (h : ∀ i, i < 1024 → S[i]? = T[i]?) : S = T := by
  apply List.ext_getElem?
  intro i
  by_cases hi : i < 1024
  · exact h i hi
  · rw [List.getElem?_eq_none (by omega), List.getElem?_eq_none (by omega)]
theorem set_at {T : Tb} (hT : T.length = 1024) {i j : Nat} (hj : j < 1024) (x : Option (Tup × Int)) : (T.set i x)[j]? = if j = i then some x else T[j]? := by
  rw [List.getElem?_set]
  by_cases e : i = j
  · rw [if_pos e, if_pos e.symm, hT, if_pos (by omega)]
  · rw [if_neg e, if_neg (fun e2 => e e2.symm)]
theorem T2_delF {k1 k2 : Tup} {v1 v2 : Int} (hne : k2 ≠ k1) (F : Nat) (hF : F = 1024) : delGo hN (T2 k1 v1 k2 v2) F (hN k1 % 1024) ((hN k1 % 1024 + 1) % 1024) = T1 k2 v2 := by
  have hl := T2_len (v1 := v1) (v2 := v2) hne
  have hget := fun i (h : i < 1024) => T2_at (v1 := v1) (v2 := v2) hne h
  obtain ⟨f, rfl⟩ : ∃ f, F = f + 1 := ⟨F - 1, by omega⟩
  generalize hT : T2 k1 v1 k2 v2 = T at hl hget ⊢
  by_cases hp : pl2 k1 k2 = (hN k1 % 1024 + 1) % 1024
  · have hx : T[(hN k1 % 1024 + 1) % 1024]? = some (some (k2, v2)) := by rw [hget _ (by omega), if_pos hp.symm]
    have hn : T[((hN k1 % 1024 + 1) % 1024 + 1) % 1024]? = some none := by rw [hget _ (by omega), if_neg (by omega), if_neg (by omega)]
    by_cases h : hN k2 % 1024 = hN k1 % 1024
    · rw [delGo_mv hx (by rw [hl]; simp only; rw [h]; omega), hl]
      have hn2 : (T.set (hN k1 % 1024) (some (k2, v2)))[((hN k1 % 1024 + 1) % 1024 + 1) % 1024]? = some none := by rw [set_at hl (by omega), if_neg (by omega)]; exact hn
      rw [delGo_out _ _ _ _ hn2]
      refine tb_ext (by rw [List.length_set, List.length_set, hl]) (T1_len _ _) (fun i hi => ?_)
      rw [set_at (by rw [List.length_set, hl]) hi, set_at hl hi, hget i hi, T1_at hi, h, hp]
      by_cases e1 : i = (hN k1 % 1024 + 1) % 1024
      · rw [if_pos e1, if_neg (by omega)]
      · rw [if_neg e1]
        by_cases e2 : i = hN k1 % 1024
        · rw [if_pos e2, if_pos e2]
        · simp only [if_neg e2, if_neg e1]
    · have h0 : pl2 k1 k2 = hN k2 % 1024 := by unfold pl2; rw [if_neg h]
      rw [delGo_sk hx (by rw [hl]; simp only; omega), hl, delGo_out _ _ _ _ hn]
      refine tb_ext (by rw [List.length_set, hl]) (T1_len _ _) (fun i hi => ?_)
      rw [set_at hl hi, hget i hi, T1_at hi, h0]
      by_cases e2 : i = hN k1 % 1024
      · rw [if_pos e2, if_neg (by omega)]
      · simp only [if_neg e2]
  · have h : ¬ hN k2 % 1024 = hN k1 % 1024 := fun e => hp (by unfold pl2; rw [if_pos e])
    have h0 : pl2 k1 k2 = hN k2 % 1024 := by unfold pl2; rw [if_neg h]
    have hn : T[(hN k1 % 1024 + 1) % 1024]? = some none := by rw [hget _ (by omega), if_neg (fun e => hp e.symm), if_neg (by omega)]
    rw [delGo_out _ _ _ _ hn]
    refine tb_ext (by rw [List.length_set, hl]) (T1_len _ _) (fun i hi => ?_)
    rw [set_at hl hi, hget i hi, T1_at hi, h0]
    by_cases e2 : i = hN k1 % 1024
    · rw [if_pos e2, if_neg (by omega)]
    · simp only [if_neg e2]
theorem T1_delF (k : Tup) (v : Int) (F : Nat) (hF : F = 1024) : delGo hN (T1 k v) F (hN k % 1024) ((hN k % 1024 + 1) % 1024) = T0 := by
  have hn : (T1 k v)[(hN k % 1024 + 1) % 1024]? = some none := by rw [T1_at (by omega), if_neg (by omega)]
  rw [delGo_out _ _ _ _ hn]
  refine tb_ext (by rw [List.length_set, T1_len]) T0_len (fun i hi => ?_)
  rw [set_at (T1_len _ _) hi, T0_at hi, T1_at hi]
  by_cases e2 : i = hN k % 1024
  · rw [if_pos e2]
  · simp only [if_neg e2]
theorem find_hit {T : Tb} {k : Tup} {v : Int} {a n : Nat} (h : T[a]? = some (some (k, v))) : findGo T k (n + 1) a = (a, true) := by
  rw [findGo, h]
  simp
theorem T2_find1 {k1 k2 : Tup} {v1 v2 : Int} (hne : k2 ≠ k1) : findT hN (T2 k1 v1 k2 v2) k1 = (hN k1 % 1024, true) := by
  obtain ⟨f, hf⟩ : ∃ f, f + 1 = 1024 := ⟨1023, rfl⟩
  rw [findT_F (T2_len hne) k1 (f + 1) hf]
  exact find_hit (by rw [T2_at hne (by omega), if_neg (fun e => pl2_ne k1 k2 e.symm), if_pos rfl])
theorem T1_find1 (k : Tup) (v : Int) : findT hN (T1 k v) k = (hN k % 1024, true) := by
  obtain ⟨f, hf⟩ : ∃ f, f + 1 = 1024 := ⟨1023, rfl⟩
  rw [findT_F (T1_len k v) k (f + 1) hf]
  exact find_hit (by rw [T1_at (by omega), if_pos rfl])
end Go.Proofs.YtfhkhnoiolkkdaaGreatDoor
set_option linter.unusedVariables false
set_option maxRecDepth 100000
set_option linter.unusedSimpArgs false
namespace Go.Proofs.YtfhkhnoiolkkdaaGreatDoor
open Go.RowKit
theorem built_cells2 {w : World} {news : List Value} {e : TypeId} {n : Nat} {os : Array Obj} {d : Nat} (hn : n = w.heap.size) : ∀ ad : Addr, some (⟨n, 0, none⟩ : Addr) = some ad → ∀ j u, news[j]? = some u → ((w.alloc (.cells news.toArray e)).junk os d).cell? (ad.add j) = some u := by
  intro ad had j u hu
  have h := built_cells (e := e) hn ad had j u hu
  cases had
  subst hn
  rw [Addr.add_lit] at h ⊢
  rw [World.cell?_junk _ _ _ _ _ (by simp)]
  exact h
theorem al_assert (till : Int) (w : World) : (Instr.typeAssert (.iface 285 (.agg #[.int .i64 0, .int .i64 till])) 20 285 false).run Tryz.prog w = .ok (.agg #[.int .i64 0, .int .i64 till]) w := by kernel_rfl
set_option maxHeartbeats 1000000 in
theorem apush_any (wh mp : Nat) (till now : Int) (w : World) (h : Wh0 w wh mp none 0 now) :
    Calls Tryz.prog 339 #[.pointer (some ⟨wh, 0, none⟩), .iface 285 (.agg #[.int .i64 0, .int .i64 till])] w fun e w' => e = .returned (.tuple #[]) ∧ ∃ li lc, w.heap.size ≤ li ∧ Wh1 w' wh mp li lc till now ∧ Tch (fun k => k = wh ∨ k = mp) w w' := by
  have c0 : w.cell? ⟨wh, 0, none⟩ = some (.slice none 0 0) := h.box.cell rfl
  have c1 : w.cell? ⟨wh, 1, none⟩ = some (.map (some mp)) := h.box.cell rfl
  have hb := h.box.lt
  have HH := Lib.hid h
  clear h
  have hta := al_assert till
  go_enter Tryz.func339, Tryz.ntmps339
  go_upto_region 1 with (fail)
  refine wp_region_mixl (w.alloc (.cells #[.int .i64 0, .int .i64 till] 285)) 11 [(0, true), (1, true), (2, true), (3, true), (4, true), (5, true), (6, true), (7, true), (8, true), (9, true), (10, true), (11, false)] (by kernel_rfl) (by kernel_rfl) (by (exact jkc)) ?_; (iterate 11 (refine wpMixL_q rfl (fun K hK => ?_); (go_simp; try go_bits); (refine hK _ ?_; clear hK K))); refine wpMixL_last1 rfl rfl (fun osm1_0 dm1_0 K hK => ?_); (refine put0_wp _ _ _ rfl (HH.out.mm.on (by (exact jkc))) Tryz.underlying279 Tryz.underlying3 rfl rfl rfl ?_; intro w3 hm3 hg3; have H3 := Lib.hid (And.intro hm3 hg3); clear hm3 hg3); refine hK _ _ ?_; clear hK K; refine wpMixL_nil (fun osm dm => ?_)
  go_upto_region 2 with (fail)
  have hJ0 : Junk (w.alloc (.cells #[.int .i64 0, .int .i64 till] 285)) ((w.alloc (.cells #[.int .i64 0, .int .i64 till] 285)).drew.junk osm1_0 dm1_0) := by (exact jkc)
  refine wp_keep (fun V => Tch (fun k => k = mp) (w.alloc (.cells #[.int .i64 0, .int .i64 till] 285)) V ∧ Mp1 V mp) ⟨((Tch.of_junk (L := fun k => k = mp) hJ0).grown H3.out.2 (fun _ => rfl)).on ⟨_, _, rfl⟩, H3.out.1.on ⟨_, _, rfl⟩⟩ ?_
  intro V ⟨ht, hm⟩
  have hmp := HH.out.mm.lt
  have hne := HH.out.ne
  have T1 : Tch (fun k => k = mp) w V := ((Tch.refl w).new _).trans ht
  have a0 : V.cell? ⟨w.heap.size, 0, none⟩ = some (.int .i64 0) := ht.cell (by simp [go_sem]) (by first | (simp only; omega) | omega)
  have a1 : V.cell? ⟨w.heap.size, 1, none⟩ = some (.int .i64 till) := ht.cell (by simp [go_sem]) (by first | (simp only; omega) | omega)
  have b0 : V.cell? ⟨wh, 0, none⟩ = some (.slice none 0 0) := T1.cell c0 hne
  have bs : w.heap.size < V.heap.size := Nat.lt_of_lt_of_le (by simp) ht.size
  have bw : wh < V.heap.size := by omega
  have bf : V.frozen? ⟨wh, 0, none⟩ = false := (HH.out.box.tch T1 hne).frozen 0
  have HV := Lib.hid (And.intro T1 (And.intro hm (HH.out.box.tch T1 hne)))
  clear ht hm T1 c0 c1 H3 HH
  refine wp_region_mixl (V) 10 [(0, true), (1, true), (2, true), (3, true), (4, true), (5, true), (6, false), (7, false), (8, true), (9, true), (10, false)] (by kernel_rfl) (by kernel_rfl) (by (exact jkc)) ?_; (iterate 6 (refine wpMixL_q rfl (fun K hK => ?_); (go_simp; try go_bits); (refine hK _ ?_; clear hK K))); refine wpMixL_e rfl (fun osm2_0 dm2_0 K hK => ?_); (go_simp; try go_bits); refine hK _ _ (Junk.pair (by (first | exact jkc | repeat (first | with_reducible exact Junk.refl _ | with_reducible exact Junk.app _ _ _ _ _ | with_reducible apply Junk.alloc | with_reducible apply Junk.junk | with_reducible apply Junk.drew | with_reducible apply Junk.drewN | (with_reducible refine Junk.setCell ?_ (by simp) _))))) ?_; clear hK K; refine wpMixL_e1 rfl rfl (fun osm2_1 dm2_1 K hK => ?_); (refine ap_own_wp (W0 := V) _ _ 278 rfl 285 (.agg #[.int .i64 0, .int .i64 0]) 2 16 (by kernel_rfl) rfl (by decide) Tryz.underlying278 (by (exact jkc)) _ 0 0 [] rfl (Own.nil _ _ _ _) _ 1 1 rfl [_, _] rfl (built_cells2 (by simp)) (by simp) (by simp [Value.oneCell']) (by simp only [maxLen]; omega) (by omega) ?_; intro ob' cap' os' d' hown' hnn; (try simp only [World.junk_junk] at hown'); have Hown2 := Lib.hid (And.intro hown' hnn); clear hown' hnn); refine hK _ _ (Junk.pair (by (first | exact jkc | repeat (first | with_reducible exact Junk.refl _ | with_reducible exact Junk.app _ _ _ _ _ | with_reducible apply Junk.alloc | with_reducible apply Junk.junk | with_reducible apply Junk.drew | with_reducible apply Junk.drewN | (with_reducible refine Junk.setCell ?_ (by simp) _))))) ?_; clear hK K; (iterate 2 (refine wpMixL_q rfl (fun K hK => ?_); (go_simp; try go_bits); (refine hK _ ?_; clear hK K))); refine wpMixL_last rfl (fun osm2_2 dm2_2 K hK => ?_); (go_simp; try go_bits); refine hK _ _ ?_; clear hK K; refine wpMixL_nil (fun osm dm => ?_)
  go_end0
  obtain ⟨ho, hnn⟩ := Hown2.out
  rw [List.nil_append, Nat.zero_add] at ho
  obtain ⟨g, rfl, hg1, hg2, _⟩ := own_some ho (by omega)
  have e : ((V.setCell ⟨wh, 0, none⟩ (.slice (some ⟨g, 0, none⟩) 1 cap')).junk (os' ++ osm2_2) dm2_2).junk osm dm = (((V.junk os' d').setCell ⟨wh, 0, none⟩ (.slice (some ⟨g, 0, none⟩) 1 cap')).junk osm2_2 dm2_2).junk osm dm := by
    rw [World.setCell_junk _ _ _ _ _ _ bw]
    simp only [World.junk_junk, Array.append_assoc]
  rw [e]
  have J2 : Junk ((V.junk os' d').setCell ⟨wh, 0, none⟩ (.slice (some ⟨g, 0, none⟩) 1 cap')) ((((V.junk os' d').setCell ⟨wh, 0, none⟩ (.slice (some ⟨g, 0, none⟩) 1 cap')).junk osm2_2 dm2_2).junk osm dm) := by (exact jkc)
  have T2 : Tch (fun k => k = wh) (V.junk os' d') ((((V.junk os' d').setCell ⟨wh, 0, none⟩ (.slice (some ⟨g, 0, none⟩) 1 cap')).junk osm2_2 dm2_2).junk osm dm) := ((Tch.refl (L := fun k => k = wh) _).set _ (fun _ => rfl)).on J2
  have hbx := (HV.out.2.2.on (show Junk V (V.junk os' d') from ⟨_, _, rfl⟩)).set 0 (.slice (some ⟨g, 0, none⟩) 1 cap')
  have hms := HV.out.2.1.lt
  refine ⟨rfl, g, cap', by omega, ⟨hbx.on J2, own_keep (ho.lower (by omega)) T2 (by first | (simp only; omega) | omega), (HV.out.2.1.on ⟨_, _, rfl⟩).tch T2 (by first | (simp only; omega) | omega), hne, by omega⟩, (HV.out.1.mono (fun k hk => .inr hk)).trans ((Tch.of_junk ⟨_, _, rfl⟩).trans (T2.mono (fun k hk => .inl hk)))⟩
end Go.Proofs.YtfhkhnoiolkkdaaGreatDoor
set_option linter.unusedVariables false
set_option maxRecDepth 100000
set_option linter.unusedSimpArgs false
namespace Go.Proofs.YtfhkhnoiolkkdaaGreatDoor
open Go.RowKit
theorem al_len (a : Addr) (w : World) : (method 157 287 (.pointer (some a)) "Len").run Tryz.prog w = .ok (156, .pointer (some a)) w := by kernel_rfl
def LW (wh mp : Nat) : Nat → Prop := fun k => k = wh ∨ k = mp
set_option maxHeartbeats 1000000 in
theorem hpush_any (wh mp : Nat) (till now : Int) (w : World) (h : Wh0 w wh mp none 0 now) :
    Calls Tryz.prog 295 #[.iface 287 (.pointer (some ⟨wh, 0, none⟩)), .iface 285 (.agg #[.int .i64 0, .int .i64 till])] w fun e w' => e = .returned (.tuple #[]) ∧ ∃ li lc, w.heap.size ≤ li ∧ Wh1 w' wh mp li lc till now ∧ Tch (LW wh mp) w w' := by
  have HH := Lib.hid h
  clear h
  have n1 := al_nil ⟨wh, 0, none⟩ "Push" (by simp)
  have n2 := al_nil ⟨wh, 0, none⟩ "Len" (by simp)
  have m1 := al_push ⟨wh, 0, none⟩
  have m2 := al_len ⟨wh, 0, none⟩
  go_enter Tryz.func295, Tryz.ntmps295
  go_wp2_with (first | (go_at_call 339; (with_reducible refine (apush_any wh mp till now _ HH.out).mono ?_); rintro e V ⟨rfl, li, lc, hli, hW, hT⟩; have z0 := hW.box.cell (j := 0) rfl; have z1 := hW.box.lt; have HW := Lib.hid (And.intro hli (And.intro hW hT)); clear hli hW hT) | (go_at_call 156; (with_reducible refine (alen_any 1 _ _ _ z1 z0).mono ?_); rintro e w' ⟨rfl, ⟨osn, dn, rfl⟩⟩) | (go_at_call 307; (with_reducible refine (hup_any _).mono ?_); rintro e w' ⟨rfl, ⟨osj, dj, rfl⟩⟩))
  go_end0
  exact ⟨rfl, li, lc, HW.out.1, HW.out.2.1.on (by (exact jkc)), HW.out.2.2.on (by (exact jkc))⟩
theorem hfix_any (wh mp li lc : Nat) (till now : Int) (w : World) (h : Wh1 w wh mp li lc till now) :
    Calls Tryz.prog 294 #[.iface 287 (.pointer (some ⟨wh, 0, none⟩)), .int .i64 0] w fun e w' => e = .returned (.tuple #[]) ∧ Junk w w' := by
  have z0 := h.box.cell (j := 0) rfl
  have z1 := h.box.lt
  clear h
  have n2 := al_nil ⟨wh, 0, none⟩ "Len" (by simp)
  have m2 := al_len ⟨wh, 0, none⟩
  go_enter Tryz.func294, Tryz.ntmps294
  go_wp2_with (first | (go_at_call 156; (with_reducible refine (alen_any 1 _ _ _ z1 z0).mono ?_); rintro e w' ⟨rfl, ⟨osn, dn, rfl⟩⟩) | (go_at_call 239; (with_reducible refine (hdown_any 1 (by decide) _).mono ?_); rintro e w' ⟨rfl, ⟨osj, dj, rfl⟩⟩) | (go_at_call 307; (with_reducible refine (hup_any _).mono ?_); rintro e w' ⟨rfl, ⟨osj, dj, rfl⟩⟩))
  go_end0
  exact ⟨rfl, by (exact jkc)⟩
theorem wset_new (wh mp : Nat) (till now : Int) (w : World) (h : Wh0 w wh mp none 0 now) (h0 : 0 ≤ till) (h1 : till ≤ 1099511627776) (h2 : now < till) :
    Calls Tryz.prog 237 #[.pointer (some ⟨wh, 0, none⟩), .int .i64 0, .int .i64 till] w fun e w' => e = .returned (.int .i64 0) ∧ ∃ li lc, w.heap.size ≤ li ∧ Wh1 w' wh mp li lc till now ∧ Tch (LW wh mp) w w' := by
  have HH := Lib.hid h
  have z0 := h.box.cell (j := 0) rfl
  have z2 := h.box.cell (j := 1) rfl
  have z3 := h.box.cell (j := 2) rfl
  have z1 := h.box.lt
  have hlk := mp_look0 h.mm Tryz.underlying279 Tryz.underlying3 (show (zeroValue 3).run Tryz.prog w = .ok (.int .i64 0) w by kernel_rfl) 0
  clear h
  have q0 : ¬ till < 0 := by omega
  have q1 : ¬ 1099511627776 < till := by omega
  have q2 : ¬ till ≤ now := by omega
  clear h0 h1 h2
  go_enter Tryz.func237, Tryz.ntmps237
  go_wp2_with (first | (go_at_call 156; (with_reducible refine (alen_any 0 _ _ _ z1 z0).mono ?_); rintro e w' ⟨rfl, ⟨osn, dn, rfl⟩⟩) | (go_at_call 295; (with_reducible refine (hpush_any wh mp till now _ (HH.out.on (by (exact jkc)))).mono ?_); rintro e V ⟨rfl, li, lc, hli, hW, hT⟩; have HW := Lib.hid (And.intro hli (And.intro hW hT)); clear hli hW hT))
  go_ret
  exact ⟨rfl, li, lc, Nat.le_trans (by simp) HW.out.1, HW.out.2.1, (Tch.of_junk (by (exact jkc))).trans HW.out.2.2⟩
end Go.Proofs.YtfhkhnoiolkkdaaGreatDoor
