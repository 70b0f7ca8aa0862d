/- udp.Put (with a sum): the bytes of a datagram. -/
import Derived.Test.YtnefphinmjeacaaUdpA
import Derived.Test.YtnefphinmjeacaaApB
import Derived.Test.YtnefphinmjeacaaIcmpPut
import Derived.Test.YtnefphinmjeacaaSumPlain
set_option linter.unusedVariables false
set_option maxRecDepth 100000
set_option linter.unusedSimpArgs false
namespace Go.Proofs.Ytnefphinmjeacaa
open Go.RowKit
def uportB (n : Int) : Bool := decide (0 ≤ n) && decide (n ≤ 65535)
theorem uport_any (n : Int) (w : World) : Calls Try.prog 65 #[.int .i64 n] w fun e w' => e = .returned (.bool (uportB n)) ∧ w = w' := by
  by_cases h1 : 0 ≤ n
  · go_enter Try.func65, Try.ntmps65
    go_wp2
    go_ret
    exact ⟨ret_bool (by simp [uportB, h1]), rfl⟩
  · go_enter Try.func65, Try.ntmps65
    go_wp2
    go_ret
    exact ⟨ret_bool (by simp [uportB]; intro; omega), rfl⟩
def GrewZ (W0 : World) (n : Nat) (zs : Nat → Int) (e : Ending) (w' : World) : Prop := ∃ (oa : Option Addr) (cap : Nat), e = .returned (.slice oa n cap) ∧ Junk W0 w' ∧ OwB W0.heap.size w' oa cap n zs
set_option maxHeartbeats 400000 in
theorem uhalf_any (W0 w : World) (oa : Option Addr) (cap n : Nat) (zs : Nat → Int) (v : Int) (hv0 : 0 ≤ v) (hv1 : v ≤ 65535) (hn : n ≤ 100) (hj : Junk W0 w) (hown : OwB W0.heap.size w oa cap n zs) (hz0 : zs n = v / 256) (hz1 : zs (n + 1) = v % 256) :
    Calls Try.prog 66 #[.slice oa n cap, .int .i64 v] w (GrewZ W0 (n + 2) zs) := by
  have HJ := Lib.hid hj
  have HO := Lib.hid hown
  have H0 := Lib.hid hz0
  have H1 := Lib.hid hz1
  clear hj hown hz0 hz1
  have q5 : IntKind.u8.wrap (v / 256) = v / 256 := wrapk_u8 _ (by omega) (by omega)
  have q6 : IntKind.u8.wrap v = v % 256 := IntKind.wrap_u8 _
  go_enter Try.func66, Try.ntmps66
  go_wp2_with (at_builtin; (refine ap_bz (W0 := W0) rfl _ _ rfl (HJ.out.trans (by ((try simp only [World.junk_junk, Array.append_assoc]); (repeat (first | with_reducible exact Junk.refl _ | with_reducible exact Junk.app _ _ _ _ _ | with_reducible exact Junk.app2 _ _ _ _ _ _ | with_reducible exact Junk.app3 _ _ _ _ _ _ _ | with_reducible exact Junk.app4 _ _ _ _ _ _ _ _ | with_reducible exact Junk.app5 _ _ _ _ _ _ _ _ _ | with_reducible apply Junk.alloc | with_reducible apply Junk.junk | with_reducible apply Junk.drew | with_reducible apply Junk.drewN))))) oa cap n zs rfl (HO.out.on (by ((try simp only [World.junk_junk, Array.append_assoc]); (repeat (first | with_reducible exact Junk.refl _ | with_reducible exact Junk.app _ _ _ _ _ | with_reducible exact Junk.app2 _ _ _ _ _ _ | with_reducible exact Junk.app3 _ _ _ _ _ _ _ | with_reducible exact Junk.app4 _ _ _ _ _ _ _ _ | with_reducible exact Junk.app5 _ _ _ _ _ _ _ _ _ | with_reducible apply Junk.alloc | with_reducible apply Junk.junk | with_reducible apply Junk.drew | with_reducible apply Junk.drewN))))) _ 2 2 rfl (by exact alloc_ints _ _ _ _ (by simp) 2 _ (bz2 H0.out H1.out)) (fun h => by cases h) (by omega) ?_; intro o2 c2 os2 d2 h_2 hn2; have H2 := Lib.hid h_2; clear h_2))
  go_ret
  exact ⟨o2, c2, rfl, ⟨_, _, rfl⟩, H2.out⟩
/-- The bytes of a datagram, with a check sum. -/
def udB (sp dp c : Int) (body : Nat → Int) (l : Nat) : Nat → Int
  | 0 => sp / 256
  | 1 => sp % 256
  | 2 => dp / 256
  | 3 => dp % 256
  | 4 => ((8 + l : Nat) : Int) / 256
  | 5 => ((8 + l : Nat) : Int) % 256
  | 6 => c / 256
  | 7 => c % 256
  | k + 8 => body k
def udSum (src dst sp dp : Int) (body : Nat → Int) (l : Nat) : Int :=
  if usumN src dst (udB sp dp 0 body l) (8 + l) = 65535 then 65535 else 65535 - usumN src dst (udB sp dp 0 body l) (8 + l)
def udOf (src dst sp dp : Int) (body : Nat → Int) (l : Nat) : Nat → Int := udB sp dp (udSum src dst sp dp body l) body l
theorem eight (i : Nat) : i = 0 ∨ i = 1 ∨ i = 2 ∨ i = 3 ∨ i = 4 ∨ i = 5 ∨ i = 6 ∨ i = 7 ∨ ∃ k, i = k + 8 := by
  by_cases h : i < 8
  · omega
  · have : ∃ k, i = k + 8 := ⟨i - 8, by omega⟩
    simp [this]
theorem udB_byte {sp dp c : Int} {body : Nat → Int} {l : Nat} (h1 : 0 ≤ sp ∧ sp ≤ 65535) (h2 : 0 ≤ dp ∧ dp ≤ 65535) (hc : 0 ≤ c ∧ c ≤ 65535) (hl : 8 + l ≤ 65535) (hb : ∀ i, i < l → 0 ≤ body i ∧ body i ≤ 255) : ∀ i, i < 8 + l → 0 ≤ udB sp dp c body l i ∧ udB sp dp c body l i ≤ 255 := by
  intro i hi
  rcases eight i with rfl | rfl | rfl | rfl | rfl | rfl | rfl | rfl | ⟨k, rfl⟩
  all_goals simp only [udB]
  all_goals first | omega | exact hb _ (by omega)
theorem usumN_bd {src dst : Int} {xs : Nat → Int} {l : Nat} (h1 : 0 ≤ src ∧ src ≤ 4294967295) (h2 : 0 ≤ dst ∧ dst ≤ 4294967295) (hl : l ≤ 65535) (hx : ∀ i, i < l → 0 ≤ xs i ∧ xs i ≤ 255) : 0 ≤ usumN src dst xs l ∧ usumN src dst xs l ≤ 65535 := by
  have hr := rawN_bd xs l hx
  have hp := pseudoN_bd (proto := 17) (size := (l : Int)) h1 h2 (by omega) (by omega)
  exact foldI_bd _ (by omega)
theorem udSum_bd {src dst sp dp : Int} {body : Nat → Int} {l : Nat} (h1 : 0 ≤ src ∧ src ≤ 4294967295) (h2 : 0 ≤ dst ∧ dst ≤ 4294967295) (hs : 0 ≤ sp ∧ sp ≤ 65535) (hd : 0 ≤ dp ∧ dp ≤ 65535) (hl : 8 + l ≤ 65535) (hb : ∀ i, i < l → 0 ≤ body i ∧ body i ≤ 255) :
    0 < udSum src dst sp dp body l ∧ udSum src dst sp dp body l ≤ 65535 := by
  have := usumN_bd (xs := udB sp dp 0 body l) h1 h2 hl (udB_byte hs hd (by omega) hl hb)
  unfold udSum
  split <;> omega
theorem udOf_byte {src dst sp dp : Int} {body : Nat → Int} {l : Nat} (h1 : 0 ≤ src ∧ src ≤ 4294967295) (h2 : 0 ≤ dst ∧ dst ≤ 4294967295) (hs : 0 ≤ sp ∧ sp ≤ 65535) (hd : 0 ≤ dp ∧ dp ≤ 65535) (hl : 8 + l ≤ 65535) (hb : ∀ i, i < l → 0 ≤ body i ∧ body i ≤ 255) :
    ∀ i, i < 8 + l → 0 ≤ udOf src dst sp dp body l i ∧ udOf src dst sp dp body l i ≤ 255 := by
  have := udSum_bd h1 h2 hs hd hl hb
  exact udB_byte hs hd (by omega) hl hb
theorem udB_raw (sp dp c : Int) (body : Nat → Int) (l : Nat) : ∀ k, rawN (udB sp dp c body l) (8 + k) = rawN (udB sp dp 0 body l) (8 + k) + (c / 256 * 256 + c % 256)
  | 0 => by
    show rawN (udB sp dp c body l) 8 = rawN (udB sp dp 0 body l) 8 + _
    simp [rawN, udB]
    omega
  | k + 1 => by
    have h := udB_raw sp dp c body l k
    show rawN (udB sp dp c body l) ((8 + k) + 1) = rawN (udB sp dp 0 body l) ((8 + k) + 1) + _
    simp only [rawN]
    rw [h]
    have e : udB sp dp c body l (8 + k) = udB sp dp 0 body l (8 + k) := by rw [Nat.add_comm]; rfl
    rw [e]
    omega
/-- The sum of what is put fits. -/
theorem udOf_sum {src dst sp dp : Int} {body : Nat → Int} {l : Nat} (h1 : 0 ≤ src ∧ src ≤ 4294967295) (h2 : 0 ≤ dst ∧ dst ≤ 4294967295) (hs : 0 ≤ sp ∧ sp ≤ 65535) (hd : 0 ≤ dp ∧ dp ≤ 65535) (hl : 8 + l ≤ 65535) (hb : ∀ i, i < l → 0 ≤ body i ∧ body i ≤ 255) :
    usumN src dst (udOf src dst sp dp body l) (8 + l) = 65535 := by
  have hB := udB_byte (c := 0) hs hd (by omega) hl hb
  have hr := (rawN_bd _ _ hB).1
  have hp := pseudoN_bd (proto := 17) (size := ((8 + l : Nat) : Int)) h1 h2 (by omega) (by omega)
  have hS := udSum_bd h1 h2 hs hd hl hb
  have hfull := foldI_full (n := pseudoN src dst 17 ((8 + l : Nat) : Int) + rawN (udB sp dp 0 body l) (8 + l)) (by omega)
  unfold usumN udOf
  rw [udB_raw sp dp _ body l l]
  generalize hC : udSum src dst sp dp body l = C at hS ⊢
  have hC2 : C / 256 * 256 + C % 256 = C := by omega
  rw [hC2, ← Int.add_assoc]
  unfold udSum usumN at hC
  split at hC
  · rename_i h
    rw [foldI_iff (by omega)] at h ⊢
    omega
  · rw [← hC]; exact hfull
def UPutM (w : World) (src dst sp dp : Int) (body : Nat → Int) (l : Nat) (e : Ending) (w' : World) : Prop :=
  ∃ (ob : Option Addr) (cb : Nat), e = .returned (.tuple #[.slice ob (8 + l) cb, .int .i64 0]) ∧ Junk w w' ∧ Bts w' ob (8 + l) cb (udOf src dst sp dp body l)
theorem udOf_set {src dst sp dp : Int} {body : Nat → Int} {l : Nat} {C : Int} (h : udSum src dst sp dp body l = C) : ∀ i, (fun k => if k = 7 then C % 256 else (fun k => if k = 6 then C / 256 else udB sp dp 0 body l k) k) i = udOf src dst sp dp body l i := by
  intro i
  unfold udOf
  rw [h]
  rcases eight i with rfl | rfl | rfl | rfl | rfl | rfl | rfl | rfl | ⟨k, rfl⟩
  all_goals first | rfl | (show (if k + 8 = 7 then _ else (if k + 8 = 6 then _ else body k)) = body k; rw [if_neg (by omega), if_neg (by omega)])
theorem u_bts_congr {w : World} {oa : Option Addr} {l c : Nat} {xs ys : Nat → Int} (h : Bts w oa l c xs) (he : ∀ i, i < l → xs i = ys i) : Bts w oa l c ys :=
  ⟨fun i hi => by obtain ⟨b, off, h1, h2, h3⟩ := h.at_ i hi; exact ⟨b, off, h1, h2, by rw [← he i hi]; exact h3⟩, fun i hi => by rw [← he i hi]; exact h.byte i hi, h.nil, h.le, h.cap⟩
set_option maxHeartbeats 4000000 in
theorem uput_any (src dst sp dp : Int) (oa : Option Addr) (l ca : Nat) (body : Nat → Int) (w : World) (h1 : 0 ≤ src ∧ src ≤ 4294967295) (h2 : 0 ≤ dst ∧ dst ≤ 4294967295) (hs : 0 ≤ sp ∧ sp ≤ 65535) (hd : 0 ≤ dp ∧ dp ≤ 65535) (hl : 8 + l ≤ 65535) (hB : Bts w oa l ca body) :
    Calls Try.prog 30 #[.int .u32 src, .int .u32 dst, .agg #[.int .i64 sp, .int .i64 dp, .bool false, .slice oa l ca]] w (UPutM w src dst sp dp body l) := by
  have HB := Lib.hid hB
  obtain ⟨L, hL⟩ : ∃ L, 8 + l = L := ⟨_, rfl⟩
  have HLL := Lib.hid hL
  have eL : (8 : Int) + (l : Int) = (L : Int) := by omega
  have hL2 : ¬ (65535 : Int) < (L : Int) := by omega
  have hLb : L ≤ 65535 := by omega
  have hL8 : 8 ≤ L := by omega
  have hlb : l ≤ 65527 := by omega
  have hBz := udB_byte (c := 0) hs hd (by omega) hl hB.byte
  have hsb := usumN_bd h1 h2 hl hBz
  have hcb := udSum_bd h1 h2 hs hd hl hB.byte
  have HSET := Lib.hid (fun (C : Int) (h : udSum src dst sp dp body l = C) => udOf_set h)
  have p1 := Lib.hid (fun w1 => show Calls Try.prog 65 #[.int .i64 sp] w1 fun e w' => e = .returned (.bool true) ∧ w1 = w' by have := uport_any sp w1; rw [show uportB sp = true by unfold uportB; simp; omega] at this; exact this)
  have p2 := Lib.hid (fun w1 => show Calls Try.prog 65 #[.int .i64 dp] w1 fun e w' => e = .returned (.bool true) ∧ w1 = w' by have := uport_any dp w1; rw [show uportB dp = true by unfold uportB; simp; omega] at this; exact this)
  obtain ⟨X, hX⟩ : ∃ X, usumN src dst (udB sp dp 0 body l) (8 + l) = X := ⟨_, rfl⟩
  obtain ⟨C, hC⟩ : ∃ C, udSum src dst sp dp body l = C := ⟨_, rfl⟩
  have HC := Lib.hid hC
  have hCX : C = if X = 65535 then 65535 else 65535 - X := by rw [← hC, ← hX]; rfl
  obtain ⟨Z, hZ⟩ : ∃ Z, udB sp dp 0 body l = Z := ⟨_, rfl⟩
  have z0 : Z 0 = sp / 256 := by rw [← hZ]; rfl
  have z1 : Z (0 + 1) = sp % 256 := by rw [← hZ]; rfl
  have z2 : Z 2 = dp / 256 := by rw [← hZ]; rfl
  have z3 : Z (2 + 1) = dp % 256 := by rw [← hZ]; rfl
  have z4 : Z 4 = (L : Int) / 256 := by rw [← hZ, ← hL]; rfl
  have z5 : Z (4 + 1) = (L : Int) % 256 := by rw [← hZ, ← hL]; rfl
  have z6 : Z 6 = 0 / 256 := by rw [← hZ]; rfl
  have z7 : Z (6 + 1) = 0 % 256 := by rw [← hZ]; rfl
  have z8 : ∀ j, body j = Z (8 + j) := fun j => by rw [← hZ, Nat.add_comm]; rfl
  have HZ := Lib.hid (And.intro z0 (And.intro z1 (And.intro z2 (And.intro z3 (And.intro z4 (And.intro z5 (And.intro z6 (And.intro z7 z8))))))))
  have HZZ := Lib.hid hZ
  rw [hZ] at hBz
  rw [hL] at hBz
  have HBZ := Lib.hid hBz
  rw [hX] at hsb
  rw [hC] at hcb
  have HSUM := Lib.hid (fun (o : Option Addr) (c : Nat) (w1 : World) (hb : IntsAt w1 o L .u8 Z) => show Calls Try.prog 56 #[.int .u32 src, .int .u32 dst, .slice o L c] w1 fun e w' => e = .returned (.int .u16 X) ∧ Junk w1 w' by
    rw [← hX, hZ, hL]
    exact usum_any src dst o L c Z w1 h1 h2 hLb hb hBz)
  obtain ⟨hs0, hs1⟩ := hs
  obtain ⟨hd0, hd1⟩ := hd
  clear z0 z1 z2 z3 z4 z5 z6 z7 z8 hBz hB hX hC hZ hl hL
  by_cases hX0 : X = 65535
  · rw [if_pos hX0] at hCX
    subst hCX
    subst hX0
    go_enter Try.func30, Try.ntmps30
    go_wp2_with (first | (go_at_call 65; (with_reducible refine (p1.out _).mono ?_); rintro e w' ⟨rfl, rfl⟩) | (go_at_call 65; (with_reducible refine (p2.out _).mono ?_); rintro e w' ⟨rfl, rfl⟩))
    refine wp_region_mixj ((w.alloc (.cells #[.int .i64 sp, .int .i64 dp, .bool false, .slice oa l ca] 61))) [(0, true), (1, true), (3, true), (4, true), (6, true), (2, false), (5, false), (7, false), (8, false), (9, true)] (by kernel_rfl) (by kernel_rfl) (by (repeat (first | with_reducible exact Junk.refl _ | with_reducible exact Junk.app _ _ _ _ _ | with_reducible apply Junk.alloc | with_reducible apply Junk.junk | with_reducible apply Junk.drew | with_reducible apply Junk.drewN))) ?_; (iterate 5 (refine wpMix_q rfl (fun K hK => ?_); (go_simp; try go_bits); (refine hK _ ?_; clear hK K))); refine wpMix_e rfl (fun osm4_0 dm4_0 K hK => ?_); (go_simp; try go_bits); (go_at_call 66; refine (uhalf_any ((w.alloc (.cells #[.int .i64 sp, .int .i64 dp, .bool false, .slice oa l ca] 61))) _ none 0 0 Z sp hs0 hs1 (by omega) (by (first | ((repeat (first | with_reducible exact Junk.refl _ | with_reducible exact Junk.app _ _ _ _ _ | with_reducible apply Junk.alloc | with_reducible apply Junk.junk | with_reducible apply Junk.drew | with_reducible apply Junk.drewN)); done) | ((try simp only [World.junk_junk, Array.append_assoc]); (repeat (first | with_reducible exact Junk.refl _ | with_reducible exact Junk.app _ _ _ _ _ | with_reducible exact Junk.app2 _ _ _ _ _ _ | with_reducible exact Junk.app3 _ _ _ _ _ _ _ | with_reducible exact Junk.app4 _ _ _ _ _ _ _ _ | with_reducible exact Junk.app5 _ _ _ _ _ _ _ _ _ | with_reducible apply Junk.alloc | with_reducible apply Junk.junk | with_reducible apply Junk.drew | with_reducible apply Junk.drewN))))) (OwB.nil _ _ _) HZ.out.1 HZ.out.2.1).mono ?_; rintro e w' ⟨oA, cA, rfl, ⟨osA, dA, rfl⟩, h_A⟩; have HA := Lib.hid h_A; clear h_A); refine hK _ _ (Junk.pair (by (repeat (first | with_reducible exact Junk.refl _ | with_reducible exact Junk.app _ _ _ _ _ | with_reducible apply Junk.alloc | with_reducible apply Junk.junk | with_reducible apply Junk.drew | with_reducible apply Junk.drewN | (with_reducible refine Junk.setCell ?_ (by simp) _))))) ?_; clear hK K; refine wpMix_e rfl (fun osm4_1 dm4_1 K hK => ?_); (go_simp; try go_bits); (go_at_call 66; refine (uhalf_any ((w.alloc (.cells #[.int .i64 sp, .int .i64 dp, .bool false, .slice oa l ca] 61))) _ oA cA 2 Z dp hd0 hd1 (by omega) (by (first | ((repeat (first | with_reducible exact Junk.refl _ | with_reducible exact Junk.app _ _ _ _ _ | with_reducible apply Junk.alloc | with_reducible apply Junk.junk | with_reducible apply Junk.drew | with_reducible apply Junk.drewN)); done) | ((try simp only [World.junk_junk, Array.append_assoc]); (repeat (first | with_reducible exact Junk.refl _ | with_reducible exact Junk.app _ _ _ _ _ | with_reducible exact Junk.app2 _ _ _ _ _ _ | with_reducible exact Junk.app3 _ _ _ _ _ _ _ | with_reducible exact Junk.app4 _ _ _ _ _ _ _ _ | with_reducible exact Junk.app5 _ _ _ _ _ _ _ _ _ | with_reducible apply Junk.alloc | with_reducible apply Junk.junk | with_reducible apply Junk.drew | with_reducible apply Junk.drewN))))) (HA.out.on (by (first | ((repeat (first | with_reducible exact Junk.refl _ | with_reducible exact Junk.app _ _ _ _ _ | with_reducible apply Junk.alloc | with_reducible apply Junk.junk | with_reducible apply Junk.drew | with_reducible apply Junk.drewN)); done) | ((try simp only [World.junk_junk, Array.append_assoc]); (repeat (first | with_reducible exact Junk.refl _ | with_reducible exact Junk.app _ _ _ _ _ | with_reducible exact Junk.app2 _ _ _ _ _ _ | with_reducible exact Junk.app3 _ _ _ _ _ _ _ | with_reducible exact Junk.app4 _ _ _ _ _ _ _ _ | with_reducible exact Junk.app5 _ _ _ _ _ _ _ _ _ | with_reducible apply Junk.alloc | with_reducible apply Junk.junk | with_reducible apply Junk.drew | with_reducible apply Junk.drewN)))))) HZ.out.2.2.1 HZ.out.2.2.2.1).mono ?_; rintro e w' ⟨oQ, cQ, rfl, ⟨osQ, dQ, rfl⟩, h_Q⟩; have HQ := Lib.hid h_Q; clear h_Q); refine hK _ _ (Junk.pair (by (repeat (first | with_reducible exact Junk.refl _ | with_reducible exact Junk.app _ _ _ _ _ | with_reducible apply Junk.alloc | with_reducible apply Junk.junk | with_reducible apply Junk.drew | with_reducible apply Junk.drewN | (with_reducible refine Junk.setCell ?_ (by simp) _))))) ?_; clear hK K; refine wpMix_e rfl (fun osm4_2 dm4_2 K hK => ?_); (go_simp; try go_bits); (go_at_call 66; refine (uhalf_any ((w.alloc (.cells #[.int .i64 sp, .int .i64 dp, .bool false, .slice oa l ca] 61))) _ oQ cQ 4 Z (L : Int) (by omega) (by omega) (by omega) (by (first | ((repeat (first | with_reducible exact Junk.refl _ | with_reducible exact Junk.app _ _ _ _ _ | with_reducible apply Junk.alloc | with_reducible apply Junk.junk | with_reducible apply Junk.drew | with_reducible apply Junk.drewN)); done) | ((try simp only [World.junk_junk, Array.append_assoc]); (repeat (first | with_reducible exact Junk.refl _ | with_reducible exact Junk.app _ _ _ _ _ | with_reducible exact Junk.app2 _ _ _ _ _ _ | with_reducible exact Junk.app3 _ _ _ _ _ _ _ | with_reducible exact Junk.app4 _ _ _ _ _ _ _ _ | with_reducible exact Junk.app5 _ _ _ _ _ _ _ _ _ | with_reducible apply Junk.alloc | with_reducible apply Junk.junk | with_reducible apply Junk.drew | with_reducible apply Junk.drewN))))) (HQ.out.on (by (first | ((repeat (first | with_reducible exact Junk.refl _ | with_reducible exact Junk.app _ _ _ _ _ | with_reducible apply Junk.alloc | with_reducible apply Junk.junk | with_reducible apply Junk.drew | with_reducible apply Junk.drewN)); done) | ((try simp only [World.junk_junk, Array.append_assoc]); (repeat (first | with_reducible exact Junk.refl _ | with_reducible exact Junk.app _ _ _ _ _ | with_reducible exact Junk.app2 _ _ _ _ _ _ | with_reducible exact Junk.app3 _ _ _ _ _ _ _ | with_reducible exact Junk.app4 _ _ _ _ _ _ _ _ | with_reducible exact Junk.app5 _ _ _ _ _ _ _ _ _ | with_reducible apply Junk.alloc | with_reducible apply Junk.junk | with_reducible apply Junk.drew | with_reducible apply Junk.drewN)))))) HZ.out.2.2.2.2.1 HZ.out.2.2.2.2.2.1).mono ?_; rintro e w' ⟨oR, cR, rfl, ⟨osR, dR, rfl⟩, h_R⟩; have HR := Lib.hid h_R; clear h_R); refine hK _ _ (Junk.pair (by (repeat (first | with_reducible exact Junk.refl _ | with_reducible exact Junk.app _ _ _ _ _ | with_reducible apply Junk.alloc | with_reducible apply Junk.junk | with_reducible apply Junk.drew | with_reducible apply Junk.drewN | (with_reducible refine Junk.setCell ?_ (by simp) _))))) ?_; clear hK K; refine wpMix_e rfl (fun osm4_3 dm4_3 K hK => ?_); (go_simp; try go_bits); (go_at_call 66; refine (uhalf_any ((w.alloc (.cells #[.int .i64 sp, .int .i64 dp, .bool false, .slice oa l ca] 61))) _ oR cR 6 Z 0 (by omega) (by omega) (by omega) (by (first | ((repeat (first | with_reducible exact Junk.refl _ | with_reducible exact Junk.app _ _ _ _ _ | with_reducible apply Junk.alloc | with_reducible apply Junk.junk | with_reducible apply Junk.drew | with_reducible apply Junk.drewN)); done) | ((try simp only [World.junk_junk, Array.append_assoc]); (repeat (first | with_reducible exact Junk.refl _ | with_reducible exact Junk.app _ _ _ _ _ | with_reducible exact Junk.app2 _ _ _ _ _ _ | with_reducible exact Junk.app3 _ _ _ _ _ _ _ | with_reducible exact Junk.app4 _ _ _ _ _ _ _ _ | with_reducible exact Junk.app5 _ _ _ _ _ _ _ _ _ | with_reducible apply Junk.alloc | with_reducible apply Junk.junk | with_reducible apply Junk.drew | with_reducible apply Junk.drewN))))) (HR.out.on (by (first | ((repeat (first | with_reducible exact Junk.refl _ | with_reducible exact Junk.app _ _ _ _ _ | with_reducible apply Junk.alloc | with_reducible apply Junk.junk | with_reducible apply Junk.drew | with_reducible apply Junk.drewN)); done) | ((try simp only [World.junk_junk, Array.append_assoc]); (repeat (first | with_reducible exact Junk.refl _ | with_reducible exact Junk.app _ _ _ _ _ | with_reducible exact Junk.app2 _ _ _ _ _ _ | with_reducible exact Junk.app3 _ _ _ _ _ _ _ | with_reducible exact Junk.app4 _ _ _ _ _ _ _ _ | with_reducible exact Junk.app5 _ _ _ _ _ _ _ _ _ | with_reducible apply Junk.alloc | with_reducible apply Junk.junk | with_reducible apply Junk.drew | with_reducible apply Junk.drewN)))))) HZ.out.2.2.2.2.2.2.1 HZ.out.2.2.2.2.2.2.2.1).mono ?_; rintro e w' ⟨oD, cD, rfl, ⟨osD, dD, rfl⟩, h_D⟩; have HD := Lib.hid h_D; clear h_D); refine hK _ _ (Junk.pair (by (repeat (first | with_reducible exact Junk.refl _ | with_reducible exact Junk.app _ _ _ _ _ | with_reducible apply Junk.alloc | with_reducible apply Junk.junk | with_reducible apply Junk.drew | with_reducible apply Junk.drewN | (with_reducible refine Junk.setCell ?_ (by simp) _))))) ?_; clear hK K; (iterate 1 (refine wpMix_q rfl (fun K hK => ?_); (go_simp; try go_bits); (refine hK _ ?_; clear hK K))); refine wpMix_nil (fun osm dm => ?_)
    go_upto_region 5 with (fail)
    go_upto_region 6 with (first | (at_builtin; (refine ap_bz (W0 := (w.alloc (.cells #[.int .i64 sp, .int .i64 dp, .bool false, .slice oa l ca] 61))) rfl _ _ rfl (by ((try simp only [World.junk_junk, Array.append_assoc]); (repeat (first | with_reducible exact Junk.refl _ | with_reducible exact Junk.app _ _ _ _ _ | with_reducible exact Junk.app2 _ _ _ _ _ _ | with_reducible exact Junk.app3 _ _ _ _ _ _ _ | with_reducible exact Junk.app4 _ _ _ _ _ _ _ _ | with_reducible exact Junk.app5 _ _ _ _ _ _ _ _ _ | with_reducible apply Junk.alloc | with_reducible apply Junk.junk | with_reducible apply Junk.drew | with_reducible apply Junk.drewN)))) oD (cD) (8) (Z) rfl (HD.out.on (by (first | ((repeat (first | with_reducible exact Junk.refl _ | with_reducible exact Junk.app _ _ _ _ _ | with_reducible apply Junk.alloc | with_reducible apply Junk.junk | with_reducible apply Junk.drew | with_reducible apply Junk.drewN)); done) | ((try simp only [World.junk_junk, Array.append_assoc]); (repeat (first | with_reducible exact Junk.refl _ | with_reducible exact Junk.app _ _ _ _ _ | with_reducible exact Junk.app2 _ _ _ _ _ _ | with_reducible exact Junk.app3 _ _ _ _ _ _ _ | with_reducible exact Junk.app4 _ _ _ _ _ _ _ _ | with_reducible exact Junk.app5 _ _ _ _ _ _ _ _ _ | with_reducible apply Junk.alloc | with_reducible apply Junk.junk | with_reducible apply Junk.drew | with_reducible apply Junk.drewN)))))) oa (l) (ca) rfl (ints_congr (HB.out.at_.on (by (first | ((repeat (first | with_reducible exact Junk.refl _ | with_reducible exact Junk.app _ _ _ _ _ | with_reducible apply Junk.alloc | with_reducible apply Junk.junk | with_reducible apply Junk.drew | with_reducible apply Junk.drewN)); done) | ((try simp only [World.junk_junk, Array.append_assoc]); (repeat (first | with_reducible exact Junk.refl _ | with_reducible exact Junk.app _ _ _ _ _ | with_reducible exact Junk.app2 _ _ _ _ _ _ | with_reducible exact Junk.app3 _ _ _ _ _ _ _ | with_reducible exact Junk.app4 _ _ _ _ _ _ _ _ | with_reducible exact Junk.app5 _ _ _ _ _ _ _ _ _ | with_reducible apply Junk.alloc | with_reducible apply Junk.junk | with_reducible apply Junk.drew | with_reducible apply Junk.drewN)))))) (fun j _ => HZ.out.2.2.2.2.2.2.2.2 j)) ((fun h => HB.out.nil h)) (by omega) ?_; intro oE cE osE dE h_E hnE; have HE := Lib.hid h_E; clear h_E)))
    rw [HLL.out] at HE
    rw [HLL.out]
    (obtain ⟨g, rfl, hgB, hgS, hcells⟩ := own_some HE.out (by omega); obtain ⟨hc6, hf6⟩ := hcells 6 (.int .u8 (Z 6)) (by rw [bz, List.getElem?_map, List.getElem?_range (by omega)]; rfl); obtain ⟨hc7, hf7⟩ := hcells 7 (.int .u8 (Z 7)) (by rw [bz, List.getElem?_map, List.getElem?_range (by omega)]; rfl); have HBT := Lib.hid (HE.out.bts HBZ.out); clear hcells)
    go_upto_region 8 with (fail)
    have hJV : Junk w (((w.alloc (.cells #[.int .i64 sp, .int .i64 dp, .bool false, .slice oa l ca] 61))).junk osE dE) := by (first | ((repeat (first | with_reducible exact Junk.refl _ | with_reducible exact Junk.app _ _ _ _ _ | with_reducible apply Junk.alloc | with_reducible apply Junk.junk | with_reducible apply Junk.drew | with_reducible apply Junk.drewN)); done) | ((try simp only [World.junk_junk, Array.append_assoc]); (repeat (first | with_reducible exact Junk.refl _ | with_reducible exact Junk.app _ _ _ _ _ | with_reducible exact Junk.app2 _ _ _ _ _ _ | with_reducible exact Junk.app3 _ _ _ _ _ _ _ | with_reducible exact Junk.app4 _ _ _ _ _ _ _ _ | with_reducible exact Junk.app5 _ _ _ _ _ _ _ _ _ | with_reducible apply Junk.alloc | with_reducible apply Junk.junk | with_reducible apply Junk.drew | with_reducible apply Junk.drewN))))
    have hgw : w.heap.size ≤ g := by simp at hgB; omega
    clear HE hgB
    generalize ((w.alloc (.cells #[.int .i64 sp, .int .i64 dp, .bool false, .slice oa l ca] 61))).junk osE dE = V at hgS hc6 hf6 hc7 hf7 HBT hJV ⊢
    have HJV := Lib.hid hJV
    clear hJV
    go_wp2_with (first | (go_at_call 56; (with_reducible refine (HSUM.out _ _ _ (HBT.out.at_.on (by (first | ((repeat (first | with_reducible exact Junk.refl _ | with_reducible exact Junk.app _ _ _ _ _ | with_reducible apply Junk.alloc | with_reducible apply Junk.junk | with_reducible apply Junk.drew | with_reducible apply Junk.drewN)); done) | ((try simp only [World.junk_junk, Array.append_assoc]); (repeat (first | with_reducible exact Junk.refl _ | with_reducible exact Junk.app _ _ _ _ _ | with_reducible exact Junk.app2 _ _ _ _ _ _ | with_reducible exact Junk.app3 _ _ _ _ _ _ _ | with_reducible exact Junk.app4 _ _ _ _ _ _ _ _ | with_reducible exact Junk.app5 _ _ _ _ _ _ _ _ _ | with_reducible apply Junk.alloc | with_reducible apply Junk.junk | with_reducible apply Junk.drew | with_reducible apply Junk.drewN))))))).mono ?_); rintro e w' ⟨rfl, ⟨osj, dj, rfl⟩⟩))
    go_returns
    rw [HLL.out.symm] at HBT
    refine ⟨some ⟨g, 0, none⟩, cE, (by rw [HLL.out]; rfl), ?_, ?_⟩
    · exact (Junk.setCell (Junk.setCell HJV.out (a := ⟨g, 6, none⟩) hgw _) (a := ⟨g, 7, none⟩) hgw _).junk _ _
    · refine Bts.on (W := _) ?_ ⟨_, _, rfl⟩
      exact u_bts_congr (bts_set0 (bts_set0 HBT.out 6 _ (by omega)) 7 _ (by omega)) (fun i _ => by have := HSET.out _ HC.out i; rw [HZZ.out] at this; exact this)
  · rw [if_neg hX0] at hCX
    have hXC : bits .xor .u16 IntKind.u16.max X = C := by rw [hCX]; exact xor_u16 X hsb.1 (by omega)
    have hC0 : (C == 0) = false := by simp; omega
    have hC1 : (bits .xor .u16 (if IntKind.u16.signed = true then -1 else IntKind.u16.max) X == 0) = false := by rw [if_neg (by decide), hXC]; exact hC0
    have q7 : C / 256 % 256 = C / 256 := by omega
    have q8 := wrapk_u8 (C / 256) (by omega) (by omega)
    have q9 : IntKind.u8.wrap C = C % 256 := IntKind.wrap_u8 _
    clear hCX hX0
    go_enter Try.func30, Try.ntmps30
    go_wp2_with (first | (go_at_call 65; (with_reducible refine (p1.out _).mono ?_); rintro e w' ⟨rfl, rfl⟩) | (go_at_call 65; (with_reducible refine (p2.out _).mono ?_); rintro e w' ⟨rfl, rfl⟩))
    refine wp_region_mixj ((w.alloc (.cells #[.int .i64 sp, .int .i64 dp, .bool false, .slice oa l ca] 61))) [(0, true), (1, true), (3, true), (4, true), (6, true), (2, false), (5, false), (7, false), (8, false), (9, true)] (by kernel_rfl) (by kernel_rfl) (by (repeat (first | with_reducible exact Junk.refl _ | with_reducible exact Junk.app _ _ _ _ _ | with_reducible apply Junk.alloc | with_reducible apply Junk.junk | with_reducible apply Junk.drew | with_reducible apply Junk.drewN))) ?_; (iterate 5 (refine wpMix_q rfl (fun K hK => ?_); (go_simp; try go_bits); (refine hK _ ?_; clear hK K))); refine wpMix_e rfl (fun osm4_0 dm4_0 K hK => ?_); (go_simp; try go_bits); (go_at_call 66; refine (uhalf_any ((w.alloc (.cells #[.int .i64 sp, .int .i64 dp, .bool false, .slice oa l ca] 61))) _ none 0 0 Z sp hs0 hs1 (by omega) (by (first | ((repeat (first | with_reducible exact Junk.refl _ | with_reducible exact Junk.app _ _ _ _ _ | with_reducible apply Junk.alloc | with_reducible apply Junk.junk | with_reducible apply Junk.drew | with_reducible apply Junk.drewN)); done) | ((try simp only [World.junk_junk, Array.append_assoc]); (repeat (first | with_reducible exact Junk.refl _ | with_reducible exact Junk.app _ _ _ _ _ | with_reducible exact Junk.app2 _ _ _ _ _ _ | with_reducible exact Junk.app3 _ _ _ _ _ _ _ | with_reducible exact Junk.app4 _ _ _ _ _ _ _ _ | with_reducible exact Junk.app5 _ _ _ _ _ _ _ _ _ | with_reducible apply Junk.alloc | with_reducible apply Junk.junk | with_reducible apply Junk.drew | with_reducible apply Junk.drewN))))) (OwB.nil _ _ _) HZ.out.1 HZ.out.2.1).mono ?_; rintro e w' ⟨oA, cA, rfl, ⟨osA, dA, rfl⟩, h_A⟩; have HA := Lib.hid h_A; clear h_A); refine hK _ _ (Junk.pair (by (repeat (first | with_reducible exact Junk.refl _ | with_reducible exact Junk.app _ _ _ _ _ | with_reducible apply Junk.alloc | with_reducible apply Junk.junk | with_reducible apply Junk.drew | with_reducible apply Junk.drewN | (with_reducible refine Junk.setCell ?_ (by simp) _))))) ?_; clear hK K; refine wpMix_e rfl (fun osm4_1 dm4_1 K hK => ?_); (go_simp; try go_bits); (go_at_call 66; refine (uhalf_any ((w.alloc (.cells #[.int .i64 sp, .int .i64 dp, .bool false, .slice oa l ca] 61))) _ oA cA 2 Z dp hd0 hd1 (by omega) (by (first | ((repeat (first | with_reducible exact Junk.refl _ | with_reducible exact Junk.app _ _ _ _ _ | with_reducible apply Junk.alloc | with_reducible apply Junk.junk | with_reducible apply Junk.drew | with_reducible apply Junk.drewN)); done) | ((try simp only [World.junk_junk, Array.append_assoc]); (repeat (first | with_reducible exact Junk.refl _ | with_reducible exact Junk.app _ _ _ _ _ | with_reducible exact Junk.app2 _ _ _ _ _ _ | with_reducible exact Junk.app3 _ _ _ _ _ _ _ | with_reducible exact Junk.app4 _ _ _ _ _ _ _ _ | with_reducible exact Junk.app5 _ _ _ _ _ _ _ _ _ | with_reducible apply Junk.alloc | with_reducible apply Junk.junk | with_reducible apply Junk.drew | with_reducible apply Junk.drewN))))) (HA.out.on (by (first | ((repeat (first | with_reducible exact Junk.refl _ | with_reducible exact Junk.app _ _ _ _ _ | with_reducible apply Junk.alloc | with_reducible apply Junk.junk | with_reducible apply Junk.drew | with_reducible apply Junk.drewN)); done) | ((try simp only [World.junk_junk, Array.append_assoc]); (repeat (first | with_reducible exact Junk.refl _ | with_reducible exact Junk.app _ _ _ _ _ | with_reducible exact Junk.app2 _ _ _ _ _ _ | with_reducible exact Junk.app3 _ _ _ _ _ _ _ | with_reducible exact Junk.app4 _ _ _ _ _ _ _ _ | with_reducible exact Junk.app5 _ _ _ _ _ _ _ _ _ | with_reducible apply Junk.alloc | with_reducible apply Junk.junk | with_reducible apply Junk.drew | with_reducible apply Junk.drewN)))))) HZ.out.2.2.1 HZ.out.2.2.2.1).mono ?_; rintro e w' ⟨oQ, cQ, rfl, ⟨osQ, dQ, rfl⟩, h_Q⟩; have HQ := Lib.hid h_Q; clear h_Q); refine hK _ _ (Junk.pair (by (repeat (first | with_reducible exact Junk.refl _ | with_reducible exact Junk.app _ _ _ _ _ | with_reducible apply Junk.alloc | with_reducible apply Junk.junk | with_reducible apply Junk.drew | with_reducible apply Junk.drewN | (with_reducible refine Junk.setCell ?_ (by simp) _))))) ?_; clear hK K; refine wpMix_e rfl (fun osm4_2 dm4_2 K hK => ?_); (go_simp; try go_bits); (go_at_call 66; refine (uhalf_any ((w.alloc (.cells #[.int .i64 sp, .int .i64 dp, .bool false, .slice oa l ca] 61))) _ oQ cQ 4 Z (L : Int) (by omega) (by omega) (by omega) (by (first | ((repeat (first | with_reducible exact Junk.refl _ | with_reducible exact Junk.app _ _ _ _ _ | with_reducible apply Junk.alloc | with_reducible apply Junk.junk | with_reducible apply Junk.drew | with_reducible apply Junk.drewN)); done) | ((try simp only [World.junk_junk, Array.append_assoc]); (repeat (first | with_reducible exact Junk.refl _ | with_reducible exact Junk.app _ _ _ _ _ | with_reducible exact Junk.app2 _ _ _ _ _ _ | with_reducible exact Junk.app3 _ _ _ _ _ _ _ | with_reducible exact Junk.app4 _ _ _ _ _ _ _ _ | with_reducible exact Junk.app5 _ _ _ _ _ _ _ _ _ | with_reducible apply Junk.alloc | with_reducible apply Junk.junk | with_reducible apply Junk.drew | with_reducible apply Junk.drewN))))) (HQ.out.on (by (first | ((repeat (first | with_reducible exact Junk.refl _ | with_reducible exact Junk.app _ _ _ _ _ | with_reducible apply Junk.alloc | with_reducible apply Junk.junk | with_reducible apply Junk.drew | with_reducible apply Junk.drewN)); done) | ((try simp only [World.junk_junk, Array.append_assoc]); (repeat (first | with_reducible exact Junk.refl _ | with_reducible exact Junk.app _ _ _ _ _ | with_reducible exact Junk.app2 _ _ _ _ _ _ | with_reducible exact Junk.app3 _ _ _ _ _ _ _ | with_reducible exact Junk.app4 _ _ _ _ _ _ _ _ | with_reducible exact Junk.app5 _ _ _ _ _ _ _ _ _ | with_reducible apply Junk.alloc | with_reducible apply Junk.junk | with_reducible apply Junk.drew | with_reducible apply Junk.drewN)))))) HZ.out.2.2.2.2.1 HZ.out.2.2.2.2.2.1).mono ?_; rintro e w' ⟨oR, cR, rfl, ⟨osR, dR, rfl⟩, h_R⟩; have HR := Lib.hid h_R; clear h_R); refine hK _ _ (Junk.pair (by (repeat (first | with_reducible exact Junk.refl _ | with_reducible exact Junk.app _ _ _ _ _ | with_reducible apply Junk.alloc | with_reducible apply Junk.junk | with_reducible apply Junk.drew | with_reducible apply Junk.drewN | (with_reducible refine Junk.setCell ?_ (by simp) _))))) ?_; clear hK K; refine wpMix_e rfl (fun osm4_3 dm4_3 K hK => ?_); (go_simp; try go_bits); (go_at_call 66; refine (uhalf_any ((w.alloc (.cells #[.int .i64 sp, .int .i64 dp, .bool false, .slice oa l ca] 61))) _ oR cR 6 Z 0 (by omega) (by omega) (by omega) (by (first | ((repeat (first | with_reducible exact Junk.refl _ | with_reducible exact Junk.app _ _ _ _ _ | with_reducible apply Junk.alloc | with_reducible apply Junk.junk | with_reducible apply Junk.drew | with_reducible apply Junk.drewN)); done) | ((try simp only [World.junk_junk, Array.append_assoc]); (repeat (first | with_reducible exact Junk.refl _ | with_reducible exact Junk.app _ _ _ _ _ | with_reducible exact Junk.app2 _ _ _ _ _ _ | with_reducible exact Junk.app3 _ _ _ _ _ _ _ | with_reducible exact Junk.app4 _ _ _ _ _ _ _ _ | with_reducible exact Junk.app5 _ _ _ _ _ _ _ _ _ | with_reducible apply Junk.alloc | with_reducible apply Junk.junk | with_reducible apply Junk.drew | with_reducible apply Junk.drewN))))) (HR.out.on (by (first | ((repeat (first | with_reducible exact Junk.refl _ | with_reducible exact Junk.app _ _ _ _ _ | with_reducible apply Junk.alloc | with_reducible apply Junk.junk | with_reducible apply Junk.drew | with_reducible apply Junk.drewN)); done) | ((try simp only [World.junk_junk, Array.append_assoc]); (repeat (first | with_reducible exact Junk.refl _ | with_reducible exact Junk.app _ _ _ _ _ | with_reducible exact Junk.app2 _ _ _ _ _ _ | with_reducible exact Junk.app3 _ _ _ _ _ _ _ | with_reducible exact Junk.app4 _ _ _ _ _ _ _ _ | with_reducible exact Junk.app5 _ _ _ _ _ _ _ _ _ | with_reducible apply Junk.alloc | with_reducible apply Junk.junk | with_reducible apply Junk.drew | with_reducible apply Junk.drewN)))))) HZ.out.2.2.2.2.2.2.1 HZ.out.2.2.2.2.2.2.2.1).mono ?_; rintro e w' ⟨oD, cD, rfl, ⟨osD, dD, rfl⟩, h_D⟩; have HD := Lib.hid h_D; clear h_D); refine hK _ _ (Junk.pair (by (repeat (first | with_reducible exact Junk.refl _ | with_reducible exact Junk.app _ _ _ _ _ | with_reducible apply Junk.alloc | with_reducible apply Junk.junk | with_reducible apply Junk.drew | with_reducible apply Junk.drewN | (with_reducible refine Junk.setCell ?_ (by simp) _))))) ?_; clear hK K; (iterate 1 (refine wpMix_q rfl (fun K hK => ?_); (go_simp; try go_bits); (refine hK _ ?_; clear hK K))); refine wpMix_nil (fun osm dm => ?_)
    go_upto_region 5 with (fail)
    go_upto_region 6 with (first | (at_builtin; (refine ap_bz (W0 := (w.alloc (.cells #[.int .i64 sp, .int .i64 dp, .bool false, .slice oa l ca] 61))) rfl _ _ rfl (by ((try simp only [World.junk_junk, Array.append_assoc]); (repeat (first | with_reducible exact Junk.refl _ | with_reducible exact Junk.app _ _ _ _ _ | with_reducible exact Junk.app2 _ _ _ _ _ _ | with_reducible exact Junk.app3 _ _ _ _ _ _ _ | with_reducible exact Junk.app4 _ _ _ _ _ _ _ _ | with_reducible exact Junk.app5 _ _ _ _ _ _ _ _ _ | with_reducible apply Junk.alloc | with_reducible apply Junk.junk | with_reducible apply Junk.drew | with_reducible apply Junk.drewN)))) oD (cD) (8) (Z) rfl (HD.out.on (by (first | ((repeat (first | with_reducible exact Junk.refl _ | with_reducible exact Junk.app _ _ _ _ _ | with_reducible apply Junk.alloc | with_reducible apply Junk.junk | with_reducible apply Junk.drew | with_reducible apply Junk.drewN)); done) | ((try simp only [World.junk_junk, Array.append_assoc]); (repeat (first | with_reducible exact Junk.refl _ | with_reducible exact Junk.app _ _ _ _ _ | with_reducible exact Junk.app2 _ _ _ _ _ _ | with_reducible exact Junk.app3 _ _ _ _ _ _ _ | with_reducible exact Junk.app4 _ _ _ _ _ _ _ _ | with_reducible exact Junk.app5 _ _ _ _ _ _ _ _ _ | with_reducible apply Junk.alloc | with_reducible apply Junk.junk | with_reducible apply Junk.drew | with_reducible apply Junk.drewN)))))) oa (l) (ca) rfl (ints_congr (HB.out.at_.on (by (first | ((repeat (first | with_reducible exact Junk.refl _ | with_reducible exact Junk.app _ _ _ _ _ | with_reducible apply Junk.alloc | with_reducible apply Junk.junk | with_reducible apply Junk.drew | with_reducible apply Junk.drewN)); done) | ((try simp only [World.junk_junk, Array.append_assoc]); (repeat (first | with_reducible exact Junk.refl _ | with_reducible exact Junk.app _ _ _ _ _ | with_reducible exact Junk.app2 _ _ _ _ _ _ | with_reducible exact Junk.app3 _ _ _ _ _ _ _ | with_reducible exact Junk.app4 _ _ _ _ _ _ _ _ | with_reducible exact Junk.app5 _ _ _ _ _ _ _ _ _ | with_reducible apply Junk.alloc | with_reducible apply Junk.junk | with_reducible apply Junk.drew | with_reducible apply Junk.drewN)))))) (fun j _ => HZ.out.2.2.2.2.2.2.2.2 j)) ((fun h => HB.out.nil h)) (by omega) ?_; intro oE cE osE dE h_E hnE; have HE := Lib.hid h_E; clear h_E)))
    rw [HLL.out] at HE
    rw [HLL.out]
    (obtain ⟨g, rfl, hgB, hgS, hcells⟩ := own_some HE.out (by omega); obtain ⟨hc6, hf6⟩ := hcells 6 (.int .u8 (Z 6)) (by rw [bz, List.getElem?_map, List.getElem?_range (by omega)]; rfl); obtain ⟨hc7, hf7⟩ := hcells 7 (.int .u8 (Z 7)) (by rw [bz, List.getElem?_map, List.getElem?_range (by omega)]; rfl); have HBT := Lib.hid (HE.out.bts HBZ.out); clear hcells)
    go_upto_region 8 with (fail)
    have hJV : Junk w (((w.alloc (.cells #[.int .i64 sp, .int .i64 dp, .bool false, .slice oa l ca] 61))).junk osE dE) := by (first | ((repeat (first | with_reducible exact Junk.refl _ | with_reducible exact Junk.app _ _ _ _ _ | with_reducible apply Junk.alloc | with_reducible apply Junk.junk | with_reducible apply Junk.drew | with_reducible apply Junk.drewN)); done) | ((try simp only [World.junk_junk, Array.append_assoc]); (repeat (first | with_reducible exact Junk.refl _ | with_reducible exact Junk.app _ _ _ _ _ | with_reducible exact Junk.app2 _ _ _ _ _ _ | with_reducible exact Junk.app3 _ _ _ _ _ _ _ | with_reducible exact Junk.app4 _ _ _ _ _ _ _ _ | with_reducible exact Junk.app5 _ _ _ _ _ _ _ _ _ | with_reducible apply Junk.alloc | with_reducible apply Junk.junk | with_reducible apply Junk.drew | with_reducible apply Junk.drewN))))
    have hgw : w.heap.size ≤ g := by simp at hgB; omega
    clear HE hgB
    generalize ((w.alloc (.cells #[.int .i64 sp, .int .i64 dp, .bool false, .slice oa l ca] 61))).junk osE dE = V at hgS hc6 hf6 hc7 hf7 HBT hJV ⊢
    have HJV := Lib.hid hJV
    clear hJV
    go_wp2_with (first | (go_at_call 56; (with_reducible refine (HSUM.out _ _ _ (HBT.out.at_.on (by (first | ((repeat (first | with_reducible exact Junk.refl _ | with_reducible exact Junk.app _ _ _ _ _ | with_reducible apply Junk.alloc | with_reducible apply Junk.junk | with_reducible apply Junk.drew | with_reducible apply Junk.drewN)); done) | ((try simp only [World.junk_junk, Array.append_assoc]); (repeat (first | with_reducible exact Junk.refl _ | with_reducible exact Junk.app _ _ _ _ _ | with_reducible exact Junk.app2 _ _ _ _ _ _ | with_reducible exact Junk.app3 _ _ _ _ _ _ _ | with_reducible exact Junk.app4 _ _ _ _ _ _ _ _ | with_reducible exact Junk.app5 _ _ _ _ _ _ _ _ _ | with_reducible apply Junk.alloc | with_reducible apply Junk.junk | with_reducible apply Junk.drew | with_reducible apply Junk.drewN))))))).mono ?_); rintro e w' ⟨rfl, ⟨osj, dj, rfl⟩⟩))
    go_returns
    rw [HLL.out.symm] at HBT
    refine ⟨some ⟨g, 0, none⟩, cE, (by rw [HLL.out]; rfl), ?_, ?_⟩
    · exact (Junk.setCell (Junk.setCell HJV.out (a := ⟨g, 6, none⟩) hgw _) (a := ⟨g, 7, none⟩) hgw _).junk _ _
    · refine Bts.on (W := _) ?_ ⟨_, _, rfl⟩
      exact u_bts_congr (bts_set0 (bts_set0 HBT.out 6 _ (by omega)) 7 _ (by omega)) (fun i _ => by have := HSET.out _ HC.out i; rw [HZZ.out] at this; exact this)
end Go.Proofs.Ytnefphinmjeacaa
