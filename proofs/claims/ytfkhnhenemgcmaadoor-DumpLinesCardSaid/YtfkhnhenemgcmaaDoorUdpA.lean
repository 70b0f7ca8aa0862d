/- udp.get, sum, Parse. -/
import Derived.Test.YtfkhnhenemgcmaaDoorTcpB
import Derived.Test.YtfkhnhenemgcmaaDoorMix3
import Derived.Deep.DeepCutAuto
set_option linter.unusedVariables false
set_option maxRecDepth 100000
set_option linter.unusedSimpArgs false
namespace Go.Proofs.YtfkhnhenemgcmaaDoor
open Go.RowKit
theorem u_get_any (b off l c : Nat) (x0 x1 : Int) (w : World) (hl : 2 ≤ l) (hb : b < w.heap.size) (h0 : w.cell? ⟨b, off, none⟩ = some (.int .u8 x0)) (h1 : w.cell? ⟨b, off + 1, none⟩ = some (.int .u8 x1)) (b0 : 0 ≤ x0 ∧ x0 ≤ 255) (b1 : 0 ≤ x1 ∧ x1 ≤ 255) :
    Calls Tryd.prog 65 #[.slice (some ⟨b, off, none⟩) l c] w fun e w' => e = .returned (.int .i64 (x0 * 256 + x1)) ∧ Junk w w' := by
  have q0 := or_i64 8 (x0 * 256) x1 (by omega) (by omega) (by omega) (by omega) (by omega) (by omega)
  have q1 := wrapk_i64 x0 (by omega) (by omega)
  have q2 := wrapk_i64 x1 (by omega) (by omega)
  have q3 := wrapk_i64 (x0 * 256) (by omega) (by omega)
  have j1 : (1 : Int) < (l : Int) := by omega
  have j0 : (0 : Int) < (l : Int) := by omega
  have i1 : 1 < l := by omega
  have i0 : 0 < l := by omega
  go_enter Tryd.func65, Tryd.ntmps65
  go_wp2
  refine wp_region_junk (by kernel_rfl) (by kernel_rfl) ?_; (repeat (go_big_quiet_step (first | fail))); refine wpQuiet_nil ?_; rintro _ ⟨⟨osq, dq⟩, rfl⟩
  go_wp2
  go_ret
  exact ⟨rfl, by (repeat (first | with_reducible exact Junk.refl _ | with_reducible exact Junk.app _ _ _ _ _ | with_reducible apply Junk.alloc | with_reducible apply Junk.junk | with_reducible apply Junk.drew | with_reducible apply Junk.drewN))⟩
theorem u_get_at {b off l c : Nat} {xs : Nat → Int} {w : World} (h : Bts w (some ⟨b, off, none⟩) l c xs) (i : Nat) (v : Int) (hv : xs i * 256 + xs (i + 1) = v) (l' c' : Nat) (hi : i + 2 ≤ l) (hl : 2 ≤ l') :
    Calls Tryd.prog 65 #[.slice (some ⟨b, off + i, none⟩) l' c'] w fun e w' => e = .returned (.int .i64 v) ∧ Junk w w' := by
  rw [← hv]
  exact u_get_any b (off + i) l' c' (xs i) (xs (i + 1)) w hl (t_bts_cell h i (by omega)).1 (t_bts_cell h i (by omega)).2 (t_bts_cell h (i + 1) (by omega)).2 (h.byte _ (by omega)) (h.byte _ (by omega))
theorem u_get_0 {b off l c : Nat} {xs : Nat → Int} {w : World} (h : Bts w (some ⟨b, off, none⟩) l c xs) (l' c' : Nat) (hi : 2 ≤ l) (hl : 2 ≤ l') :
    Calls Tryd.prog 65 #[.slice (some ⟨b, off, none⟩) l' c'] w fun e w' => e = .returned (.int .i64 (xs 0 * 256 + xs 1)) ∧ Junk w w' := by
  have := u_get_at h 0 _ rfl l' c' (by omega) hl
  simpa using this
/-- The sum of a datagram with its pseudo head. -/
def usumN (src dst : Int) (xs : Nat → Int) (l : Nat) : Int := foldI (pseudoN src dst 17 l + rawN xs l)
set_option maxHeartbeats 400000 in
theorem usum_any (src dst : Int) (oa : Option Addr) (l c : Nat) (xs : Nat → Int) (w : World) (h1 : 0 ≤ src ∧ src ≤ 4294967295) (h2 : 0 ≤ dst ∧ dst ≤ 4294967295) (hl : l ≤ 65535) (hI : IntsAt w oa l .u8 xs) (hx : ∀ i, i < l → 0 ≤ xs i ∧ xs i ≤ 255) :
    Calls Tryd.prog 66 #[.int .u32 src, .int .u32 dst, .slice oa l c] w fun e w' => e = .returned (.int .u16 (usumN src dst xs l)) ∧ Junk w w' := by
  have hp := pseudoN_bd (proto := 17) (size := (l : Int)) h1 h2 (by omega) (by omega)
  have hr := (rawN_bd xs l hx).1
  have hb := sumN_bd xs l hx
  have hb2 := foldI_bd _ hp
  have HI := Lib.hid hI
  have HX := Lib.hid hx
  have HE := Lib.hid (show foldI (foldI (pseudoN src dst 17 l) + sumN xs l) = usumN src dst xs l from foldI_add hp hr)
  clear hI hx
  go_enter Tryd.func66, Tryd.ntmps66
  go_wp2_with (first | (go_at_call 80; refine (cpseudo_any src dst 17 l _ h1 h2 (by omega) (by omega)).mono ?_; rintro e w' ⟨rfl, rfl⟩) | (go_at_call 57; refine (sum_any _ _ _ _ _ (by omega) (HI.out.at_.on (by ((try simp only [World.junk_junk, Array.append_assoc]); (repeat (first | with_reducible exact Junk.refl _ | with_reducible exact Junk.app _ _ _ _ _ | with_reducible exact Junk.app2 _ _ _ _ _ _ | with_reducible exact Junk.app3 _ _ _ _ _ _ _ | with_reducible exact Junk.app4 _ _ _ _ _ _ _ _ | with_reducible exact Junk.app5 _ _ _ _ _ _ _ _ _ | with_reducible apply Junk.alloc | with_reducible apply Junk.junk | with_reducible apply Junk.drew | with_reducible apply Junk.drewN))))) HX.out).mono ?_; rintro e w' ⟨rfl, rfl⟩) | (go_at_call 57; refine (sum_any _ _ _ _ _ (by omega) (HI.out.on (by ((try simp only [World.junk_junk, Array.append_assoc]); (repeat (first | with_reducible exact Junk.refl _ | with_reducible exact Junk.app _ _ _ _ _ | with_reducible exact Junk.app2 _ _ _ _ _ _ | with_reducible exact Junk.app3 _ _ _ _ _ _ _ | with_reducible exact Junk.app4 _ _ _ _ _ _ _ _ | with_reducible exact Junk.app5 _ _ _ _ _ _ _ _ _ | with_reducible apply Junk.alloc | with_reducible apply Junk.junk | with_reducible apply Junk.drew | with_reducible apply Junk.drewN))))) HX.out).mono ?_; rintro e w' ⟨rfl, rfl⟩) | (go_at_call 79; refine (cjoin_any _ _ _ hb2 hb).mono ?_; rintro e w' ⟨rfl, rfl⟩))
  go_ret
  exact ⟨ret_int HE.out, by ((try simp only [World.junk_junk, Array.append_assoc]); (repeat (first | with_reducible exact Junk.refl _ | with_reducible exact Junk.app _ _ _ _ _ | with_reducible exact Junk.app2 _ _ _ _ _ _ | with_reducible exact Junk.app3 _ _ _ _ _ _ _ | with_reducible exact Junk.app4 _ _ _ _ _ _ _ _ | with_reducible exact Junk.app5 _ _ _ _ _ _ _ _ _ | with_reducible apply Junk.alloc | with_reducible apply Junk.junk | with_reducible apply Junk.drew | with_reducible apply Junk.drewN)))⟩
def uSize (xs : Nat → Int) : Nat := (xs 4 * 256 + xs 5).toNat
def uChk (xs : Nat → Int) : Int := xs 6 * 256 + xs 7
def udpErr (src dst : Int) (xs : Nat → Int) (l : Nat) : Int :=
  if l < 8 then 2 else if uSize xs < 8 ∨ l < uSize xs then 4 else if uChk xs ≠ 0 ∧ usumN src dst xs (uSize xs) ≠ 65535 then 5 else 0
def UdpM (w : World) (E : Int) (xs : Nat → Int) (e : Ending) (w' : World) : Prop :=
  Junk w w' ∧ ((E ≠ 0 ∧ e = .returned (.tuple #[.agg #[.int .i64 0, .int .i64 0, .bool false, .slice none 0 0], .int .i64 E])) ∨
    (E = 0 ∧ ∃ (ob : Option Addr) (cb : Nat), Bts w' ob (uSize xs - 8) cb (fun i => xs (8 + i)) ∧ e = .returned (.tuple #[.agg #[.int .i64 (xs 0 * 256 + xs 1), .int .i64 (xs 2 * 256 + xs 3), .bool (uChk xs == 0), .slice ob (uSize xs - 8) cb], .int .i64 0])))
theorem udpM_bad {w w' : World} {E n : Int} {xs : Nat → Int} (h : E = n) (h0 : n ≠ 0) (hj : Junk w w') : UdpM w E xs (.returned (.tuple #[.agg #[.int .i64 0, .int .i64 0, .bool false, .slice none 0 0], .int .i64 n])) w' := ⟨hj, .inl ⟨by rw [h]; exact h0, by rw [h]⟩⟩
set_option maxHeartbeats 4000000 in
theorem uparse_any (src dst : Int) (ob : Option Addr) (l c : Nat) (xs : Nat → Int) (w : World) (h1 : 0 ≤ src ∧ src ≤ 4294967295) (h2 : 0 ≤ dst ∧ dst ≤ 4294967295) (hl : l ≤ 100000000) (hB : Bts w ob l c xs) :
    Calls Tryd.prog 41 #[.int .u32 src, .int .u32 dst, .slice ob l c] w (UdpM w (udpErr src dst xs l) xs) := by
  have HB := Lib.hid hB
  by_cases h8 : l < 8
  · have h8' : (l : Int) < 8 := by omega
    have HE := Lib.hid (show udpErr src dst xs l = 2 by unfold udpErr; rw [if_pos h8])
    clear hB
    go_enter Tryd.func41, Tryd.ntmps41
    go_wp2
    go_returns
    exact udpM_bad HE.out (by decide) (by ((try simp only [World.junk_junk, Array.append_assoc]); (repeat (first | with_reducible exact Junk.refl _ | with_reducible exact Junk.app _ _ _ _ _ | with_reducible exact Junk.app2 _ _ _ _ _ _ | with_reducible exact Junk.app3 _ _ _ _ _ _ _ | with_reducible exact Junk.app4 _ _ _ _ _ _ _ _ | with_reducible exact Junk.app5 _ _ _ _ _ _ _ _ _ | with_reducible apply Junk.alloc | with_reducible apply Junk.junk | with_reducible apply Junk.drew | with_reducible apply Junk.drewN))))
  have h8' : ¬ (l : Int) < 8 := by omega
  obtain ⟨b, off, rfl, hblk, hc0⟩ := hB.at_ 0 (by omega)
  have hcl : l ≤ c := hB.le
  have hx4 := hB.byte 4 (by omega)
  have hx5 := hB.byte 5 (by omega)
  obtain ⟨S, hS⟩ : ∃ S, S = uSize xs := ⟨_, rfl⟩
  have ES := Lib.hid (show xs 4 * 256 + xs (4 + 1) = (S : Int) by show xs 4 * 256 + xs 5 = (S : Int); rw [hS]; unfold uSize; omega)
  obtain ⟨C, hC⟩ : ∃ C, C = uChk xs := ⟨_, rfl⟩
  have EC := Lib.hid (show xs 6 * 256 + xs (6 + 1) = C by rw [hC]; rfl)
  have hS9 : S ≤ 65535 := by rw [hS]; unfold uSize; omega
  have HSZ := Lib.hid hS
  have HCZ := Lib.hid hC
  have n2 : ¬ c = 2 := by omega
  have n4 : ¬ c = 4 := by omega
  have n6 : ¬ c = 6 := by omega
  have p2 : (2 : Int) ≤ (l : Int) := by omega
  have p4 : (4 : Int) ≤ (l : Int) := by omega
  have p6 : (6 : Int) ≤ (l : Int) := by omega
  clear hB hc0 hS hC hx4 hx5
  by_cases h5 : 8 ≤ S ∧ S ≤ l
  case neg =>
    have HE := Lib.hid (show udpErr src dst xs l = 4 by unfold udpErr; rw [if_neg h8, ← HSZ.out, if_pos (by omega)])
    by_cases h6 : S < 8
    · have h6' : (S : Int) < 8 := by omega
      clear h5 h6
      go_enter Tryd.func41, Tryd.ntmps41
      go_wp2
      refine wp_region_junk (by kernel_rfl) (by kernel_rfl) ?_; (repeat (go_big_quiet_step (first | (go_at_call 65; first | with_reducible exact Calls.junk_of (u_get_at (HB.out.on (by (repeat (first | with_reducible exact Junk.refl _ | with_reducible exact Junk.app _ _ _ _ _ | with_reducible apply Junk.alloc | with_reducible apply Junk.junk | with_reducible apply Junk.drew | with_reducible apply Junk.drewN)))) 4 (S : Int) ES.out _ _ (by omega) (by omega)) | exact Calls.junk_of (u_get_at (HB.out.on (by (repeat (first | with_reducible exact Junk.refl _ | with_reducible exact Junk.app _ _ _ _ _ | with_reducible apply Junk.alloc | with_reducible apply Junk.junk | with_reducible apply Junk.drew | with_reducible apply Junk.drewN)))) 6 C EC.out _ _ (by omega) (by omega)))))); refine wpQuiet_nil ?_; rintro _ ⟨⟨osq3, dq3⟩, rfl⟩
      go_wp2
      go_returns
      exact udpM_bad HE.out (by decide) (by ((try simp only [World.junk_junk, Array.append_assoc]); (repeat (first | with_reducible exact Junk.refl _ | with_reducible exact Junk.app _ _ _ _ _ | with_reducible exact Junk.app2 _ _ _ _ _ _ | with_reducible exact Junk.app3 _ _ _ _ _ _ _ | with_reducible exact Junk.app4 _ _ _ _ _ _ _ _ | with_reducible exact Junk.app5 _ _ _ _ _ _ _ _ _ | with_reducible apply Junk.alloc | with_reducible apply Junk.junk | with_reducible apply Junk.drew | with_reducible apply Junk.drewN))))
    · have h6' : ¬ (S : Int) < 8 := by omega
      have h7' : (l : Int) < (S : Int) := by omega
      clear h5 h6
      go_enter Tryd.func41, Tryd.ntmps41
      go_wp2
      refine wp_region_junk (by kernel_rfl) (by kernel_rfl) ?_; (repeat (go_big_quiet_step (first | (go_at_call 65; first | with_reducible exact Calls.junk_of (u_get_at (HB.out.on (by (repeat (first | with_reducible exact Junk.refl _ | with_reducible exact Junk.app _ _ _ _ _ | with_reducible apply Junk.alloc | with_reducible apply Junk.junk | with_reducible apply Junk.drew | with_reducible apply Junk.drewN)))) 4 (S : Int) ES.out _ _ (by omega) (by omega)) | exact Calls.junk_of (u_get_at (HB.out.on (by (repeat (first | with_reducible exact Junk.refl _ | with_reducible exact Junk.app _ _ _ _ _ | with_reducible apply Junk.alloc | with_reducible apply Junk.junk | with_reducible apply Junk.drew | with_reducible apply Junk.drewN)))) 6 C EC.out _ _ (by omega) (by omega)))))); refine wpQuiet_nil ?_; rintro _ ⟨⟨osq3, dq3⟩, rfl⟩
      go_wp2
      go_returns
      exact udpM_bad HE.out (by decide) (by ((try simp only [World.junk_junk, Array.append_assoc]); (repeat (first | with_reducible exact Junk.refl _ | with_reducible exact Junk.app _ _ _ _ _ | with_reducible exact Junk.app2 _ _ _ _ _ _ | with_reducible exact Junk.app3 _ _ _ _ _ _ _ | with_reducible exact Junk.app4 _ _ _ _ _ _ _ _ | with_reducible exact Junk.app5 _ _ _ _ _ _ _ _ _ | with_reducible apply Junk.alloc | with_reducible apply Junk.junk | with_reducible apply Junk.drew | with_reducible apply Junk.drewN))))
  obtain ⟨h5, h6⟩ := h5
  have h5' : ¬ (S : Int) < 8 := by omega
  have h6' : ¬ (l : Int) < (S : Int) := by omega
  have h56 : (S : Int) ≤ (l : Int) := by omega
  have h57 : (S : Int) ≤ (c : Int) := by omega
  have h58 : (8 : Int) ≤ (S : Int) := by omega
  have h59 : (0 : Int) ≤ (S : Int) := by omega
  have HS := Lib.hid (show Bts w (some ⟨b, off, none⟩) S c xs from ⟨fun i hi => HB.out.at_ i (by omega), fun i hi => HB.out.byte i (by omega), (fun h => by cases h), by omega, HB.out.cap⟩)
  have HSB2 := Lib.hid (bts_sub HB.out 8 S h5 h6)
  have hc8 : 8 ≤ c := by omega
  have hSc : S ≤ c := by omega
  generalize hadr2 : (if c = 8 then (some (⟨b, off, none⟩ : Addr)) else some ⟨b, off + 8, none⟩) = adr2 at HSB2
  by_cases hC0 : C = 0
  · have HE := Lib.hid (show udpErr src dst xs l = 0 by unfold udpErr; rw [if_neg h8, ← HSZ.out, if_neg (by omega), if_neg (by rw [← HCZ.out]; simp [hC0])])
    have hC1 : (C != 0) = false := by simpa using hC0
    have hC2 : (C == 0) = true := by simpa using hC0
    clear hC0
    go_enter Tryd.func41, Tryd.ntmps41
    go_wp2
    refine wp_region_junk (by kernel_rfl) (by kernel_rfl) ?_; (repeat (go_big_quiet_step (first | (go_at_call 65; first | with_reducible exact Calls.junk_of (u_get_at (HB.out.on (by (repeat (first | with_reducible exact Junk.refl _ | with_reducible exact Junk.app _ _ _ _ _ | with_reducible apply Junk.alloc | with_reducible apply Junk.junk | with_reducible apply Junk.drew | with_reducible apply Junk.drewN)))) 4 (S : Int) ES.out _ _ (by omega) (by omega)) | exact Calls.junk_of (u_get_at (HB.out.on (by (repeat (first | with_reducible exact Junk.refl _ | with_reducible exact Junk.app _ _ _ _ _ | with_reducible apply Junk.alloc | with_reducible apply Junk.junk | with_reducible apply Junk.drew | with_reducible apply Junk.drewN)))) 6 C EC.out _ _ (by omega) (by omega)))))); refine wpQuiet_nil ?_; rintro _ ⟨⟨osq3, dq3⟩, rfl⟩
    go_wp2
    refine wp_region_mixj (w) [(0, true), (1, true), (2, true), (3, true), (4, true), (5, true), (6, true), (7, true), (8, true), (9, true), (10, false), (11, true), (12, false), (13, true)] (by kernel_rfl) (by kernel_rfl) (by (repeat (first | with_reducible exact Junk.refl _ | with_reducible exact Junk.app _ _ _ _ _ | with_reducible apply Junk.alloc | with_reducible apply Junk.junk | with_reducible apply Junk.drew | with_reducible apply Junk.drewN))) ?_; (iterate 10 (refine wpMix_q rfl (fun K hK => ?_); (go_simp; try go_bits); first | (refine hK _ ?_; clear hK K) | (apply Exists.intro; refine ⟨fun _ => ?_, hK _ ?_⟩; (first | (go_at_call 65; first | with_reducible exact (u_get_0 (HB.out.on (by (repeat (first | with_reducible exact Junk.refl _ | with_reducible exact Junk.app _ _ _ _ _ | with_reducible apply Junk.alloc | with_reducible apply Junk.junk | with_reducible apply Junk.drew | with_reducible apply Junk.drewN)))) _ _ (by omega) (by omega)) | with_reducible exact (u_get_at (HB.out.on (by (repeat (first | with_reducible exact Junk.refl _ | with_reducible exact Junk.app _ _ _ _ _ | with_reducible apply Junk.alloc | with_reducible apply Junk.junk | with_reducible apply Junk.drew | with_reducible apply Junk.drewN)))) 2 _ rfl _ _ (by omega) (by omega)))); clear hK K))); refine wpMix_e rfl (fun osm8_0 dm8_0 K hK => ?_); (go_simp; try go_bits); (go_at_call 36; refine (clone_any adr2 (S - 8) (c - 8) (fun i => xs (8 + i)) _ (by omega) (HSB2.out.on (by ((try simp only [World.junk_junk, Array.append_assoc]); (repeat (first | with_reducible exact Junk.refl _ | with_reducible exact Junk.app _ _ _ _ _ | with_reducible exact Junk.app2 _ _ _ _ _ _ | with_reducible exact Junk.app3 _ _ _ _ _ _ _ | with_reducible exact Junk.app4 _ _ _ _ _ _ _ _ | with_reducible exact Junk.app5 _ _ _ _ _ _ _ _ _ | with_reducible apply Junk.alloc | with_reducible apply Junk.junk | with_reducible apply Junk.drew | with_reducible apply Junk.drewN)))))).mono ?_; rintro e w' ⟨ocb, ccb, rfl, ⟨osj, dj, rfl⟩, hcb, hcn, hcf⟩; rw [World.junk_junk] at hcb; have Hcb := Lib.hid hcb; have Hcf := Lib.hid hcf; clear hcb hcn hcf); refine hK _ _ (Junk.pair (by (repeat (first | with_reducible exact Junk.refl _ | with_reducible exact Junk.app _ _ _ _ _ | with_reducible apply Junk.alloc | with_reducible apply Junk.junk | with_reducible apply Junk.drew | with_reducible apply Junk.drewN | (with_reducible refine Junk.setCell ?_ (by simp) _))))) ?_; clear hK K; (iterate 1 (refine wpMix_q rfl (fun K hK => ?_); (go_simp; try go_bits); first | (refine hK _ ?_; clear hK K) | (apply Exists.intro; refine ⟨fun _ => ?_, hK _ ?_⟩; (first | (go_at_call 65; first | with_reducible exact (u_get_0 (HB.out.on (by (repeat (first | with_reducible exact Junk.refl _ | with_reducible exact Junk.app _ _ _ _ _ | with_reducible apply Junk.alloc | with_reducible apply Junk.junk | with_reducible apply Junk.drew | with_reducible apply Junk.drewN)))) _ _ (by omega) (by omega)) | with_reducible exact (u_get_at (HB.out.on (by (repeat (first | with_reducible exact Junk.refl _ | with_reducible exact Junk.app _ _ _ _ _ | with_reducible apply Junk.alloc | with_reducible apply Junk.junk | with_reducible apply Junk.drew | with_reducible apply Junk.drewN)))) 2 _ rfl _ _ (by omega) (by omega)))); clear hK K))); refine wpMix_e rfl (fun osm8_1 dm8_1 K hK => ?_); (go_simp; try go_bits); refine hK _ _ (Junk.pair (by (repeat (first | with_reducible exact Junk.refl _ | with_reducible exact Junk.app _ _ _ _ _ | with_reducible apply Junk.alloc | with_reducible apply Junk.junk | with_reducible apply Junk.drew | with_reducible apply Junk.drewN | (with_reducible refine Junk.setCell ?_ (by simp) _))))) ?_; clear hK K; (iterate 1 (refine wpMix_q rfl (fun K hK => ?_); (go_simp; try go_bits); first | (refine hK _ ?_; clear hK K) | (apply Exists.intro; refine ⟨fun _ => ?_, hK _ ?_⟩; (first | (go_at_call 65; first | with_reducible exact (u_get_0 (HB.out.on (by (repeat (first | with_reducible exact Junk.refl _ | with_reducible exact Junk.app _ _ _ _ _ | with_reducible apply Junk.alloc | with_reducible apply Junk.junk | with_reducible apply Junk.drew | with_reducible apply Junk.drewN)))) _ _ (by omega) (by omega)) | with_reducible exact (u_get_at (HB.out.on (by (repeat (first | with_reducible exact Junk.refl _ | with_reducible exact Junk.app _ _ _ _ _ | with_reducible apply Junk.alloc | with_reducible apply Junk.junk | with_reducible apply Junk.drew | with_reducible apply Junk.drewN)))) 2 _ rfl _ _ (by omega) (by omega)))); clear hK K))); refine wpMix_nil (fun osm dm => ?_)
    go_wp2
    all_goals (go_returns; simp only [World.junk_junk, Array.append_assoc]; rw [HE.out]; exact ⟨by ((try simp only [World.junk_junk, Array.append_assoc]); (repeat (first | with_reducible exact Junk.refl _ | with_reducible exact Junk.app _ _ _ _ _ | with_reducible exact Junk.app2 _ _ _ _ _ _ | with_reducible exact Junk.app3 _ _ _ _ _ _ _ | with_reducible exact Junk.app4 _ _ _ _ _ _ _ _ | with_reducible exact Junk.app5 _ _ _ _ _ _ _ _ _ | with_reducible apply Junk.alloc | with_reducible apply Junk.junk | with_reducible apply Junk.drew | with_reducible apply Junk.drewN))), .inr ⟨rfl, ocb, ccb, by rw [← HSZ.out]; exact bts_over Hcb.out (Hcf.out.lower (by simp; try omega)) ⟨_, by repeat rw [Array.append_assoc]⟩, by rw [← HSZ.out, ← HCZ.out, hC2]⟩⟩)
  · have hC1 : (C != 0) = true := by simpa using hC0
    have hC2 : (C == 0) = false := by simpa using hC0
    by_cases hs : usumN src dst xs S = 65535
    · have HE := Lib.hid (show udpErr src dst xs l = 0 by unfold udpErr; rw [if_neg h8, ← HSZ.out, if_neg (by omega), if_neg (by rw [hs]; simp)])
      have hs2 : (usumN src dst xs S != 65535) = false := by simpa using hs
      clear hC0 hs
      go_enter Tryd.func41, Tryd.ntmps41
      go_wp2
      refine wp_region_junk (by kernel_rfl) (by kernel_rfl) ?_; (repeat (go_big_quiet_step (first | (go_at_call 65; first | with_reducible exact Calls.junk_of (u_get_at (HB.out.on (by (repeat (first | with_reducible exact Junk.refl _ | with_reducible exact Junk.app _ _ _ _ _ | with_reducible apply Junk.alloc | with_reducible apply Junk.junk | with_reducible apply Junk.drew | with_reducible apply Junk.drewN)))) 4 (S : Int) ES.out _ _ (by omega) (by omega)) | exact Calls.junk_of (u_get_at (HB.out.on (by (repeat (first | with_reducible exact Junk.refl _ | with_reducible exact Junk.app _ _ _ _ _ | with_reducible apply Junk.alloc | with_reducible apply Junk.junk | with_reducible apply Junk.drew | with_reducible apply Junk.drewN)))) 6 C EC.out _ _ (by omega) (by omega)))))); refine wpQuiet_nil ?_; rintro _ ⟨⟨osq3, dq3⟩, rfl⟩
      go_wp2_with (first | (go_at_call 66; refine (usum_any src dst _ S c xs _ h1 h2 (by omega) (HS.out.at_.on (by ((try simp only [World.junk_junk, Array.append_assoc]); (repeat (first | with_reducible exact Junk.refl _ | with_reducible exact Junk.app _ _ _ _ _ | with_reducible exact Junk.app2 _ _ _ _ _ _ | with_reducible exact Junk.app3 _ _ _ _ _ _ _ | with_reducible exact Junk.app4 _ _ _ _ _ _ _ _ | with_reducible exact Junk.app5 _ _ _ _ _ _ _ _ _ | with_reducible apply Junk.alloc | with_reducible apply Junk.junk | with_reducible apply Junk.drew | with_reducible apply Junk.drewN))))) HS.out.byte).mono ?_; rintro e w' ⟨rfl, ⟨oss, ds, rfl⟩⟩))
      refine wp_region_mixj (w) [(0, true), (1, true), (2, true), (3, true), (4, true), (5, true), (6, true), (7, true), (8, true), (9, true), (10, false), (11, true), (12, false), (13, true)] (by kernel_rfl) (by kernel_rfl) (by (repeat (first | with_reducible exact Junk.refl _ | with_reducible exact Junk.app _ _ _ _ _ | with_reducible apply Junk.alloc | with_reducible apply Junk.junk | with_reducible apply Junk.drew | with_reducible apply Junk.drewN))) ?_; (iterate 10 (refine wpMix_q rfl (fun K hK => ?_); (go_simp; try go_bits); first | (refine hK _ ?_; clear hK K) | (apply Exists.intro; refine ⟨fun _ => ?_, hK _ ?_⟩; (first | (go_at_call 65; first | with_reducible exact (u_get_0 (HB.out.on (by (repeat (first | with_reducible exact Junk.refl _ | with_reducible exact Junk.app _ _ _ _ _ | with_reducible apply Junk.alloc | with_reducible apply Junk.junk | with_reducible apply Junk.drew | with_reducible apply Junk.drewN)))) _ _ (by omega) (by omega)) | with_reducible exact (u_get_at (HB.out.on (by (repeat (first | with_reducible exact Junk.refl _ | with_reducible exact Junk.app _ _ _ _ _ | with_reducible apply Junk.alloc | with_reducible apply Junk.junk | with_reducible apply Junk.drew | with_reducible apply Junk.drewN)))) 2 _ rfl _ _ (by omega) (by omega)))); clear hK K))); refine wpMix_e rfl (fun osm8_0 dm8_0 K hK => ?_); (go_simp; try go_bits); (go_at_call 36; refine (clone_any adr2 (S - 8) (c - 8) (fun i => xs (8 + i)) _ (by omega) (HSB2.out.on (by ((try simp only [World.junk_junk, Array.append_assoc]); (repeat (first | with_reducible exact Junk.refl _ | with_reducible exact Junk.app _ _ _ _ _ | with_reducible exact Junk.app2 _ _ _ _ _ _ | with_reducible exact Junk.app3 _ _ _ _ _ _ _ | with_reducible exact Junk.app4 _ _ _ _ _ _ _ _ | with_reducible exact Junk.app5 _ _ _ _ _ _ _ _ _ | with_reducible apply Junk.alloc | with_reducible apply Junk.junk | with_reducible apply Junk.drew | with_reducible apply Junk.drewN)))))).mono ?_; rintro e w' ⟨ocb, ccb, rfl, ⟨osj, dj, rfl⟩, hcb, hcn, hcf⟩; rw [World.junk_junk] at hcb; have Hcb := Lib.hid hcb; have Hcf := Lib.hid hcf; clear hcb hcn hcf); refine hK _ _ (Junk.pair (by (repeat (first | with_reducible exact Junk.refl _ | with_reducible exact Junk.app _ _ _ _ _ | with_reducible apply Junk.alloc | with_reducible apply Junk.junk | with_reducible apply Junk.drew | with_reducible apply Junk.drewN | (with_reducible refine Junk.setCell ?_ (by simp) _))))) ?_; clear hK K; (iterate 1 (refine wpMix_q rfl (fun K hK => ?_); (go_simp; try go_bits); first | (refine hK _ ?_; clear hK K) | (apply Exists.intro; refine ⟨fun _ => ?_, hK _ ?_⟩; (first | (go_at_call 65; first | with_reducible exact (u_get_0 (HB.out.on (by (repeat (first | with_reducible exact Junk.refl _ | with_reducible exact Junk.app _ _ _ _ _ | with_reducible apply Junk.alloc | with_reducible apply Junk.junk | with_reducible apply Junk.drew | with_reducible apply Junk.drewN)))) _ _ (by omega) (by omega)) | with_reducible exact (u_get_at (HB.out.on (by (repeat (first | with_reducible exact Junk.refl _ | with_reducible exact Junk.app _ _ _ _ _ | with_reducible apply Junk.alloc | with_reducible apply Junk.junk | with_reducible apply Junk.drew | with_reducible apply Junk.drewN)))) 2 _ rfl _ _ (by omega) (by omega)))); clear hK K))); refine wpMix_e rfl (fun osm8_1 dm8_1 K hK => ?_); (go_simp; try go_bits); refine hK _ _ (Junk.pair (by (repeat (first | with_reducible exact Junk.refl _ | with_reducible exact Junk.app _ _ _ _ _ | with_reducible apply Junk.alloc | with_reducible apply Junk.junk | with_reducible apply Junk.drew | with_reducible apply Junk.drewN | (with_reducible refine Junk.setCell ?_ (by simp) _))))) ?_; clear hK K; (iterate 1 (refine wpMix_q rfl (fun K hK => ?_); (go_simp; try go_bits); first | (refine hK _ ?_; clear hK K) | (apply Exists.intro; refine ⟨fun _ => ?_, hK _ ?_⟩; (first | (go_at_call 65; first | with_reducible exact (u_get_0 (HB.out.on (by (repeat (first | with_reducible exact Junk.refl _ | with_reducible exact Junk.app _ _ _ _ _ | with_reducible apply Junk.alloc | with_reducible apply Junk.junk | with_reducible apply Junk.drew | with_reducible apply Junk.drewN)))) _ _ (by omega) (by omega)) | with_reducible exact (u_get_at (HB.out.on (by (repeat (first | with_reducible exact Junk.refl _ | with_reducible exact Junk.app _ _ _ _ _ | with_reducible apply Junk.alloc | with_reducible apply Junk.junk | with_reducible apply Junk.drew | with_reducible apply Junk.drewN)))) 2 _ rfl _ _ (by omega) (by omega)))); clear hK K))); refine wpMix_nil (fun osm dm => ?_)
      go_wp2
      all_goals (go_returns; simp only [World.junk_junk, Array.append_assoc]; rw [HE.out]; exact ⟨by ((try simp only [World.junk_junk, Array.append_assoc]); (repeat (first | with_reducible exact Junk.refl _ | with_reducible exact Junk.app _ _ _ _ _ | with_reducible exact Junk.app2 _ _ _ _ _ _ | with_reducible exact Junk.app3 _ _ _ _ _ _ _ | with_reducible exact Junk.app4 _ _ _ _ _ _ _ _ | with_reducible exact Junk.app5 _ _ _ _ _ _ _ _ _ | with_reducible apply Junk.alloc | with_reducible apply Junk.junk | with_reducible apply Junk.drew | with_reducible apply Junk.drewN))), .inr ⟨rfl, ocb, ccb, by rw [← HSZ.out]; exact bts_over Hcb.out (Hcf.out.lower (by simp; try omega)) ⟨_, by repeat rw [Array.append_assoc]⟩, by rw [← HSZ.out, ← HCZ.out, hC2]⟩⟩)
    · have HE := Lib.hid (show udpErr src dst xs l = 5 by unfold udpErr; rw [if_neg h8, ← HSZ.out, if_neg (by omega), if_pos ⟨by rw [← HCZ.out]; exact hC0, hs⟩])
      have hs2 : (usumN src dst xs S != 65535) = true := by simpa using hs
      clear hC0 hs
      go_enter Tryd.func41, Tryd.ntmps41
      go_wp2
      refine wp_region_junk (by kernel_rfl) (by kernel_rfl) ?_; (repeat (go_big_quiet_step (first | (go_at_call 65; first | with_reducible exact Calls.junk_of (u_get_at (HB.out.on (by (repeat (first | with_reducible exact Junk.refl _ | with_reducible exact Junk.app _ _ _ _ _ | with_reducible apply Junk.alloc | with_reducible apply Junk.junk | with_reducible apply Junk.drew | with_reducible apply Junk.drewN)))) 4 (S : Int) ES.out _ _ (by omega) (by omega)) | exact Calls.junk_of (u_get_at (HB.out.on (by (repeat (first | with_reducible exact Junk.refl _ | with_reducible exact Junk.app _ _ _ _ _ | with_reducible apply Junk.alloc | with_reducible apply Junk.junk | with_reducible apply Junk.drew | with_reducible apply Junk.drewN)))) 6 C EC.out _ _ (by omega) (by omega)))))); refine wpQuiet_nil ?_; rintro _ ⟨⟨osq3, dq3⟩, rfl⟩
      go_wp2_with (first | (go_at_call 66; refine (usum_any src dst _ S c xs _ h1 h2 (by omega) (HS.out.at_.on (by ((try simp only [World.junk_junk, Array.append_assoc]); (repeat (first | with_reducible exact Junk.refl _ | with_reducible exact Junk.app _ _ _ _ _ | with_reducible exact Junk.app2 _ _ _ _ _ _ | with_reducible exact Junk.app3 _ _ _ _ _ _ _ | with_reducible exact Junk.app4 _ _ _ _ _ _ _ _ | with_reducible exact Junk.app5 _ _ _ _ _ _ _ _ _ | with_reducible apply Junk.alloc | with_reducible apply Junk.junk | with_reducible apply Junk.drew | with_reducible apply Junk.drewN))))) HS.out.byte).mono ?_; rintro e w' ⟨rfl, ⟨oss, ds, rfl⟩⟩))
      go_returns
      exact udpM_bad HE.out (by decide) (by ((try simp only [World.junk_junk, Array.append_assoc]); (repeat (first | with_reducible exact Junk.refl _ | with_reducible exact Junk.app _ _ _ _ _ | with_reducible exact Junk.app2 _ _ _ _ _ _ | with_reducible exact Junk.app3 _ _ _ _ _ _ _ | with_reducible exact Junk.app4 _ _ _ _ _ _ _ _ | with_reducible exact Junk.app5 _ _ _ _ _ _ _ _ _ | with_reducible apply Junk.alloc | with_reducible apply Junk.junk | with_reducible apply Junk.drew | with_reducible apply Junk.drewN))))
end Go.Proofs.YtfkhnhenemgcmaaDoor
