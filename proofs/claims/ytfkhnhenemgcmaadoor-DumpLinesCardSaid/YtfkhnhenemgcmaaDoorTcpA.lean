/- The contracts of the small functions of tcp, and of the sums with a pseudo head. -/
import Derived.Test.YtfkhnhenemgcmaaDoorRow
set_option linter.unusedVariables false
set_option maxRecDepth 100000
set_option linter.unusedSimpArgs false
namespace Go.Proofs.YtfkhnhenemgcmaaDoor
open Go.RowKit
def t_withinB (n m : Int) : Bool := decide (0 ≤ n ∧ n ≤ m)
theorem t_withinB_true {n m : Int} (h : t_withinB n m = true) : 0 ≤ n ∧ n ≤ m := by simpa [t_withinB] using h
theorem t_get_any (b off l c : Nat) (x0 x1 : Int) (w : World) (hl : 2 ≤ l) (hb : b < w.heap.size) (h0 : w.cell? ⟨b, off, none⟩ = some (.int .u8 x0)) (h1 : w.cell? ⟨b, off + 1, none⟩ = some (.int .u8 x1)) (b0 : 0 ≤ x0 ∧ x0 ≤ 255) (b1 : 0 ≤ x1 ∧ x1 ≤ 255) :
    Calls Tryd.prog 61 #[.slice (some ⟨b, off, none⟩) l c] w fun e w' => e = .returned (.int .i64 (x0 * 256 + x1)) ∧ Junk w w' := by
  have q0 := or_i64 8 (x0 * 256) x1 (by omega) (by omega) (by omega) (by omega) (by omega) (by omega)
  have q1 := wrapk_i64 x0 (by omega) (by omega)
  have q2 := wrapk_i64 x1 (by omega) (by omega)
  have q3 := wrapk_i64 (x0 * 256) (by omega) (by omega)
  have j1 : (1 : Int) < (l : Int) := by omega
  have j0 : (0 : Int) < (l : Int) := by omega
  have i1 : 1 < l := by omega
  have i0 : 0 < l := by omega
  go_enter Tryd.func61, Tryd.ntmps61
  go_wp2
  refine wp_region_junk (by kernel_rfl) (by kernel_rfl) ?_; (repeat (go_big_quiet_step (first | fail))); refine wpQuiet_nil ?_; rintro _ ⟨⟨osq, dq⟩, rfl⟩
  go_wp2
  go_ret
  exact ⟨rfl, by (repeat (first | with_reducible exact Junk.refl _ | with_reducible exact Junk.app _ _ _ _ _ | with_reducible apply Junk.alloc | with_reducible apply Junk.junk | with_reducible apply Junk.drew | with_reducible apply Junk.drewN))⟩
theorem t_ints_rowj (V : World) (n : Nat) (xs : Nat → Int) (t : TypeId) (os : Array Obj) (d g off l : Nat) (hg : g = V.heap.size) (h : off + l ≤ n) : IntsAt ((V.alloc (.cells (rowArr n xs) t)).junk os d) (some ⟨g, off, none⟩) l .u8 (fun i => xs (off + i)) :=
  (ints_row V n xs t g off l hg h).on ⟨os, d, rfl⟩
theorem t_bts_cell {w : World} {b off l c : Nat} {xs : Nat → Int} (h : Bts w (some ⟨b, off, none⟩) l c xs) (i : Nat) (hi : i < l) : b < w.heap.size ∧ w.cell? ⟨b, off + i, none⟩ = some (.int .u8 (xs i)) := by
  obtain ⟨b', off', he, h1, h2⟩ := h.at_ i hi
  cases he
  exact ⟨h1, h2⟩
theorem t_get_bts {b off l c : Nat} {xs : Nat → Int} {w : World} (h : Bts w (some ⟨b, off, none⟩) l c xs) (i l' c' : Nat) (hi : i + 2 ≤ l) (hl : 2 ≤ l') :
    Calls Tryd.prog 61 #[.slice (some ⟨b, off + i, none⟩) l' c'] w fun e w' => e = .returned (.int .i64 (xs i * 256 + xs (i + 1))) ∧ Junk w w' :=
  t_get_any b (off + i) l' c' (xs i) (xs (i + 1)) w hl (t_bts_cell h i (by omega)).1 (t_bts_cell h i (by omega)).2 (t_bts_cell h (i + 1) (by omega)).2 (h.byte _ (by omega)) (h.byte _ (by omega))
set_option maxHeartbeats 400000 in
theorem t_get4_bts {b off l c : Nat} {xs : Nat → Int} {w : World} (h : Bts w (some ⟨b, off, none⟩) l c xs) (i l' c' : Nat) (hi : i + 4 ≤ l) (hl : 4 ≤ l') (hc : l' ≤ c') :
    Calls Tryd.prog 62 #[.slice (some ⟨b, off + i, none⟩) l' c'] w fun e w' => e = .returned (.int .u32 ((xs i * 256 + xs (i + 1)) * 65536 + (xs (i + 2) * 256 + xs (i + 3)))) ∧ Junk w w' := by
  have x0 := h.byte i (by omega); have x1 := h.byte (i + 1) (by omega); have x2 := h.byte (i + 2) (by omega); have x3 := h.byte (i + 3) (by omega)
  have H := Lib.hid h
  clear h
  have o1 := or_u32 16 ((xs i * 256 + xs (i + 1)) * 65536) (xs (i + 2) * 256 + xs (i + 3)) (by omega) (by omega) (by omega) (by omega) (by omega) (by omega)
  have r1 := wrapk_u32 (xs i * 256 + xs (i + 1)) (by omega) (by omega)
  have r2 := wrapk_u32 (xs (i + 2) * 256 + xs (i + 3)) (by omega) (by omega)
  have r3 := wrapk_u32 ((xs i * 256 + xs (i + 1)) * 65536) (by omega) (by omega)
  have c2 : ¬ c' = 2 := by omega
  have j2 : (2 : Int) ≤ (l' : Int) := by omega
  have j2' : 2 ≤ c' := by omega
  go_enter Tryd.func62, Tryd.ntmps62
  go_wp2
  refine wp_region_junk (by kernel_rfl) (by kernel_rfl) ?_; (repeat (go_big_quiet_step (first | (go_at_call 61; first | with_reducible exact Calls.junk_of (t_get_bts (H.out.on (by (repeat (first | with_reducible exact Junk.refl _ | with_reducible exact Junk.app _ _ _ _ _ | with_reducible apply Junk.alloc | with_reducible apply Junk.junk | with_reducible apply Junk.drew | with_reducible apply Junk.drewN)))) i _ _ (by omega) (by omega)) | exact Calls.junk_of (t_get_bts (H.out.on (by (repeat (first | with_reducible exact Junk.refl _ | with_reducible exact Junk.app _ _ _ _ _ | with_reducible apply Junk.alloc | with_reducible apply Junk.junk | with_reducible apply Junk.drew | with_reducible apply Junk.drewN)))) (i + 2) _ _ (by omega) (by omega)))))); refine wpQuiet_nil ?_; rintro _ ⟨⟨osq, dq⟩, rfl⟩
  go_wp2
  go_ret
  exact ⟨rfl, by (repeat (first | with_reducible exact Junk.refl _ | with_reducible exact Junk.app _ _ _ _ _ | with_reducible apply Junk.alloc | with_reducible apply Junk.junk | with_reducible apply Junk.drew | with_reducible apply Junk.drewN))⟩
theorem cjoin_any (a b : Int) (w : World) (ha : 0 ≤ a ∧ a ≤ 65535) (hb : 0 ≤ b ∧ b ≤ 65535) :
    Calls Tryd.prog 79 #[.int .u16 a, .int .u16 b] w fun e w' => e = .returned (.int .u16 (foldI (a + b))) ∧ w = w' := by
  go_enter Tryd.func79, Tryd.ntmps79
  go_wp2_with (first | (go_at_call 74; refine (fold_any _ _ (by omega) (by omega)).mono ?_; rintro e w' ⟨rfl, rfl⟩))
  go_ret
  exact ⟨rfl, rfl⟩
def pseudoN (src dst proto size : Int) : Int := src / 65536 + src % 65536 + dst / 65536 + dst % 65536 + proto + size
set_option maxHeartbeats 400000 in
theorem cpseudo_any (src dst proto size : Int) (w : World) (h1 : 0 ≤ src ∧ src ≤ 4294967295) (h2 : 0 ≤ dst ∧ dst ≤ 4294967295) (h3 : 0 ≤ proto ∧ proto ≤ 65535) (h4 : 0 ≤ size ∧ size ≤ 65535) :
    Calls Tryd.prog 80 #[.int .u32 src, .int .u32 dst, .int .i64 proto, .int .i64 size] w fun e w' => e = .returned (.int .u16 (foldI (pseudoN src dst proto size))) ∧ w = w' := by
  have q0 := and_u32_16 src (by omega) (by omega)
  have q1 := and_u32_16 dst (by omega) (by omega)
  go_enter Tryd.func80, Tryd.ntmps80
  go_wp2_with (first | (go_at_call 74; refine (fold_any _ _ (by omega) (by omega)).mono ?_; rintro e w' ⟨rfl, rfl⟩))
  go_ret
  exact ⟨rfl, rfl⟩
theorem foldI_add {a b : Int} (ha : 0 ≤ a) (hb : 0 ≤ b) : foldI (foldI a + foldI b) = foldI (a + b) := by
  unfold foldI
  by_cases h0 : a = 0
  · subst h0
    by_cases h1 : b = 0
    · subst h1; rfl
    · simp only [if_true]
      rw [if_neg h1, if_neg (by omega), if_neg (by omega)]
      omega
  · by_cases h1 : b = 0
    · subst h1
      simp only [if_true]
      rw [if_neg h0, if_neg (by omega), if_neg (by omega)]
      omega
    · rw [if_neg h0, if_neg h1, if_neg (by omega), if_neg (by omega)]
      omega
/-- The sum of a segment with its pseudo head. -/
def tsumN (src dst : Int) (xs : Nat → Int) (l : Nat) : Int := foldI (pseudoN src dst 6 l + rawN xs l)
theorem pseudoN_bd {src dst proto size : Int} (h1 : 0 ≤ src ∧ src ≤ 4294967295) (h2 : 0 ≤ dst ∧ dst ≤ 4294967295) (h3 : 0 ≤ proto ∧ proto ≤ 65535) (h4 : 0 ≤ size ∧ size ≤ 65535) : 0 ≤ pseudoN src dst proto size := by unfold pseudoN; omega
set_option maxHeartbeats 400000 in
theorem tsum_any (src dst : Int) (oa : Option Addr) (l c : Nat) (xs : Nat → Int) (w : World) (h1 : 0 ≤ src ∧ src ≤ 4294967295) (h2 : 0 ≤ dst ∧ dst ≤ 4294967295) (hl : l ≤ 65535) (hI : IntsAt w oa l .u8 xs) (hx : ∀ i, i < l → 0 ≤ xs i ∧ xs i ≤ 255) :
    Calls Tryd.prog 59 #[.int .u32 src, .int .u32 dst, .slice oa l c] w fun e w' => e = .returned (.int .u16 (tsumN src dst xs l)) ∧ Junk w w' := by
  have hp := pseudoN_bd (proto := 6) (size := (l : Int)) h1 h2 (by omega) (by omega)
  have hr := (rawN_bd xs l hx).1
  have hb := sumN_bd xs l hx
  have hb2 := foldI_bd _ hp
  have HI := Lib.hid hI
  have HX := Lib.hid hx
  have HE := Lib.hid (show foldI (foldI (pseudoN src dst 6 l) + sumN xs l) = tsumN src dst xs l from foldI_add hp hr)
  clear hI hx
  go_enter Tryd.func59, Tryd.ntmps59
  go_wp2_with (first | (go_at_call 80; refine (cpseudo_any src dst 6 l _ h1 h2 (by omega) (by omega)).mono ?_; rintro e w' ⟨rfl, rfl⟩) | (go_at_call 57; refine (sum_any _ _ _ _ _ (by omega) (HI.out.on (by ((try simp only [World.junk_junk, Array.append_assoc]); (repeat (first | with_reducible exact Junk.refl _ | with_reducible exact Junk.app _ _ _ _ _ | with_reducible exact Junk.app2 _ _ _ _ _ _ | with_reducible exact Junk.app3 _ _ _ _ _ _ _ | with_reducible exact Junk.app4 _ _ _ _ _ _ _ _ | with_reducible exact Junk.app5 _ _ _ _ _ _ _ _ _ | with_reducible apply Junk.alloc | with_reducible apply Junk.junk | with_reducible apply Junk.drew | with_reducible apply Junk.drewN))))) HX.out).mono ?_; rintro e w' ⟨rfl, rfl⟩) | (go_at_call 79; refine (cjoin_any _ _ _ hb2 hb).mono ?_; rintro e w' ⟨rfl, rfl⟩))
  go_ret
  exact ⟨ret_int HE.out, by ((try simp only [World.junk_junk, Array.append_assoc]); (repeat (first | with_reducible exact Junk.refl _ | with_reducible exact Junk.app _ _ _ _ _ | with_reducible exact Junk.app2 _ _ _ _ _ _ | with_reducible exact Junk.app3 _ _ _ _ _ _ _ | with_reducible exact Junk.app4 _ _ _ _ _ _ _ _ | with_reducible exact Junk.app5 _ _ _ _ _ _ _ _ _ | with_reducible apply Junk.alloc | with_reducible apply Junk.junk | with_reducible apply Junk.drew | with_reducible apply Junk.drewN)))⟩
end Go.Proofs.YtfkhnhenemgcmaaDoor
