/- The contract of ip.Parse. -/
import Derived.Test.YtfkhnhenemgcmaaDoorIpPut
set_option linter.unusedVariables false
set_option maxRecDepth 100000
set_option linter.unusedSimpArgs false
namespace Go.Proofs.YtfkhnhenemgcmaaDoor
open Go.RowKit
theorem bts_cell {w : World} {b off l c : Nat} {xs : Nat → Int} (h : Bts w (some ⟨b, off, none⟩) l c xs) (i : Nat) (hi : i < l) : b < w.heap.size ∧ w.cell? ⟨b, off + i, none⟩ = some (.int .u8 (xs i)) := by
  obtain ⟨b', off', he, h1, h2⟩ := h.at_ i hi
  cases he
  exact ⟨h1, h2⟩
theorem get_bts {b off l c : Nat} {xs : Nat → Int} {w : World} (h : Bts w (some ⟨b, off, none⟩) l c xs) (i l' c' : Nat) (hi : i + 2 ≤ l) (hl : 2 ≤ l') :
    Calls Tryd.prog 34 #[.slice (some ⟨b, off + i, none⟩) l' c'] w fun e w' => e = .returned (.int .i64 (xs i * 256 + xs (i + 1))) ∧ Junk w w' :=
  get_any b (off + i) l' c' (xs i) (xs (i + 1)) w hl (bts_cell h i (by omega)).1 (bts_cell h i (by omega)).2 (bts_cell h (i + 1) (by omega)).2 (h.byte _ (by omega)) (h.byte _ (by omega))
set_option maxHeartbeats 400000 in
theorem address_bts {b off l c : Nat} {xs : Nat → Int} {w : World} (h : Bts w (some ⟨b, off, none⟩) l c xs) (i l' c' : Nat) (hi : i + 4 ≤ l) (hl : 4 ≤ l') (hc : l' ≤ c') :
    Calls Tryd.prog 35 #[.slice (some ⟨b, off + i, none⟩) l' c'] w fun e w' => e = .returned (.int .u32 ((xs i * 256 + xs (i + 1)) * 65536 + (xs (i + 2) * 256 + xs (i + 3)))) ∧ Junk w w' := by
  have x0 := h.byte i (by omega); have x1 := h.byte (i + 1) (by omega); have x2 := h.byte (i + 2) (by omega); have x3 := h.byte (i + 3) (by omega)
  have H := Lib.hid h
  clear h
  have o1 := or_u32 16 ((xs i * 256 + xs (i + 1)) * 65536) (xs (i + 2) * 256 + xs (i + 3)) (by omega) (by omega) (by omega) (by omega) (by omega) (by omega)
  have r1 := wrapk_u32 (xs i * 256 + xs (i + 1)) (by omega) (by omega)
  have r2 := wrapk_u32 (xs (i + 2) * 256 + xs (i + 3)) (by omega) (by omega)
  have r3 := wrapk_u32 ((xs i * 256 + xs (i + 1)) * 65536) (by omega) (by omega)
  have c2 : ¬ c' = 2 := by omega
  have j2 : (2 : Int) ≤ (l' : Int) := by omega
  have j2' : 2 ≤ c' := by omega
  go_enter Tryd.func35, Tryd.ntmps35
  go_wp2
  refine wp_region_junk (by kernel_rfl) (by kernel_rfl) ?_; (repeat (refine wpQuiet_step (fun K hK => ?_); (go_simp; try go_bits); first | (refine hK _ ?_; clear hK K) | (apply Exists.intro; refine ⟨fun _ => ?_, hK _ ?_⟩; (first | (go_at_call 34; first | with_reducible exact Calls.junk_of (get_bts (H.out.on (by (repeat (first | with_reducible exact Junk.refl _ | with_reducible exact Junk.app _ _ _ _ _ | with_reducible apply Junk.alloc | with_reducible apply Junk.junk | with_reducible apply Junk.drew | with_reducible apply Junk.drewN)))) i _ _ (by omega) (by omega)) | exact Calls.junk_of (get_bts (H.out.on (by (repeat (first | with_reducible exact Junk.refl _ | with_reducible exact Junk.app _ _ _ _ _ | with_reducible apply Junk.alloc | with_reducible apply Junk.junk | with_reducible apply Junk.drew | with_reducible apply Junk.drewN)))) (i + 2) _ _ (by omega) (by omega)))); clear hK K))); refine wpQuiet_nil ?_; rintro _ ⟨⟨osq, dq⟩, rfl⟩
  go_wp2
  go_ret
  exact ⟨rfl, by (repeat (first | with_reducible exact Junk.refl _ | with_reducible exact Junk.app _ _ _ _ _ | with_reducible apply Junk.alloc | with_reducible apply Junk.junk | with_reducible apply Junk.drew | with_reducible apply Junk.drewN))⟩
/-- What a head says. -/
def ipSize (xs : Nat → Int) : Nat := (xs 0 % 16 * 4).toNat
def ipTotal (xs : Nat → Int) : Nat := (xs 2 * 256 + xs 3).toNat
def lenErr (xs : Nat → Int) (l : Nat) : Int :=
  if l < 20 then 2 else if ¬ (xs 0 / 16 = 4 ∧ 20 ≤ ipSize xs ∧ ipSize xs ≤ l) then 3 else if ¬ (ipSize xs ≤ ipTotal xs ∧ ipTotal xs ≤ l) then 4 else if sumN xs (ipSize xs) = 65535 then 0 else 5
structure LenOk (xs : Nat → Int) (l : Nat) : Prop where
  l20 : 20 ≤ l
  ver : xs 0 / 16 = 4
  s20 : 20 ≤ ipSize xs
  sl : ipSize xs ≤ l
  st : ipSize xs ≤ ipTotal xs
  tl : ipTotal xs ≤ l
  sum : sumN xs (ipSize xs) = 65535
theorem lenErr_zero {xs : Nat → Int} {l : Nat} (h : lenErr xs l = 0) : LenOk xs l := by
  unfold lenErr at h
  split at h
  · cases h
  · split at h
    · cases h
    · split at h
      · cases h
      · split at h
        · rename_i h1 h2 h3 h4
          refine ⟨by omega, ?_, ?_, ?_, ?_, ?_, h4⟩ <;> omega
        · cases h
theorem lenErr_of {xs : Nat → Int} {l : Nat} (h : LenOk xs l) : lenErr xs l = 0 := by
  obtain ⟨h1, h2, h3, h4, h5, h6, h7⟩ := h
  unfold lenErr
  rw [if_neg (by omega), if_neg (by omega), if_neg (by omega), if_pos h7]
def lenRes (xs : Nat → Int) (l : Nat) : Value :=
  if lenErr xs l = 0 then .tuple #[.int .i64 (ipSize xs : Int), .int .i64 (ipTotal xs : Int), .int .i64 0] else .tuple #[.int .i64 0, .int .i64 0, .int .i64 (lenErr xs l)]
theorem lenRes_bad {xs : Nat → Int} {l : Nat} {n : Int} (h : lenErr xs l = n) (hn : n ≠ 0) : Ending.returned (.tuple #[.int .i64 0, .int .i64 0, .int .i64 n]) = .returned (lenRes xs l) := by
  unfold lenRes; rw [h, if_neg hn]
theorem lenRes_ok {xs : Nat → Int} {l : Nat} (h : lenErr xs l = 0) : Ending.returned (.tuple #[.int .i64 (ipSize xs : Int), .int .i64 (ipTotal xs : Int), .int .i64 0]) = .returned (lenRes xs l) := by
  unfold lenRes; rw [if_pos h]
theorem bts_short {w : World} {oa : Option Addr} {l c : Nat} {xs : Nat → Int} (h : Bts w oa l c xs) (m : Nat) (hm : m ≤ l) : Bts w oa m c xs :=
  ⟨fun i hi => h.at_ i (by omega), fun i hi => h.byte i (by omega), fun hn => by have := h.nil hn; omega, by have := h.le; omega, h.cap⟩
set_option maxHeartbeats 1000000 in
theorem lengths_any (oa : Option Addr) (l c : Nat) (xs : Nat → Int) (w : World) (hl : l ≤ 100000000) (hB : Bts w oa l c xs) :
    Calls Tryd.prog 33 #[.slice oa l c] w fun e w' => e = .returned (lenRes xs l) ∧ Junk w w' := by
  by_cases h20 : l < 20
  · clear hB
    go_enter Tryd.func33, Tryd.ntmps33
    go_wp2
    go_returns
    exact ⟨lenRes_bad (by unfold lenErr; rw [if_pos h20]) (by decide), by (repeat (first | with_reducible exact Junk.refl _ | with_reducible exact Junk.app _ _ _ _ _ | with_reducible apply Junk.alloc | with_reducible apply Junk.junk | with_reducible apply Junk.drew | with_reducible apply Junk.drewN))⟩
  · have hlc := hB.le
    have x0 := hB.byte 0 (by omega); have x2 := hB.byte 2 (by omega); have x3 := hB.byte 3 (by omega)
    have hsz : ((ipSize xs : Nat) : Int) = xs 0 % 16 * 4 := by unfold ipSize; omega
    have htt : ((ipTotal xs : Nat) : Int) = xs 2 * 256 + xs 3 := by unfold ipTotal; omega
    have Hsum := fun h => sumN_bd xs (ipSize xs) (fun i hi => hB.byte i (Nat.lt_of_lt_of_le hi h))
    obtain ⟨b, off, rfl, hblk, hc0⟩ := hB.at_ 0 (by omega)
    have H := Lib.hid hB
    clear hB
    simp only [Nat.add_zero] at hc0
    obtain ⟨S, hS⟩ : ∃ S, S = ipSize xs := ⟨_, rfl⟩
    obtain ⟨T, hT⟩ : ∃ T, T = ipTotal xs := ⟨_, rfl⟩
    rw [← hS] at hsz
    rw [← hT] at htt
    have e1 : xs 0 % 16 * 4 = (S : Int) := hsz.symm
    have e2 : xs 2 * 256 + xs 3 = (T : Int) := htt.symm
    have ES := Lib.hid hS
    have ET := Lib.hid hT
    have E1 := Lib.hid hsz
    have E2 := Lib.hid htt
    have b1 : S ≤ 60 := by omega
    have b2 : T ≤ 65535 := by omega
    rw [← hS] at Hsum
    clear hS hT hsz htt
    have a0 := and_u8_4 (xs 0) (by omega) (by omega)
    have c2 : ¬ c = 2 := by omega
    have c20 : 20 ≤ c := by omega
    have j0 : (0 : Int) < (l : Int) := by omega
    have j0' : 0 < l := by omega
    have j2 : (2 : Int) ≤ (l : Int) := by omega
    have q0 := wrapk_i64 (xs 0 % 16) (by omega) (by omega)
    have q1 := wrapk_i64 (S : Int) (by omega) (by omega)
    by_cases hv : xs 0 / 16 = 4
    case neg =>
      have ev : (xs 0 / 16 != 4) = true := by simp [hv]
      have HV := Lib.hid hv
      clear hv
      (go_enter Tryd.func33, Tryd.ntmps33; go_wp2; refine wp_region_junk (by kernel_rfl) (by kernel_rfl) ?_; (repeat (refine wpQuiet_step (fun K hK => ?_); (go_simp; try go_bits); first | (refine hK _ ?_; clear hK K) | (apply Exists.intro; refine ⟨fun _ => ?_, hK _ ?_⟩; (first | (go_at_call 34; exact Calls.junk_of (get_bts (H.out.on (by (repeat (first | with_reducible exact Junk.refl _ | with_reducible exact Junk.app _ _ _ _ _ | with_reducible apply Junk.alloc | with_reducible apply Junk.junk | with_reducible apply Junk.drew | with_reducible apply Junk.drewN)))) 2 _ _ (by omega) (by omega)))); clear hK K))); refine wpQuiet_nil ?_; rintro _ ⟨⟨osq, dq⟩, rfl⟩; go_wp2; go_returns)
      exact ⟨lenRes_bad (by unfold lenErr; rw [if_neg h20, if_pos (fun h => HV.out h.1)]) (by decide), by (repeat (first | with_reducible exact Junk.refl _ | with_reducible exact Junk.app _ _ _ _ _ | with_reducible apply Junk.alloc | with_reducible apply Junk.junk | with_reducible apply Junk.drew | with_reducible apply Junk.drewN))⟩
    have ev : (xs 0 / 16 != 4) = false := by simp [hv]
    have HV := Lib.hid hv
    clear hv
    by_cases hs1 : 20 ≤ S ∧ S ≤ l
    case neg =>
      by_cases hs2 : 20 ≤ S
      · have hs3 : ¬ S ≤ l := fun h => hs1 ⟨hs2, h⟩
        clear hs1
        (go_enter Tryd.func33, Tryd.ntmps33; go_wp2; refine wp_region_junk (by kernel_rfl) (by kernel_rfl) ?_; (repeat (refine wpQuiet_step (fun K hK => ?_); (go_simp; try go_bits); first | (refine hK _ ?_; clear hK K) | (apply Exists.intro; refine ⟨fun _ => ?_, hK _ ?_⟩; (first | (go_at_call 34; exact Calls.junk_of (get_bts (H.out.on (by (repeat (first | with_reducible exact Junk.refl _ | with_reducible exact Junk.app _ _ _ _ _ | with_reducible apply Junk.alloc | with_reducible apply Junk.junk | with_reducible apply Junk.drew | with_reducible apply Junk.drewN)))) 2 _ _ (by omega) (by omega)))); clear hK K))); refine wpQuiet_nil ?_; rintro _ ⟨⟨osq, dq⟩, rfl⟩; go_wp2; go_returns)
        exact ⟨lenRes_bad (by unfold lenErr; rw [if_neg h20, if_pos (fun h => hs3 (ES.out ▸ h.2.2))]) (by decide), by (repeat (first | with_reducible exact Junk.refl _ | with_reducible exact Junk.app _ _ _ _ _ | with_reducible apply Junk.alloc | with_reducible apply Junk.junk | with_reducible apply Junk.drew | with_reducible apply Junk.drewN))⟩
      · clear hs1
        (go_enter Tryd.func33, Tryd.ntmps33; go_wp2; refine wp_region_junk (by kernel_rfl) (by kernel_rfl) ?_; (repeat (refine wpQuiet_step (fun K hK => ?_); (go_simp; try go_bits); first | (refine hK _ ?_; clear hK K) | (apply Exists.intro; refine ⟨fun _ => ?_, hK _ ?_⟩; (first | (go_at_call 34; exact Calls.junk_of (get_bts (H.out.on (by (repeat (first | with_reducible exact Junk.refl _ | with_reducible exact Junk.app _ _ _ _ _ | with_reducible apply Junk.alloc | with_reducible apply Junk.junk | with_reducible apply Junk.drew | with_reducible apply Junk.drewN)))) 2 _ _ (by omega) (by omega)))); clear hK K))); refine wpQuiet_nil ?_; rintro _ ⟨⟨osq, dq⟩, rfl⟩; go_wp2; go_returns)
        exact ⟨lenRes_bad (by unfold lenErr; rw [if_neg h20, if_pos (fun h => hs2 (ES.out ▸ h.2.1))]) (by decide), by (repeat (first | with_reducible exact Junk.refl _ | with_reducible exact Junk.app _ _ _ _ _ | with_reducible apply Junk.alloc | with_reducible apply Junk.junk | with_reducible apply Junk.drew | with_reducible apply Junk.drewN))⟩
    obtain ⟨hs1, hs2⟩ := hs1
    by_cases ht1 : S ≤ T ∧ T ≤ l
    case neg =>
      by_cases ht2 : S ≤ T
      · have ht3 : ¬ T ≤ l := fun h => ht1 ⟨ht2, h⟩
        clear ht1
        (go_enter Tryd.func33, Tryd.ntmps33; go_wp2; refine wp_region_junk (by kernel_rfl) (by kernel_rfl) ?_; (repeat (refine wpQuiet_step (fun K hK => ?_); (go_simp; try go_bits); first | (refine hK _ ?_; clear hK K) | (apply Exists.intro; refine ⟨fun _ => ?_, hK _ ?_⟩; (first | (go_at_call 34; exact Calls.junk_of (get_bts (H.out.on (by (repeat (first | with_reducible exact Junk.refl _ | with_reducible exact Junk.app _ _ _ _ _ | with_reducible apply Junk.alloc | with_reducible apply Junk.junk | with_reducible apply Junk.drew | with_reducible apply Junk.drewN)))) 2 _ _ (by omega) (by omega)))); clear hK K))); refine wpQuiet_nil ?_; rintro _ ⟨⟨osq, dq⟩, rfl⟩; go_wp2; go_returns)
        exact ⟨lenRes_bad (by unfold lenErr; rw [if_neg h20, ← ES.out, ← ET.out, if_neg (fun h => h ⟨HV.out, hs1, hs2⟩), if_pos (fun h => ht3 h.2)]) (by decide), by (repeat (first | with_reducible exact Junk.refl _ | with_reducible exact Junk.app _ _ _ _ _ | with_reducible apply Junk.alloc | with_reducible apply Junk.junk | with_reducible apply Junk.drew | with_reducible apply Junk.drewN))⟩
      · clear ht1
        (go_enter Tryd.func33, Tryd.ntmps33; go_wp2; refine wp_region_junk (by kernel_rfl) (by kernel_rfl) ?_; (repeat (refine wpQuiet_step (fun K hK => ?_); (go_simp; try go_bits); first | (refine hK _ ?_; clear hK K) | (apply Exists.intro; refine ⟨fun _ => ?_, hK _ ?_⟩; (first | (go_at_call 34; exact Calls.junk_of (get_bts (H.out.on (by (repeat (first | with_reducible exact Junk.refl _ | with_reducible exact Junk.app _ _ _ _ _ | with_reducible apply Junk.alloc | with_reducible apply Junk.junk | with_reducible apply Junk.drew | with_reducible apply Junk.drewN)))) 2 _ _ (by omega) (by omega)))); clear hK K))); refine wpQuiet_nil ?_; rintro _ ⟨⟨osq, dq⟩, rfl⟩; go_wp2; go_returns)
        exact ⟨lenRes_bad (by unfold lenErr; rw [if_neg h20, ← ES.out, ← ET.out, if_neg (fun h => h ⟨HV.out, hs1, hs2⟩), if_pos (fun h => ht2 h.1)]) (by decide), by (repeat (first | with_reducible exact Junk.refl _ | with_reducible exact Junk.app _ _ _ _ _ | with_reducible apply Junk.alloc | with_reducible apply Junk.junk | with_reducible apply Junk.drew | with_reducible apply Junk.drewN))⟩
    obtain ⟨ht1, ht2⟩ := ht1
    obtain ⟨m1, m2⟩ := Hsum hs2
    have HI := Lib.hid (bts_short H.out S hs2)
    by_cases hm : sumN xs S = 65535
    case neg =>
      have em : (sumN xs S != 65535) = true := by simp [hm]
      have HM := Lib.hid hm
      clear hm
      (go_enter Tryd.func33, Tryd.ntmps33; go_wp2; refine wp_region_junk (by kernel_rfl) (by kernel_rfl) ?_; (repeat (refine wpQuiet_step (fun K hK => ?_); (go_simp; try go_bits); first | (refine hK _ ?_; clear hK K) | (apply Exists.intro; refine ⟨fun _ => ?_, hK _ ?_⟩; (first | (go_at_call 34; exact Calls.junk_of (get_bts (H.out.on (by (repeat (first | with_reducible exact Junk.refl _ | with_reducible exact Junk.app _ _ _ _ _ | with_reducible apply Junk.alloc | with_reducible apply Junk.junk | with_reducible apply Junk.drew | with_reducible apply Junk.drewN)))) 2 _ _ (by omega) (by omega)))); clear hK K))); refine wpQuiet_nil ?_; rintro _ ⟨⟨osq, dq⟩, rfl⟩; go_wp2_with (first | (go_at_call 57; refine (sum_any _ _ _ _ _ (by omega) (HI.out.at_.on (by (repeat (first | with_reducible exact Junk.refl _ | with_reducible exact Junk.app _ _ _ _ _ | with_reducible apply Junk.alloc | with_reducible apply Junk.junk | with_reducible apply Junk.drew | with_reducible apply Junk.drewN)))) HI.out.byte).mono ?_; rintro e w' ⟨rfl, rfl⟩)); go_returns)
      exact ⟨lenRes_bad (by unfold lenErr; rw [if_neg h20, ← ES.out, ← ET.out, if_neg (fun h => h ⟨HV.out, hs1, hs2⟩), if_neg (fun h => h ⟨ht1, ht2⟩), if_neg HM.out]) (by decide), by (repeat (first | with_reducible exact Junk.refl _ | with_reducible exact Junk.app _ _ _ _ _ | with_reducible apply Junk.alloc | with_reducible apply Junk.junk | with_reducible apply Junk.drew | with_reducible apply Junk.drewN))⟩
    have em : (sumN xs S != 65535) = false := by simp [hm]
    have HM := Lib.hid hm
    clear hm
    (go_enter Tryd.func33, Tryd.ntmps33; go_wp2; refine wp_region_junk (by kernel_rfl) (by kernel_rfl) ?_; (repeat (refine wpQuiet_step (fun K hK => ?_); (go_simp; try go_bits); first | (refine hK _ ?_; clear hK K) | (apply Exists.intro; refine ⟨fun _ => ?_, hK _ ?_⟩; (first | (go_at_call 34; exact Calls.junk_of (get_bts (H.out.on (by (repeat (first | with_reducible exact Junk.refl _ | with_reducible exact Junk.app _ _ _ _ _ | with_reducible apply Junk.alloc | with_reducible apply Junk.junk | with_reducible apply Junk.drew | with_reducible apply Junk.drewN)))) 2 _ _ (by omega) (by omega)))); clear hK K))); refine wpQuiet_nil ?_; rintro _ ⟨⟨osq, dq⟩, rfl⟩; go_wp2_with (first | (go_at_call 57; refine (sum_any _ _ _ _ _ (by omega) (HI.out.at_.on (by (repeat (first | with_reducible exact Junk.refl _ | with_reducible exact Junk.app _ _ _ _ _ | with_reducible apply Junk.alloc | with_reducible apply Junk.junk | with_reducible apply Junk.drew | with_reducible apply Junk.drewN)))) HI.out.byte).mono ?_; rintro e w' ⟨rfl, rfl⟩)); go_returns)
    have hz : lenErr xs l = 0 := by unfold lenErr; rw [if_neg h20, ← ES.out, ← ET.out, if_neg (fun h => h ⟨HV.out, hs1, hs2⟩), if_neg (fun h => h ⟨ht1, ht2⟩), if_pos HM.out]
    have hr := lenRes_ok hz
    rw [← ES.out, ← ET.out] at hr
    exact ⟨hr, by (repeat (first | with_reducible exact Junk.refl _ | with_reducible exact Junk.app _ _ _ _ _ | with_reducible apply Junk.alloc | with_reducible apply Junk.junk | with_reducible apply Junk.drew | with_reducible apply Junk.drewN))⟩
theorem wp_gen {P : Program} {c : Code} {Q : Exit → Act → World → Prop} {a : Act} {w : World} {os : Array Obj} {d : Nat} (h : ∀ os d, c.wp P Q a (w.junk os d)) : c.wp P Q a (w.junk os d) := h os d
/-- What lies in new memory stays when what lies before it is written. -/
theorem bts_over2 {V V' : World} {cur cur' : Array Value} {t : TypeId} {os os' : Array Obj} {d d' : Nat} {oa : Option Addr} {l c : Nat} {xs : Nat → Int} (hs : V'.heap.size = V.heap.size)
    (h : Bts ((V.alloc (.cells cur t)).junk os d) oa l c xs) (hf : Fresh (V.heap.size + 1) oa) (ho : ∃ x, os' = os ++ x) : Bts ((V'.alloc (.cells cur' t)).junk os' d') oa l c xs := by
  obtain ⟨x, rfl⟩ := ho
  refine ⟨fun i hi => ?_, h.byte, h.nil, h.le, h.cap⟩
  obtain ⟨b, off, he, hlt, hc⟩ := h.at_ i hi
  have hb := hf _ he
  simp only at hb
  refine ⟨b, off, he, by simp at hlt ⊢; omega, ?_⟩
  rw [← hc]
  apply World.cell?_of_block
  simp only [World.junk, World.alloc]
  rw [← Array.append_assoc, Array.getElem?_append_left (by simp at hlt ⊢; omega), Array.getElem?_append_right (by simp; omega), Array.getElem?_append_right (by simp; omega)]
  simp [hs]
def ipFlags (xs : Nat → Int) : Int := xs 6 * 256 + xs 7
/-- The packet that some bytes are. -/
def mkIp (xs : Nat → Int) (S T : Nat) : Ip where
  tos := xs 1
  id := xs 4 * 256 + xs 5
  df := ipFlags xs / 16384 % 2 == 1
  mf := ipFlags xs / 8192 % 2 == 1
  off := ipFlags xs % 8192 * 8
  ttl := xs 8
  proto := xs 9
  src := (xs 12 * 256 + xs 13) * 65536 + (xs 14 * 256 + xs 15)
  dst := (xs 16 * 256 + xs 17) * 65536 + (xs 18 * 256 + xs 19)
  ol := S - 20
  opts := fun k => xs (20 + k)
  bl := T - S
  body := fun k => xs (S + k)
def parseIp (xs : Nat → Int) : Ip := mkIp xs (ipSize xs) (ipTotal xs)
def parseErr (xs : Nat → Int) (l : Nat) : Int := if lenErr xs l ≠ 0 then lenErr xs l else if ipFlags xs / 32768 = 0 ∧ piecesB (parseIp xs) = true then 0 else 7
def zeroIp : Ip := ⟨0, 0, false, false, 0, 0, 0, 0, 0, 0, fun _ => 0, 0, fun _ => 0⟩
def IpParseM (w : World) (xs : Nat → Int) (l : Nat) (e : Ending) (w' : World) : Prop :=
  ∃ (p : Ip) (oo ob : Option Addr) (oc bc : Nat), e = .returned (.tuple #[.agg #[.int .i64 p.tos, .int .i64 p.id, .bool p.df, .bool p.mf, .int .i64 p.off, .int .i64 p.ttl, .int .i64 p.proto, .int .u32 p.src, .int .u32 p.dst, .slice oo p.ol oc, .slice ob p.bl bc], .int .i64 (parseErr xs l)]) ∧ Junk w w' ∧ IpAt w' p oo oc ob bc ∧
    ((parseErr xs l = 0 ∧ p = parseIp xs) ∨ (parseErr xs l ≠ 0 ∧ p = zeroIp ∧ oo = none ∧ oc = 0 ∧ ob = none ∧ bc = 0))
theorem bts_none (w : World) (xs : Nat → Int) : Bts w none 0 0 xs := ⟨fun i hi => by omega, fun i hi => by omega, fun _ => ⟨rfl, rfl⟩, Nat.le_refl _, Nat.zero_le _⟩
theorem ipParseM_bad {w w' : World} {xs : Nat → Int} {l : Nat} {n : Int} (h : parseErr xs l = n) (hn : n ≠ 0) (hj : Junk w w') : IpParseM w xs l (.returned (.tuple #[.agg #[.int .i64 zeroIp.tos, .int .i64 zeroIp.id, .bool zeroIp.df, .bool zeroIp.mf, .int .i64 zeroIp.off, .int .i64 zeroIp.ttl, .int .i64 zeroIp.proto, .int .u32 zeroIp.src, .int .u32 zeroIp.dst, .slice none zeroIp.ol 0, .slice none zeroIp.bl 0], .int .i64 n])) w' :=
  ⟨zeroIp, none, none, 0, 0, by rw [h], hj, ⟨bts_none _ _, bts_none _ _, by decide, by decide⟩, .inr ⟨by rw [h]; exact hn, rfl, rfl, rfl, rfl, rfl⟩⟩
theorem ipParseM_ok {w w' : World} {xs : Nat → Int} {l : Nat} {oo ob : Option Addr} {oc bc : Nat} (h : parseErr xs l = 0) (hj : Junk w w') {S T : Nat} (hS : S = ipSize xs) (hT : T = ipTotal xs) (ho : Bts w' oo (S - 20) oc (fun k => xs (20 + k))) (hb : Bts w' ob (T - S) bc (fun k => xs (S + k)))
    (hx : ∀ i, i < 20 → 0 ≤ xs i ∧ xs i ≤ 255) : IpParseM w xs l (.returned (.tuple #[.agg #[.int .i64 (mkIp xs S T).tos, .int .i64 (mkIp xs S T).id, .bool (mkIp xs S T).df, .bool (mkIp xs S T).mf, .int .i64 (mkIp xs S T).off, .int .i64 (mkIp xs S T).ttl, .int .i64 (mkIp xs S T).proto, .int .u32 (mkIp xs S T).src, .int .u32 (mkIp xs S T).dst, .slice oo (mkIp xs S T).ol oc, .slice ob (mkIp xs S T).bl bc], .int .i64 0])) w' := by
  subst hS hT
  have x12 := hx 12 (by omega); have x13 := hx 13 (by omega); have x14 := hx 14 (by omega); have x15 := hx 15 (by omega)
  have x16 := hx 16 (by omega); have x17 := hx 17 (by omega); have x18 := hx 18 (by omega); have x19 := hx 19 (by omega)
  exact ⟨parseIp xs, oo, ob, oc, bc, by rw [h]; rfl, hj, ⟨ho, hb, by simp only [parseIp, mkIp]; omega, by simp only [parseIp, mkIp]; omega⟩, .inl ⟨h, rfl⟩⟩
set_option maxHeartbeats 2000000 in
theorem ipParse_any (oa : Option Addr) (l c : Nat) (xs : Nat → Int) (w : World) (hl : l ≤ 100000000) (hB : Bts w oa l c xs) :
    Calls Tryd.prog 14 #[.slice oa l c] w (IpParseM w xs l) := by
  by_cases hz : lenErr xs l = 0
  case neg =>
    have hz2 : (lenErr xs l != 0) = true := by simp [hz]
    have hr : lenRes xs l = .tuple #[.int .i64 0, .int .i64 0, .int .i64 (lenErr xs l)] := by unfold lenRes; rw [if_neg hz]
    have HZ := Lib.hid hz
    clear hz
    have H := Lib.hid hB
    clear hB
    go_enter Tryd.func14, Tryd.ntmps14
    go_wp2_with (go_at_call 33; refine (lengths_any oa l c xs _ hl (H.out.on (by (repeat (first | with_reducible exact Junk.refl _ | with_reducible exact Junk.app _ _ _ _ _ | with_reducible apply Junk.alloc | with_reducible apply Junk.junk | with_reducible apply Junk.drew | with_reducible apply Junk.drewN))))).mono ?_; rintro e w' ⟨rfl, ⟨osj, dj, rfl⟩⟩; rw [hr])
    go_returns
    exact ipParseM_bad (by unfold parseErr; rw [if_pos HZ.out]) HZ.out (by (repeat (first | with_reducible exact Junk.refl _ | with_reducible exact Junk.app _ _ _ _ _ | with_reducible apply Junk.alloc | with_reducible apply Junk.junk | with_reducible apply Junk.drew | with_reducible apply Junk.drewN)))
  have K := lenErr_zero hz
  have hz2 : (lenErr xs l != 0) = false := by simp [hz]
  have hr : lenRes xs l = .tuple #[.int .i64 (ipSize xs : Int), .int .i64 (ipTotal xs : Int), .int .i64 0] := by unfold lenRes; rw [if_pos hz]
  obtain ⟨k1, _, k2, k3, k4, k5, _⟩ := K
  obtain ⟨S, hS⟩ : ∃ S, S = ipSize xs := ⟨_, rfl⟩
  obtain ⟨T, hT⟩ : ∃ T, T = ipTotal xs := ⟨_, rfl⟩
  rw [← hS] at k2 k3 k4 hr
  rw [← hT] at k4 k5 hr
  have ES := Lib.hid hS
  have ET := Lib.hid hT
  have hpe : parseIp xs = mkIp xs S T := by rw [hS, hT]; rfl
  have HP := Lib.hid hpe
  clear hS hT hpe
  have HZ := Lib.hid hz
  clear hz
  have Hx := Lib.hid (fun i (hi : i < 20) => hB.byte i (by omega))
  have x1 := hB.byte 1 (by omega); have x4 := hB.byte 4 (by omega); have x5 := hB.byte 5 (by omega); have x6 := hB.byte 6 (by omega); have x7 := hB.byte 7 (by omega); have x8 := hB.byte 8 (by omega); have x9 := hB.byte 9 (by omega)
  have hlc := hB.le
  obtain ⟨b, off, rfl, hblk, _⟩ := hB.at_ 0 (by omega)
  have hc1 := (bts_cell hB 1 (by omega)).2
  have hc8 := (bts_cell hB 8 (by omega)).2
  have hc9 := (bts_cell hB 9 (by omega)).2
  have H := Lib.hid hB
  clear hB
  have hfl : xs 6 * 256 + xs 7 = ipFlags xs := rfl
  have f1 : 0 ≤ ipFlags xs := by unfold ipFlags; omega
  have f2 : ipFlags xs ≤ 65535 := by unfold ipFlags; omega
  have g1 := bit_i64_14 (ipFlags xs) f1 (by omega)
  have g2 := bit_i64_13 (ipFlags xs) f1 (by omega)
  have g3 := and_i64_13 (ipFlags xs) f1 (by omega)
  have g4 : (ipFlags xs / 16384 % 2 * 16384 != 0) = (ipFlags xs / 16384 % 2 == 1) := by rw [Bool.eq_iff_iff]; simp; omega
  have g5 : (ipFlags xs / 8192 % 2 * 8192 != 0) = (ipFlags xs / 8192 % 2 == 1) := by rw [Bool.eq_iff_iff]; simp; omega
  have p1 : 0 ≤ (mkIp xs S T).off := by show 0 ≤ ipFlags xs % 8192 * 8; omega
  have p2 : (mkIp xs S T).off ≤ 65528 := by show ipFlags xs % 8192 * 8 ≤ 65528; omega
  have p3 : (mkIp xs S T).ol ≤ 100000000 := by show S - 20 ≤ _; omega
  have p4 : (mkIp xs S T).bl ≤ 100000000 := by show T - S ≤ _; omega
  have c6 : ¬ c = 6 := by omega
  have c4 : ¬ c = 4 := by omega
  have c12 : ¬ c = 12 := by omega
  have c16 : ¬ c = 16 := by omega
  have i1 : 1 < l := by omega
  have i8 : 8 < l := by omega
  have i9 : 9 < l := by omega
  have j1 : (1 : Int) < (l : Int) := by omega
  have j4 : (4 : Int) ≤ (l : Int) := by omega
  have j6 : (6 : Int) ≤ (l : Int) := by omega
  have j8 : (8 : Int) < (l : Int) := by omega
  have j9 : (9 : Int) < (l : Int) := by omega
  have j12 : (12 : Int) ≤ (l : Int) := by omega
  have j16 : (16 : Int) ≤ (l : Int) := by omega
  have j20 : (20 : Int) ≤ (S : Int) := by omega
  have js : (S : Int) ≤ (T : Int) := by omega
  have jt : (T : Int) ≤ (c : Int) := by omega
  have jc : (S : Int) ≤ (c : Int) := by omega
  have Hfl := Lib.hid hfl
  clear hfl
  go_enter Tryd.func14, Tryd.ntmps14
  go_wp2_with (first
    | (go_at_call 33; refine (lengths_any _ l c xs _ hl (H.out.on (by (repeat (first | with_reducible exact Junk.refl _ | with_reducible exact Junk.app _ _ _ _ _ | with_reducible apply Junk.alloc | with_reducible apply Junk.junk | with_reducible apply Junk.drew | with_reducible apply Junk.drewN))))).mono ?_; rintro e w' ⟨rfl, ⟨osj, dj, rfl⟩⟩; rw [hr])
    | (go_at_call 34; refine (get_bts (H.out.on (by (repeat (first | with_reducible exact Junk.refl _ | with_reducible exact Junk.app _ _ _ _ _ | with_reducible apply Junk.alloc | with_reducible apply Junk.junk | with_reducible apply Junk.drew | with_reducible apply Junk.drewN)))) 6 _ _ (by omega) (by omega)).mono ?_; rintro e w' ⟨rfl, ⟨osj, dj, rfl⟩⟩; rw [Hfl.out]))
  (try simp only [World.junk_junk]); refine wp_gen (fun osA dA => ?_)
  refine wp_region_mixj ((w.alloc (.cells #[.int .i64 0, .int .i64 0, .bool false, .bool false, .int .i64 0, .int .i64 0, .int .i64 0, .int .u32 0, .int .u32 0, .slice none 0 0, .slice none 0 0] 29)).junk osA dA) [(0, true), (1, true), (2, true), (3, true), (4, true), (5, true), (6, true), (7, true), (8, true), (9, true), (10, true), (11, true), (12, true), (13, true), (14, true), (15, true), (16, true), (17, true), (18, true), (19, true), (20, true), (21, true), (22, true), (23, true), (24, true), (25, true), (26, true), (27, true), (28, true), (29, true), (30, true), (31, false), (32, false)] (by kernel_rfl) (by kernel_rfl) (by (repeat (first | with_reducible exact Junk.refl _ | with_reducible exact Junk.app _ _ _ _ _ | with_reducible apply Junk.alloc | with_reducible apply Junk.junk | with_reducible apply Junk.drew | with_reducible apply Junk.drewN))) ?_; (iterate 31 (refine wpMix_q rfl (fun K hK => ?_); (go_simp; try go_bits); first | (refine hK _ ?_; clear hK K) | (apply Exists.intro; refine ⟨fun _ => ?_, hK _ ?_⟩; (first | (go_at_call 34; exact get_bts (H.out.on (by (repeat (first | with_reducible exact Junk.refl _ | with_reducible exact Junk.app _ _ _ _ _ | with_reducible apply Junk.alloc | with_reducible apply Junk.junk | with_reducible apply Junk.drew | with_reducible apply Junk.drewN)))) 4 _ _ (by omega) (by omega)) | (go_at_call 35; first | with_reducible exact address_bts (H.out.on (by (repeat (first | with_reducible exact Junk.refl _ | with_reducible exact Junk.app _ _ _ _ _ | with_reducible apply Junk.alloc | with_reducible apply Junk.junk | with_reducible apply Junk.drew | with_reducible apply Junk.drewN)))) 12 _ _ (by omega) (by omega) (by omega) | exact address_bts (H.out.on (by (repeat (first | with_reducible exact Junk.refl _ | with_reducible exact Junk.app _ _ _ _ _ | with_reducible apply Junk.alloc | with_reducible apply Junk.junk | with_reducible apply Junk.drew | with_reducible apply Junk.drewN)))) 16 _ _ (by omega) (by omega) (by omega))); clear hK K))); refine wpMix_e rfl (fun osm5_0 dm5_0 K hK => ?_); (go_simp; try go_bits); refine hK _ _ (Junk.pair (by (repeat (first | with_reducible exact Junk.refl _ | with_reducible exact Junk.app _ _ _ _ _ | with_reducible apply Junk.alloc | with_reducible apply Junk.junk | with_reducible apply Junk.drew | with_reducible apply Junk.drewN | (with_reducible refine Junk.setCell ?_ (by simp) _))))) ?_; clear hK K; refine wpMix_e rfl (fun osm5_1 dm5_1 K hK => ?_); (go_simp; try go_bits); refine hK _ _ (Junk.pair (by (repeat (first | with_reducible exact Junk.refl _ | with_reducible exact Junk.app _ _ _ _ _ | with_reducible apply Junk.alloc | with_reducible apply Junk.junk | with_reducible apply Junk.drew | with_reducible apply Junk.drewN | (with_reducible refine Junk.setCell ?_ (by simp) _))))) ?_; clear hK K; refine wpMix_nil (fun osm dm => ?_)
  go_wp2
  (try simp only [World.junk_junk]); refine wp_gen (fun osB dB => ?_)
  refine wp_region_mixj ((w.alloc (.cells #[.int .i64 0, .int .i64 0, .bool false, .bool false, .int .i64 0, .int .i64 0, .int .i64 0, .int .u32 0, .int .u32 0, .slice none 0 0, .slice none 0 0] 29)).junk (osA ++ osm5_0) dm5_0) [(0, true), (1, true), (2, true), (4, true), (5, true), (6, true), (7, true), (3, false), (9, true), (8, false), (10, false), (11, true), (12, false)] (by kernel_rfl) (by kernel_rfl) (by (repeat (first | with_reducible exact Junk.refl _ | with_reducible exact Junk.app _ _ _ _ _ | with_reducible apply Junk.alloc | with_reducible apply Junk.junk | with_reducible apply Junk.drew | with_reducible apply Junk.drewN))) ?_; (iterate 7 (refine wpMix_q rfl (fun K hK => ?_); (go_simp; try go_bits); (refine hK _ ?_; clear hK K))); refine wpMix_e rfl (fun osm6_0 dm6_0 K hK => ?_); (go_simp; try go_bits); (go_at_call 36; refine (clone_any _ _ _ _ _ (by omega) ((bts_sub H.out 20 S (by omega) (by omega)).on (by (repeat (first | with_reducible exact Junk.refl _ | with_reducible exact Junk.app _ _ _ _ _ | with_reducible apply Junk.alloc | with_reducible apply Junk.junk | with_reducible apply Junk.drew | with_reducible apply Junk.drewN))))).mono ?_; rintro e w' ⟨oc1, cc1, rfl, ⟨osj1, dj1, rfl⟩, hcb, hcn, hcf⟩; rw [World.junk_junk] at hcb; have Hcb1 := Lib.hid hcb; have Hcf1 := Lib.hid hcf; clear hcb hcn hcf); refine hK _ _ (Junk.pair (by (repeat (first | with_reducible exact Junk.refl _ | with_reducible exact Junk.app _ _ _ _ _ | with_reducible apply Junk.alloc | with_reducible apply Junk.junk | with_reducible apply Junk.drew | with_reducible apply Junk.drewN | (with_reducible refine Junk.setCell ?_ (by simp) _))))) ?_; clear hK K; (iterate 1 (refine wpMix_q rfl (fun K hK => ?_); (go_simp; try go_bits); (refine hK _ ?_; clear hK K))); refine wpMix_e rfl (fun osm6_1 dm6_1 K hK => ?_); (go_simp; try go_bits); (go_at_call 36; refine (clone_any _ _ _ _ _ (by omega) ((bts_sub H.out S T (by omega) (by omega)).on (by (repeat (first | with_reducible exact Junk.refl _ | with_reducible exact Junk.app _ _ _ _ _ | with_reducible apply Junk.alloc | with_reducible apply Junk.junk | with_reducible apply Junk.drew | with_reducible apply Junk.drewN))))).mono ?_; rintro e w' ⟨oc2, cc2, rfl, ⟨osj2, dj2, rfl⟩, hcb, hcn, hcf⟩; rw [World.junk_junk] at hcb; have Hcb2 := Lib.hid hcb; have Hcf2 := Lib.hid hcf; clear hcb hcn hcf); refine hK _ _ (Junk.pair (by (repeat (first | with_reducible exact Junk.refl _ | with_reducible exact Junk.app _ _ _ _ _ | with_reducible apply Junk.alloc | with_reducible apply Junk.junk | with_reducible apply Junk.drew | with_reducible apply Junk.drewN | (with_reducible refine Junk.setCell ?_ (by simp) _))))) ?_; clear hK K; refine wpMix_e rfl (fun osm6_2 dm6_2 K hK => ?_); (go_simp; try go_bits); refine hK _ _ (Junk.pair (by (repeat (first | with_reducible exact Junk.refl _ | with_reducible exact Junk.app _ _ _ _ _ | with_reducible apply Junk.alloc | with_reducible apply Junk.junk | with_reducible apply Junk.drew | with_reducible apply Junk.drewN | (with_reducible refine Junk.setCell ?_ (by simp) _))))) ?_; clear hK K; (iterate 1 (refine wpMix_q rfl (fun K hK => ?_); (go_simp; try go_bits); (refine hK _ ?_; clear hK K))); refine wpMix_e rfl (fun osm6_3 dm6_3 K hK => ?_); (go_simp; try go_bits); refine hK _ _ (Junk.pair (by (repeat (first | with_reducible exact Junk.refl _ | with_reducible exact Junk.app _ _ _ _ _ | with_reducible apply Junk.alloc | with_reducible apply Junk.junk | with_reducible apply Junk.drew | with_reducible apply Junk.drewN | (with_reducible refine Junk.setCell ?_ (by simp) _))))) ?_; clear hK K; refine wpMix_nil (fun osm dm => ?_)
  generalize (if c = 20 then (some (⟨b, off, none⟩ : Addr)) else some ⟨b, off + 20, none⟩) = dp20
  generalize (if c = S then (some (⟨b, off, none⟩ : Addr)) else some ⟨b, off + S, none⟩) = dpS
  by_cases hf : ipFlags xs / 32768 = 0
  case neg =>
    have ef : (ipFlags xs / 32768 != 0) = true := by simp [hf]
    have HF := Lib.hid hf
    clear hf
    go_wp2
    go_returns
    exact ipParseM_bad (by unfold parseErr; rw [if_neg (by simp [HZ.out]), if_neg (fun h => HF.out h.1)]) (by decide) (by ((try simp only [World.junk_junk, Array.append_assoc]); (repeat (first | with_reducible exact Junk.refl _ | with_reducible exact Junk.app _ _ _ _ _ | with_reducible exact Junk.app2 _ _ _ _ _ _ | with_reducible exact Junk.app3 _ _ _ _ _ _ _ | with_reducible exact Junk.app4 _ _ _ _ _ _ _ _ | with_reducible exact Junk.app5 _ _ _ _ _ _ _ _ _ | with_reducible apply Junk.alloc | with_reducible apply Junk.junk | with_reducible apply Junk.drew | with_reducible apply Junk.drewN))))
  have ef : (ipFlags xs / 32768 != 0) = false := by simp [hf]
  have HF := Lib.hid hf
  clear hf
  cases hp : piecesB (mkIp xs S T) with
  | false =>
    go_wp2_with (first | (go_at_call 37; refine (pieces_any (mkIp xs S T) _ _ _ _ _ p3 p4 p1 p2).mono ?_; rintro e w' ⟨rfl, ⟨osp, djp, rfl⟩⟩))
    go_returns
    exact ipParseM_bad (by unfold parseErr; rw [if_neg (by simp [HZ.out]), if_neg (fun h => by rw [HP.out, hp] at h; cases h.2)]) (by decide) (by ((try simp only [World.junk_junk, Array.append_assoc]); (repeat (first | with_reducible exact Junk.refl _ | with_reducible exact Junk.app _ _ _ _ _ | with_reducible exact Junk.app2 _ _ _ _ _ _ | with_reducible exact Junk.app3 _ _ _ _ _ _ _ | with_reducible exact Junk.app4 _ _ _ _ _ _ _ _ | with_reducible exact Junk.app5 _ _ _ _ _ _ _ _ _ | with_reducible apply Junk.alloc | with_reducible apply Junk.junk | with_reducible apply Junk.drew | with_reducible apply Junk.drewN))))
  | true =>
    go_wp2_with (first | (go_at_call 37; refine (pieces_any (mkIp xs S T) _ _ _ _ _ p3 p4 p1 p2).mono ?_; rintro e w' ⟨rfl, ⟨osp, djp, rfl⟩⟩))
    go_returns
    exact ipParseM_ok (by unfold parseErr; rw [if_neg (by simp [HZ.out]), if_pos ⟨HF.out, by rw [HP.out, hp]⟩]) (by ((try simp only [World.junk_junk, Array.append_assoc]); (repeat (first | with_reducible exact Junk.refl _ | with_reducible exact Junk.app _ _ _ _ _ | with_reducible exact Junk.app2 _ _ _ _ _ _ | with_reducible exact Junk.app3 _ _ _ _ _ _ _ | with_reducible exact Junk.app4 _ _ _ _ _ _ _ _ | with_reducible exact Junk.app5 _ _ _ _ _ _ _ _ _ | with_reducible apply Junk.alloc | with_reducible apply Junk.junk | with_reducible apply Junk.drew | with_reducible apply Junk.drewN)))) ES.out ET.out (bts_over2 (by simp) Hcb1.out (Hcf1.out.lower (by simp)) ⟨_, by repeat rw [Array.append_assoc]⟩) (bts_over2 (by simp) Hcb2.out (Hcf2.out.lower (by simp)) ⟨_, by repeat rw [Array.append_assoc]⟩) Hx.out
end Go.Proofs.YtfkhnhenemgcmaaDoor
