/- The contract of icmp.About. -/
import Derived.Test.YtnefphinmjeacaaIcmpWhole
set_option linter.unusedVariables false
set_option maxRecDepth 100000
set_option linter.unusedSimpArgs false
namespace Go.Proofs.Ytnefphinmjeacaa
open Go.RowKit
def aboutIp (xs : Nat → Int) (l : Nat) : Ip := mkIp xs (ipSize xs) (min (ipTotal xs) l)
def aboutErr (kind : Int) (xs : Nat → Int) (l : Nat) : Int := if errorB kind = false then 1 else wholeErr xs l
def AboutM (w : World) (kind : Int) (xs : Nat → Int) (l : Nat) (e : Ending) (w' : World) : Prop :=
  ∃ (p : Ip) (oo ob : Option Addr) (oc bc : Nat), e = .returned (.tuple #[.agg #[.int .i64 p.tos, .int .i64 p.id, .bool p.df, .bool p.mf, .int .i64 p.off, .int .i64 p.ttl, .int .i64 p.proto, .int .u32 p.src, .int .u32 p.dst, .slice oo p.ol oc, .slice ob p.bl bc], .int .i64 (aboutErr kind xs l)]) ∧ Junk w w' ∧ IpAt w' p oo oc ob bc ∧
    ((aboutErr kind xs l = 0 ∧ p = aboutIp xs l) ∨ (aboutErr kind xs l ≠ 0 ∧ p = zeroIp ∧ oo = none ∧ oc = 0 ∧ ob = none ∧ bc = 0))
theorem aboutM_bad {w w' : World} {kind : Int} {xs : Nat → Int} {l : Nat} {n : Int} (h : aboutErr kind xs l = n) (hn : n ≠ 0) (hj : Junk w w') : AboutM w kind xs l (.returned (.tuple #[.agg #[.int .i64 zeroIp.tos, .int .i64 zeroIp.id, .bool zeroIp.df, .bool zeroIp.mf, .int .i64 zeroIp.off, .int .i64 zeroIp.ttl, .int .i64 zeroIp.proto, .int .u32 zeroIp.src, .int .u32 zeroIp.dst, .slice none zeroIp.ol 0, .slice none zeroIp.bl 0], .int .i64 n])) w' :=
  ⟨zeroIp, none, none, 0, 0, by rw [h], hj, ⟨bts_none _ _, bts_none _ _, by decide, by decide⟩, .inr ⟨by rw [h]; exact hn, rfl, rfl, rfl, rfl, rfl⟩⟩
theorem aboutM_ok {w w' : World} {kind : Int} {xs : Nat → Int} {l : Nat} {oo ob : Option Addr} {oc bc : Nat} (h : aboutErr kind xs l = 0) (hj : Junk w w') {S U : Nat} (hS : S = ipSize xs) (hU : U = min (ipTotal xs) l) (ho : Bts w' oo (S - 20) oc (fun k => xs (20 + k))) (hb : Bts w' ob (U - S) bc (fun k => xs (S + k)))
    (hx : ∀ i, i < 20 → 0 ≤ xs i ∧ xs i ≤ 255) : AboutM w kind xs l (.returned (.tuple #[.agg #[.int .i64 (mkIp xs S U).tos, .int .i64 (mkIp xs S U).id, .bool (mkIp xs S U).df, .bool (mkIp xs S U).mf, .int .i64 (mkIp xs S U).off, .int .i64 (mkIp xs S U).ttl, .int .i64 (mkIp xs S U).proto, .int .u32 (mkIp xs S U).src, .int .u32 (mkIp xs S U).dst, .slice oo (mkIp xs S U).ol oc, .slice ob (mkIp xs S U).bl bc], .int .i64 0])) w' := by
  subst hS hU
  have x12 := hx 12 (by omega); have x13 := hx 13 (by omega); have x14 := hx 14 (by omega); have x15 := hx 15 (by omega)
  have x16 := hx 16 (by omega); have x17 := hx 17 (by omega); have x18 := hx 18 (by omega); have x19 := hx 19 (by omega)
  exact ⟨aboutIp xs l, oo, ob, oc, bc, by rw [h]; rfl, hj, ⟨ho, hb, by simp only [aboutIp, mkIp]; omega, by simp only [aboutIp, mkIp]; omega⟩, .inl ⟨h, rfl⟩⟩
structure WholeOk (xs : Nat → Int) (l : Nat) : Prop where
  l20 : 20 ≤ l
  ver : xs 0 / 16 = 4
  s20 : 20 ≤ ipSize xs
  sl : ipSize xs ≤ l
  st : ipSize xs ≤ ipTotal xs
  sum : sumN xs (ipSize xs) = 65535
  told : ¬ (l < ipSize xs + 8 ∧ l < ipTotal xs)
theorem wholeErr_zero {xs : Nat → Int} {l : Nat} (h : wholeErr xs l = 0) : WholeOk xs l := by
  unfold wholeErr at h
  split at h
  · cases h
  · split at h
    · cases h
    · split at h
      · cases h
      · split at h
        · cases h
        · split at h
          · cases h
          · rename_i h1 h2 h3 h4 h5
            have h2' : xs 0 / 16 = 4 ∧ 20 ≤ ipSize xs ∧ ipSize xs ≤ l := Decidable.of_not_not h2
            exact ⟨by omega, h2'.1, h2'.2.1, h2'.2.2, Decidable.of_not_not h3, Decidable.of_not_not h4, h5⟩
set_option maxHeartbeats 4000000 in
theorem about_any (kind code rest : Int) (oa : Option Addr) (l c : Nat) (xs : Nat → Int) (w : World) (hl : l ≤ 100000000) (hB : Bts w oa l c xs) :
    Calls Try.prog 17 #[.agg #[.int .i64 kind, .int .i64 code, .int .u32 rest, .slice oa l c]] w (AboutM w kind xs l) := by
  have HB := Lib.hid hB
  cases a1 : errorB kind with
  | false =>
    clear hB
    go_enter Try.func17, Try.ntmps17
    go_wp2_with (first | (go_at_call 39; refine (error_any _ _ _ _ _).mono ?_; rintro e w' ⟨rfl, ⟨osj, dj, rfl⟩⟩))
    go_returns
    exact aboutM_bad (by unfold aboutErr; rw [if_pos a1]) (by decide) (by ((try simp only [World.junk_junk, Array.append_assoc]); (repeat (first | with_reducible exact Junk.refl _ | with_reducible exact Junk.app _ _ _ _ _ | with_reducible exact Junk.app2 _ _ _ _ _ _ | with_reducible exact Junk.app3 _ _ _ _ _ _ _ | with_reducible exact Junk.app4 _ _ _ _ _ _ _ _ | with_reducible exact Junk.app5 _ _ _ _ _ _ _ _ _ | with_reducible apply Junk.alloc | with_reducible apply Junk.junk | with_reducible apply Junk.drew | with_reducible apply Junk.drewN))))
  | true =>
  by_cases hz : wholeErr xs l = 0
  case neg =>
    have he : (wholeErr xs l != 0) = true := by simp [hz]
    have HZ := Lib.hid hz
    clear hz hB
    go_enter Try.func17, Try.ntmps17
    go_wp2_with (first | (go_at_call 39; refine (error_any _ _ _ _ _).mono ?_; rintro e w' ⟨rfl, ⟨osj, dj, rfl⟩⟩) | (go_at_call 40; refine (whole_any oa l c xs _ hl (HB.out.on (by ((try simp only [World.junk_junk, Array.append_assoc]); (repeat (first | with_reducible exact Junk.refl _ | with_reducible exact Junk.app _ _ _ _ _ | with_reducible exact Junk.app2 _ _ _ _ _ _ | with_reducible exact Junk.app3 _ _ _ _ _ _ _ | with_reducible exact Junk.app4 _ _ _ _ _ _ _ _ | with_reducible exact Junk.app5 _ _ _ _ _ _ _ _ _ | with_reducible apply Junk.alloc | with_reducible apply Junk.junk | with_reducible apply Junk.drew | with_reducible apply Junk.drewN)))))).mono ?_; intro e w' hp; obtain ⟨rfl, ⟨osj2, dj2, rfl⟩⟩ := hp.bad HZ.out; clear hp))
    go_returns
    exact aboutM_bad (by unfold aboutErr; rw [if_neg (by simp [a1])]) HZ.out (by ((try simp only [World.junk_junk, Array.append_assoc]); (repeat (first | with_reducible exact Junk.refl _ | with_reducible exact Junk.app _ _ _ _ _ | with_reducible exact Junk.app2 _ _ _ _ _ _ | with_reducible exact Junk.app3 _ _ _ _ _ _ _ | with_reducible exact Junk.app4 _ _ _ _ _ _ _ _ | with_reducible exact Junk.app5 _ _ _ _ _ _ _ _ _ | with_reducible apply Junk.alloc | with_reducible apply Junk.junk | with_reducible apply Junk.drew | with_reducible apply Junk.drewN))))
  have K := wholeErr_zero hz
  have he : (wholeErr xs l != 0) = false := by simp [hz]
  obtain ⟨k1, _, k2, k3, k4, _, k6⟩ := K
  have hlc := hB.le
  have hcm := hB.cap
  have x0 := hB.byte 0 (by omega); have x1 := hB.byte 1 (by omega); have x2 := hB.byte 2 (by omega); have x3 := hB.byte 3 (by omega); have x4 := hB.byte 4 (by omega); have x5 := hB.byte 5 (by omega); have x6 := hB.byte 6 (by omega); have x7 := hB.byte 7 (by omega); have x8 := hB.byte 8 (by omega); have x9 := hB.byte 9 (by omega); have x12 := hB.byte 12 (by omega); have x13 := hB.byte 13 (by omega); have x14 := hB.byte 14 (by omega); have x15 := hB.byte 15 (by omega); have x16 := hB.byte 16 (by omega); have x17 := hB.byte 17 (by omega); have x18 := hB.byte 18 (by omega); have x19 := hB.byte 19 (by omega)
  have hsz : ((ipSize xs : Nat) : Int) = xs 0 % 16 * 4 := by unfold ipSize; omega
  have htt : ((ipTotal xs : Nat) : Int) = xs 2 * 256 + xs 3 := by unfold ipTotal; omega
  obtain ⟨b, off, rfl, hblk, _⟩ := hB.at_ 0 (by omega)
  obtain ⟨S, hS⟩ : ∃ S, S = ipSize xs := ⟨_, rfl⟩
  obtain ⟨T, hT⟩ : ∃ T, T = ipTotal xs := ⟨_, rfl⟩
  rw [← hS] at k2 k3 k4 k6 hsz
  rw [← hT] at k4 k6 htt
  obtain ⟨U, hU⟩ : ∃ U, U = min T l := ⟨_, rfl⟩
  have u1 : min (T : Int) (l : Int) = (U : Int) := by omega
  have u2 : U ≤ l := by omega
  have u3 : S ≤ U := by omega
  have e1 : xs 0 % 16 * 4 = (S : Int) := hsz.symm
  have e2 : xs 2 * 256 + xs 3 = (T : Int) := htt.symm
  have ES := Lib.hid hS
  have EU := Lib.hid (show U = min (ipTotal xs) l by rw [hU, hT])
  have HZ := Lib.hid hz
  have Hx := Lib.hid (fun i (hi : i < l) => hB.byte i hi)
  clear hz hS hT hU hB hsz htt k6
  have b1 : S ≤ 60 := by omega
  have b2 : T ≤ 65535 := by omega
  have hfl : xs 6 * 256 + xs 7 = ipFlags xs := rfl
  have f1 : 0 ≤ ipFlags xs := by unfold ipFlags; omega
  have f2 : ipFlags xs ≤ 65535 := by unfold ipFlags; omega
  have g1 := bit_i64_14 (ipFlags xs) f1 (by omega)
  have g2 := bit_i64_13 (ipFlags xs) f1 (by omega)
  have g3 := and_i64_13 (ipFlags xs) f1 (by omega)
  have g4 : (ipFlags xs / 16384 % 2 * 16384 != 0) = (ipFlags xs / 16384 % 2 == 1) := by rw [Bool.eq_iff_iff]; simp; omega
  have g5 : (ipFlags xs / 8192 % 2 * 8192 != 0) = (ipFlags xs / 8192 % 2 == 1) := by rw [Bool.eq_iff_iff]; simp; omega
  have a0 := and_u8_4 (xs 0) (by omega) (by omega)
  have o1 := or_i64 8 (xs 2 * 256) (xs 3) (by omega) (by omega) (by omega) (by omega) (by omega) (by omega)
  have o2 := or_i64 8 (xs 6 * 256) (xs 7) (by omega) (by omega) (by omega) (by omega) (by omega) (by omega)
  have o3 := or_i64 8 (xs 4 * 256) (xs 5) (by omega) (by omega) (by omega) (by omega) (by omega) (by omega)
  have r1 := or_u32 24 (xs 12 * 16777216) (xs 13 * 65536) (by omega) (by omega) (by omega) (by omega) (by omega) (by omega)
  have r2 := or_u32 16 (xs 12 * 16777216 + xs 13 * 65536) (xs 14 * 256) (by omega) (by omega) (by omega) (by omega) (by omega) (by omega)
  have r3 : bits .or .u32 (xs 12 * 16777216 + xs 13 * 65536 + xs 14 * 256) (xs 15) = (xs 12 * 256 + xs 13) * 65536 + (xs 14 * 256 + xs 15) := (or_u32 8 (xs 12 * 16777216 + xs 13 * 65536 + xs 14 * 256) (xs 15) (by omega) (by omega) (by omega) (by omega) (by omega) (by omega)).trans (by omega)
  have r4 := or_u32 24 (xs 16 * 16777216) (xs 17 * 65536) (by omega) (by omega) (by omega) (by omega) (by omega) (by omega)
  have r5 := or_u32 16 (xs 16 * 16777216 + xs 17 * 65536) (xs 18 * 256) (by omega) (by omega) (by omega) (by omega) (by omega) (by omega)
  have r6 : bits .or .u32 (xs 16 * 16777216 + xs 17 * 65536 + xs 18 * 256) (xs 19) = (xs 16 * 256 + xs 17) * 65536 + (xs 18 * 256 + xs 19) := (or_u32 8 (xs 16 * 16777216 + xs 17 * 65536 + xs 18 * 256) (xs 19) (by omega) (by omega) (by omega) (by omega) (by omega) (by omega)).trans (by omega)
  have js : (S : Int) ≤ (U : Int) := by omega
  have jt : (U : Int) ≤ (c : Int) := by omega
  have j20 : (20 : Int) ≤ (S : Int) := by omega
  have Hfl := Lib.hid hfl
  go_enter Try.func17, Try.ntmps17
  go_wp2_with (first | (go_at_call 39; refine (error_any _ _ _ _ _).mono ?_; rintro e w' ⟨rfl, ⟨osj, dj, rfl⟩⟩) | (go_at_call 40; (try simp only [World.junk_junk]); refine calls_gen (fun osA dA => ?_); refine (whole_any _ l c xs _ hl (HB.out.on (by ((try simp only [World.junk_junk, Array.append_assoc]); (repeat (first | with_reducible exact Junk.refl _ | with_reducible exact Junk.app _ _ _ _ _ | with_reducible exact Junk.app2 _ _ _ _ _ _ | with_reducible exact Junk.app3 _ _ _ _ _ _ _ | with_reducible exact Junk.app4 _ _ _ _ _ _ _ _ | with_reducible exact Junk.app5 _ _ _ _ _ _ _ _ _ | with_reducible apply Junk.alloc | with_reducible apply Junk.junk | with_reducible apply Junk.drew | with_reducible apply Junk.drewN)))))).mono ?_; intro e w' hp; obtain ⟨ob, lb, cb, rfl, ⟨osj, dj, rfl⟩, hlb, hcb, hcbm, hbb, hfr⟩ := hp.ok HZ.out; clear hp; obtain ⟨g, goff, rfl, hgS, _⟩ := hbb.at_ 0 (by omega); have hv0 := fun os d => (World.cell?_junk _ os d g _ hgS).trans (bts_cell hbb 0 (by omega)).2; have hv1 := fun os d => (World.cell?_junk _ os d g _ hgS).trans (bts_cell hbb 1 (by omega)).2; have hv2 := fun os d => (World.cell?_junk _ os d g _ hgS).trans (bts_cell hbb 2 (by omega)).2; have hv3 := fun os d => (World.cell?_junk _ os d g _ hgS).trans (bts_cell hbb 3 (by omega)).2; have hv4 := fun os d => (World.cell?_junk _ os d g _ hgS).trans (bts_cell hbb 4 (by omega)).2; have hv5 := fun os d => (World.cell?_junk _ os d g _ hgS).trans (bts_cell hbb 5 (by omega)).2; have hv6 := fun os d => (World.cell?_junk _ os d g _ hgS).trans (bts_cell hbb 6 (by omega)).2; have hv7 := fun os d => (World.cell?_junk _ os d g _ hgS).trans (bts_cell hbb 7 (by omega)).2; have hv8 := fun os d => (World.cell?_junk _ os d g _ hgS).trans (bts_cell hbb 8 (by omega)).2; have hv9 := fun os d => (World.cell?_junk _ os d g _ hgS).trans (bts_cell hbb 9 (by omega)).2; have hv12 := fun os d => (World.cell?_junk _ os d g _ hgS).trans (bts_cell hbb 12 (by omega)).2; have hv13 := fun os d => (World.cell?_junk _ os d g _ hgS).trans (bts_cell hbb 13 (by omega)).2; have hv14 := fun os d => (World.cell?_junk _ os d g _ hgS).trans (bts_cell hbb 14 (by omega)).2; have hv15 := fun os d => (World.cell?_junk _ os d g _ hgS).trans (bts_cell hbb 15 (by omega)).2; have hv16 := fun os d => (World.cell?_junk _ os d g _ hgS).trans (bts_cell hbb 16 (by omega)).2; have hv17 := fun os d => (World.cell?_junk _ os d g _ hgS).trans (bts_cell hbb 17 (by omega)).2; have hv18 := fun os d => (World.cell?_junk _ os d g _ hgS).trans (bts_cell hbb 18 (by omega)).2; have hv19 := fun os d => (World.cell?_junk _ os d g _ hgS).trans (bts_cell hbb 19 (by omega)).2; have hgB : ∀ k, g < w.heap.size + 1 + 1 + (osA.size + (osj.size + k)) := (fun k => by simp at hgS; omega); have HBB := Lib.hid hbb; clear hbb; simp only [World.junk_junk, Array.append_assoc] at hv0 hv1 hv2 hv3 hv4 hv5 hv6 hv7 hv8 hv9 hv12 hv13 hv14 hv15 hv16 hv17 hv18 hv19 hgS ⊢))
  simp only [Nat.add_zero] at hv0
  have hw0 := fun d => hv0 #[] d
  have hw1 := fun d => hv1 #[] d
  have hw2 := fun d => hv2 #[] d
  have hw3 := fun d => hv3 #[] d
  have hw4 := fun d => hv4 #[] d
  have hw5 := fun d => hv5 #[] d
  have hw6 := fun d => hv6 #[] d
  have hw7 := fun d => hv7 #[] d
  have hw8 := fun d => hv8 #[] d
  have hw9 := fun d => hv9 #[] d
  have hw12 := fun d => hv12 #[] d
  have hw13 := fun d => hv13 #[] d
  have hw14 := fun d => hv14 #[] d
  have hw15 := fun d => hv15 #[] d
  have hw16 := fun d => hv16 #[] d
  have hw17 := fun d => hv17 #[] d
  have hw18 := fun d => hv18 #[] d
  have hw19 := fun d => hv19 #[] d
  simp only [Array.append_empty] at hw0 hw1 hw2 hw3 hw4 hw5 hw6 hw7 hw8 hw9 hw12 hw13 hw14 hw15 hw16 hw17 hw18 hw19
  have hgC : g < w.heap.size + 1 + 1 + (osA.size + osj.size) := by have := hgB 0; omega
  have jc : (S : Int) ≤ (cb : Int) := by omega
  have i0 : 0 < lb := by omega
  have j0 : (0 : Int) < (lb : Int) := by omega
  have i1 : 1 < lb := by omega
  have j1 : (1 : Int) < (lb : Int) := by omega
  have i2 : 2 < lb := by omega
  have j2 : (2 : Int) < (lb : Int) := by omega
  have i3 : 3 < lb := by omega
  have j3 : (3 : Int) < (lb : Int) := by omega
  have i4 : 4 < lb := by omega
  have j4 : (4 : Int) < (lb : Int) := by omega
  have i5 : 5 < lb := by omega
  have j5 : (5 : Int) < (lb : Int) := by omega
  have i6 : 6 < lb := by omega
  have j6 : (6 : Int) < (lb : Int) := by omega
  have i7 : 7 < lb := by omega
  have j7 : (7 : Int) < (lb : Int) := by omega
  have i8 : 8 < lb := by omega
  have j8 : (8 : Int) < (lb : Int) := by omega
  have i9 : 9 < lb := by omega
  have j9 : (9 : Int) < (lb : Int) := by omega
  have i12 : 12 < lb := by omega
  have j12 : (12 : Int) < (lb : Int) := by omega
  have i13 : 13 < lb := by omega
  have j13 : (13 : Int) < (lb : Int) := by omega
  have i14 : 14 < lb := by omega
  have j14 : (14 : Int) < (lb : Int) := by omega
  have i15 : 15 < lb := by omega
  have j15 : (15 : Int) < (lb : Int) := by omega
  have i16 : 16 < lb := by omega
  have j16 : (16 : Int) < (lb : Int) := by omega
  have i17 : 17 < lb := by omega
  have j17 : (17 : Int) < (lb : Int) := by omega
  have i18 : 18 < lb := by omega
  have j18 : (18 : Int) < (lb : Int) := by omega
  have i19 : 19 < lb := by omega
  have j19 : (19 : Int) < (lb : Int) := by omega
  refine wp_region_junk (by kernel_rfl) (by kernel_rfl) ?_; (repeat (refine wpQuiet_step (fun K hK => ?_); (go_simp; try go_bits); first | (refine hK _ ?_; clear hK K) | (apply Exists.intro; refine ⟨fun _ => ?_, hK _ ?_⟩; (first | fail); clear hK K))); refine wpQuiet_nil ?_; rintro _ ⟨⟨osq6, dq6⟩, rfl⟩
  go_wp2
  refine wp_region_junk (by kernel_rfl) (by kernel_rfl) ?_; (repeat (refine wpQuiet_step (fun K hK => ?_); (go_simp; try go_bits); first | (refine hK _ ?_; clear hK K) | (apply Exists.intro; refine ⟨fun _ => ?_, hK _ ?_⟩; (first | fail); clear hK K))); refine wpQuiet_nil ?_; rintro _ ⟨⟨osq7, dq7⟩, rfl⟩
  go_wp2
  (try simp only [World.junk_junk, Array.append_assoc])
  refine wp_region_mixj (((w.alloc (.cells #[.int .i64 kind, .int .i64 code, .int .u32 rest, .slice (some ⟨b, off, none⟩) l c] 25)).alloc (.cells #[.int .i64 0, .int .i64 0, .bool false, .bool false, .int .i64 0, .int .i64 0, .int .i64 0, .int .u32 0, .int .u32 0, .slice none 0 0, .slice none 0 0] 43)).junk (osA ++ (osj ++ (osq6 ++ osq7))) dq7) [(0, true), (1, true), (2, true), (3, true), (4, true), (5, true), (6, true), (7, true), (8, true), (9, true), (10, true), (11, true), (12, true), (13, true), (14, true), (15, true), (16, true), (17, true), (18, true), (19, true), (20, true), (21, true), (22, true), (23, true), (24, true), (25, true), (26, true), (27, true), (28, true), (29, true), (30, true), (31, true), (32, false), (33, false)] (by kernel_rfl) (by kernel_rfl) (by (repeat (first | with_reducible exact Junk.refl _ | with_reducible exact Junk.app _ _ _ _ _ | with_reducible exact Junk.app2 _ _ _ _ _ _ | with_reducible exact Junk.app3 _ _ _ _ _ _ _ | with_reducible exact Junk.app4 _ _ _ _ _ _ _ _ | with_reducible apply Junk.alloc | with_reducible apply Junk.junk | with_reducible apply Junk.drew | with_reducible apply Junk.drewN))) ?_; (iterate 32 (refine wpMix_q rfl (fun K hK => ?_); (go_simp; try go_bits); (refine hK _ ?_; clear hK K))); refine wpMix_e rfl (fun osm8_0 dm8_0 K hK => ?_); (go_simp; try go_bits); refine hK _ _ (Junk.pair (by (repeat (first | with_reducible exact Junk.refl _ | with_reducible exact Junk.app _ _ _ _ _ | with_reducible exact Junk.app2 _ _ _ _ _ _ | with_reducible exact Junk.app3 _ _ _ _ _ _ _ | with_reducible exact Junk.app4 _ _ _ _ _ _ _ _ | with_reducible apply Junk.alloc | with_reducible apply Junk.junk | with_reducible apply Junk.drew | with_reducible apply Junk.drewN | (with_reducible refine Junk.setCell ?_ (by simp) _))))) ?_; clear hK K; refine wpMix_e rfl (fun osm8_1 dm8_1 K hK => ?_); (go_simp; try go_bits); refine hK _ _ (Junk.pair (by (repeat (first | with_reducible exact Junk.refl _ | with_reducible exact Junk.app _ _ _ _ _ | with_reducible exact Junk.app2 _ _ _ _ _ _ | with_reducible exact Junk.app3 _ _ _ _ _ _ _ | with_reducible exact Junk.app4 _ _ _ _ _ _ _ _ | with_reducible apply Junk.alloc | with_reducible apply Junk.junk | with_reducible apply Junk.drew | with_reducible apply Junk.drewN | (with_reducible refine Junk.setCell ?_ (by simp) _))))) ?_; clear hK K; refine wpMix_nil (fun osm dm => ?_)
  go_wp2
  (try simp only [World.junk_junk, Array.append_assoc]); refine wp_gen (fun osB dB => ?_)
  refine wp_region_mixj (((w.alloc (.cells #[.int .i64 kind, .int .i64 code, .int .u32 rest, .slice (some ⟨b, off, none⟩) l c] 25)).alloc (.cells #[.int .i64 0, .int .i64 0, .bool false, .bool false, .int .i64 0, .int .i64 0, .int .i64 0, .int .u32 0, .int .u32 0, .slice none 0 0, .slice none 0 0] 43)).junk (osA ++ (osj ++ (osq6 ++ (osq7 ++ osm8_0)))) dm8_0) [(0, true), (1, true), (2, true), (3, true), (4, true), (5, true), (6, true), (7, true), (8, true), (9, true), (10, true), (11, true), (12, true), (13, true), (14, true), (15, true), (16, true), (17, true), (18, true), (19, true), (20, true), (21, true), (22, true), (23, false)] (by kernel_rfl) (by kernel_rfl) (by (repeat (first | with_reducible exact Junk.refl _ | with_reducible exact Junk.app _ _ _ _ _ | with_reducible exact Junk.app2 _ _ _ _ _ _ | with_reducible exact Junk.app3 _ _ _ _ _ _ _ | with_reducible exact Junk.app4 _ _ _ _ _ _ _ _ | with_reducible apply Junk.alloc | with_reducible apply Junk.junk | with_reducible apply Junk.drew | with_reducible apply Junk.drewN))) ?_; (iterate 23 (refine wpMix_q rfl (fun K hK => ?_); (go_simp; try go_bits); (refine hK _ ?_; clear hK K))); refine wpMix_e rfl (fun osm9_0 dm9_0 K hK => ?_); (go_simp; try go_bits); refine hK _ _ (Junk.pair (by (repeat (first | with_reducible exact Junk.refl _ | with_reducible exact Junk.app _ _ _ _ _ | with_reducible exact Junk.app2 _ _ _ _ _ _ | with_reducible exact Junk.app3 _ _ _ _ _ _ _ | with_reducible exact Junk.app4 _ _ _ _ _ _ _ _ | with_reducible apply Junk.alloc | with_reducible apply Junk.junk | with_reducible apply Junk.drew | with_reducible apply Junk.drewN | (with_reducible refine Junk.setCell ?_ (by simp) _))))) ?_; clear hK K; refine wpMix_nil (fun osm dm => ?_)
  go_wp2
  (try simp only [World.junk_junk, Array.append_assoc]); refine wp_gen (fun osC dC => ?_)
  refine wp_region_mixj (((w.alloc (.cells #[.int .i64 kind, .int .i64 code, .int .u32 rest, .slice (some ⟨b, off, none⟩) l c] 25)).alloc (.cells #[.int .i64 0, .int .i64 0, .bool false, .bool false, .int .i64 0, .int .i64 0, .int .i64 0, .int .u32 0, .int .u32 0, .slice none 0 0, .slice none 0 0] 43)).junk (osA ++ (osj ++ (osq6 ++ (osq7 ++ osm8_0)))) dm8_0) [(0, true), (1, true), (2, true), (3, true), (4, true), (5, true), (6, true), (7, true), (8, true), (9, true), (10, true), (11, true), (12, true), (13, true), (14, true), (15, true), (16, true), (17, true), (18, true), (19, true), (20, true), (21, true), (22, true), (23, false)] (by kernel_rfl) (by kernel_rfl) (by (repeat (first | with_reducible exact Junk.refl _ | with_reducible exact Junk.app _ _ _ _ _ | with_reducible exact Junk.app2 _ _ _ _ _ _ | with_reducible exact Junk.app3 _ _ _ _ _ _ _ | with_reducible exact Junk.app4 _ _ _ _ _ _ _ _ | with_reducible apply Junk.alloc | with_reducible apply Junk.junk | with_reducible apply Junk.drew | with_reducible apply Junk.drewN))) ?_; (iterate 23 (refine wpMix_q rfl (fun K hK => ?_); (go_simp; try go_bits); (refine hK _ ?_; clear hK K))); refine wpMix_e rfl (fun osm10_0 dm10_0 K hK => ?_); (go_simp; try go_bits); refine hK _ _ (Junk.pair (by (repeat (first | with_reducible exact Junk.refl _ | with_reducible exact Junk.app _ _ _ _ _ | with_reducible exact Junk.app2 _ _ _ _ _ _ | with_reducible exact Junk.app3 _ _ _ _ _ _ _ | with_reducible exact Junk.app4 _ _ _ _ _ _ _ _ | with_reducible apply Junk.alloc | with_reducible apply Junk.junk | with_reducible apply Junk.drew | with_reducible apply Junk.drewN | (with_reducible refine Junk.setCell ?_ (by simp) _))))) ?_; clear hK K; refine wpMix_nil (fun osm dm => ?_)
  (try simp only [World.junk_junk, Array.append_assoc]); refine then_gen (fun osD dD => ?_)
  go_wp2_with (first | (go_at_call 41; first | ((with_reducible refine (clone_any _ _ _ _ _ (by omega) ((bts_sub HBB.out 20 S (by omega) (by omega)).on (by ((try simp only [World.junk_junk, Array.append_assoc]); (repeat (first | with_reducible exact Junk.refl _ | with_reducible exact Junk.app _ _ _ _ _ | with_reducible exact Junk.app2 _ _ _ _ _ _ | with_reducible exact Junk.app3 _ _ _ _ _ _ _ | with_reducible exact Junk.app4 _ _ _ _ _ _ _ _ | with_reducible exact Junk.app5 _ _ _ _ _ _ _ _ _ | with_reducible apply Junk.alloc | with_reducible apply Junk.junk | with_reducible apply Junk.drew | with_reducible apply Junk.drewN)))))).mono ?_); rintro e w' ⟨oc1, cc1, rfl, ⟨osj1, dj1, rfl⟩, hcb, hcn, hcf⟩; (try simp only [World.junk_junk, Array.append_assoc] at hcb); have Hcb1 := Lib.hid hcb; have Hcf1 := Lib.hid hcf; clear hcb hcn hcf; (try generalize (if cb = 20 then (some (⟨g, goff, none⟩ : Addr)) else some ⟨g, goff + 20, none⟩) = dp20)) | ((refine (clone_any _ _ _ _ _ (by omega) ((bts_sub HB.out S U (by omega) (by omega)).on (by ((try simp only [World.junk_junk, Array.append_assoc]); (repeat (first | with_reducible exact Junk.refl _ | with_reducible exact Junk.app _ _ _ _ _ | with_reducible exact Junk.app2 _ _ _ _ _ _ | with_reducible exact Junk.app3 _ _ _ _ _ _ _ | with_reducible exact Junk.app4 _ _ _ _ _ _ _ _ | with_reducible exact Junk.app5 _ _ _ _ _ _ _ _ _ | with_reducible apply Junk.alloc | with_reducible apply Junk.junk | with_reducible apply Junk.drew | with_reducible apply Junk.drewN)))))).mono ?_; rintro e w' ⟨oc2, cc2, rfl, ⟨osj2, dj2, rfl⟩, hcb, hcn, hcf⟩; (try simp only [World.junk_junk, Array.append_assoc] at hcb); have Hcb2 := Lib.hid hcb; have Hcf2 := Lib.hid hcf; clear hcb hcn hcf; (try generalize (if c = S then (some (⟨b, off, none⟩ : Addr)) else some ⟨b, off + S, none⟩) = dpS)))))
  go_returns
  exact aboutM_ok (by unfold aboutErr; rw [if_neg (by simp [a1])]; exact HZ.out) (by ((try simp only [World.junk_junk, Array.append_assoc]); (repeat (first | with_reducible exact Junk.refl _ | with_reducible exact Junk.app _ _ _ _ _ | with_reducible exact Junk.app2 _ _ _ _ _ _ | with_reducible exact Junk.app3 _ _ _ _ _ _ _ | with_reducible exact Junk.app4 _ _ _ _ _ _ _ _ | with_reducible exact Junk.app5 _ _ _ _ _ _ _ _ _ | with_reducible apply Junk.alloc | with_reducible apply Junk.junk | with_reducible apply Junk.drew | with_reducible apply Junk.drewN)))) ES.out EU.out (bts_over2 (by simp) Hcb1.out (Hcf1.out.lower (by simp)) ⟨_, by repeat rw [Array.append_assoc]⟩) (bts_over2 (by simp) Hcb2.out (Hcf2.out.lower (by simp)) ⟨#[], by simp⟩) (fun i hi => Hx.out i (by omega))
end Go.Proofs.Ytnefphinmjeacaa
