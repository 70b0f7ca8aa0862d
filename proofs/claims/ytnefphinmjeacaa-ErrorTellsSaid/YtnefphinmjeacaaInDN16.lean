/- inner's turn of the side at 16 (not about an icmp). -/
import Derived.Test.YtnefphinmjeacaaInP
import Derived.Deep.DeepCutAuto
import Derived.Deep.CutBlock
set_option linter.unusedVariables false
set_option maxRecDepth 100000
set_option linter.unusedSimpArgs false
namespace Go.Proofs.Ytnefphinmjeacaa
open Go.RowKit
set_option maxHeartbeats 8000000 in
theorem turnN16_any (kind code rest addr port : Int) (oa : Option Addr) (l c : Nat) (xs : Nat → Int) (w : World) (hl : l ≤ 100000000) (hB : Bts w oa l c xs) (haddr : 0 ≤ addr ∧ addr ≤ 4294967295) (h0 : nmErr kind xs l = 0) (hport : 0 ≤ port ∧ port ≤ 65535) (hic : ¬ (aboutIp xs l).proto = 1) :
    Calls Try.prog 35 #[.agg #[.int .i64 16, .int .i64 2], .agg #[.int .i64 kind, .int .i64 code, .int .u32 rest, .slice oa l c], .int .u32 addr, .int .i64 port] w (TnM w kind code rest (tnErr kind xs l port) l (tnB xs l 16 2 addr port)) := by
  have HB := Lib.hid hB
  obtain ⟨t, ht⟩ : ∃ t, nmTup xs l = t := ⟨_, rfl⟩
  have HNM := Lib.hid (fun w1 (hb : Bts w1 oa l c xs) => show Calls Try.prog 11 #[.agg #[.int .i64 kind, .int .i64 code, .int .u32 rest, .slice oa l c]] w1 fun e w' => e = .returned (.tuple #[.agg #[.int .i64 t.proto, .int .u32 t.src, .int .i64 t.sport, .int .u32 t.dst, .int .i64 t.dport], .int .i64 0]) ∧ Junk w1 w' by rw [← ht]; exact (names_any kind code rest oa l c xs w1 hl hb).mono fun e w' hp => hp.ok h0)
  obtain ⟨hk, hW, hoff, hbl, hpr⟩ := nmErr_zero h0
  have HE := Lib.hid (show tnErr kind xs l port = 0 by unfold tnErr; rw [if_neg (by rw [h0]; decide), if_neg (by omega)])
  obtain ⟨hp0, hp1⟩ := hport
  have hp0' : ¬ port < 0 := by omega
  have hp1' : ¬ 65535 < port := by omega
  have hW20 := hW.l20
  obtain ⟨ad, rfl⟩ : ∃ ad, oa = some ad := by
    obtain ⟨b, off, he, _⟩ := hB.at_ 0 (by omega)
    exact ⟨_, he⟩
  have HX := Lib.hid hB.byte
  have HWH := Lib.hid hW
  obtain ⟨S, hS⟩ : ∃ S, ipSize xs = S := ⟨_, rfl⟩
  obtain ⟨T, hT⟩ : ∃ T, ipTotal xs = T := ⟨_, rfl⟩
  obtain ⟨U, hU⟩ : ∃ U, min T l = U := ⟨_, rfl⟩
  have hblU : (aboutIp xs l).bl = U - S := by show min (ipTotal xs) l - ipSize xs = U - S; rw [hS, hT, hU]
  have hSl := hW.sl
  have hST := hW.st
  have hS20 := hW.s20
  have x0 := hB.byte 0 (by omega)
  have x1 := hB.byte 1 (by omega)
  have x2 := hB.byte 2 (by omega)
  have x3 := hB.byte 3 (by omega)
  have hS60 : ipSize xs ≤ 60 := by unfold ipSize; omega
  have e0 : xs 0 % 16 * 4 = (S : Int) := by rw [← hS]; unfold ipSize; omega
  have HTW := Lib.hid (show wd xs 2 = (T : Int) by show xs 2 * 256 + xs 3 = (T : Int); rw [← hT]; unfold ipTotal; omega)
  have hT64 : T ≤ 65535 := by rw [← hT]; unfold ipTotal; omega
  rw [hS] at hSl hST hS20 hS60
  rw [hT] at hST
  rw [hblU] at hbl
  have hUl : U ≤ l := by rw [← hU]; exact Nat.min_le_right _ _
  have hmin : (min (T : Int) (l : Int)).toNat = U := by omega
  have hSU : S + 8 ≤ U := by omega
  have hpt : t.proto = (aboutIp xs l).proto := by rw [← ht]; rfl
  have HPT := Lib.hid hpt
  have HSS := Lib.hid hS
  have HPR := Lib.hid hpr
  have HPRC := Lib.hid (show (t.proto == 1) = false ∧ tnAt (aboutIp xs l) 2 = 2 by
    unfold tnAt
    rw [hpt]
    simp [hic])
  have HBLU := Lib.hid hblU
  have c0 : (0 : Int) < (l : Int) := by omega
  have c0' : 0 < l := by omega
  have c2 : (2 : Int) ≤ (l : Int) := by omega
  have s1 : (0 : Int) ≤ (S : Int) := by omega
  have s2 : (S : Int) ≤ (U : Int) := by omega
  have s10 : (10 : Int) ≤ (S : Int) := by omega
  have sA : (16 : Int) ≤ (S : Int) := by omega
  have sA2 : (18 : Int) ≤ (S : Int) := by omega
  have n2 : ¬ S = 2 := by omega
  have aw1 := wrapk_u16 (addr / 65536) (by omega) (by omega)
  have aw2 : IntKind.u16.wrap addr = addr % 65536 := IntKind.wrap_u16 _
  have pw := wrapk_u16 port (by omega) (by omega)
  have x0b : IntKind.i64.wrap (xs 0 % 16) = xs 0 % 16 := wrapk_i64 _ (by omega) (by omega)
  have x0c : IntKind.i64.wrap (xs 0 % 16 * 4) = xs 0 % 16 * 4 := wrapk_i64 _ (by omega) (by omega)
  clear hB h0 ht hk hW hoff hpr hS hT hU hblU hpt
  go_enter Try.func35, Try.ntmps35
  go_upto_region 7 with (first | (go_at_call 11; (with_reducible refine (HNM.out _ (HB.out.on (by (first | ((repeat (first | with_reducible exact Junk.refl _ | with_reducible exact Junk.app _ _ _ _ _ | with_reducible apply Junk.alloc | with_reducible apply Junk.junk | with_reducible apply Junk.drew | with_reducible apply Junk.drewN)); done) | ((try simp only [World.junk_junk, Array.append_assoc]); (repeat (first | with_reducible exact Junk.refl _ | with_reducible exact Junk.app _ _ _ _ _ | with_reducible exact Junk.app2 _ _ _ _ _ _ | with_reducible exact Junk.app3 _ _ _ _ _ _ _ | with_reducible exact Junk.app4 _ _ _ _ _ _ _ _ | with_reducible exact Junk.app5 _ _ _ _ _ _ _ _ _ | with_reducible apply Junk.alloc | with_reducible apply Junk.junk | with_reducible apply Junk.drew | with_reducible apply Junk.drewN))))))).mono ?_); rintro e w' ⟨rfl, ⟨osN, dN, rfl⟩⟩) | (go_at_call 41; refine (clone_own ad l c xs _ hl (HB.out.on (by (first | ((repeat (first | with_reducible exact Junk.refl _ | with_reducible exact Junk.app _ _ _ _ _ | with_reducible apply Junk.alloc | with_reducible apply Junk.junk | with_reducible apply Junk.drew | with_reducible apply Junk.drewN)); done) | ((try simp only [World.junk_junk, Array.append_assoc]); (repeat (first | with_reducible exact Junk.refl _ | with_reducible exact Junk.app _ _ _ _ _ | with_reducible exact Junk.app2 _ _ _ _ _ _ | with_reducible exact Junk.app3 _ _ _ _ _ _ _ | with_reducible exact Junk.app4 _ _ _ _ _ _ _ _ | with_reducible exact Junk.app5 _ _ _ _ _ _ _ _ _ | with_reducible apply Junk.alloc | with_reducible apply Junk.junk | with_reducible apply Junk.drew | with_reducible apply Junk.drewN))))))).mono ?_; rintro e w' ⟨oc, cap, rfl, ⟨osC, dC, rfl⟩, hown⟩; have HOWN := Lib.hid hown; clear hown))
  obtain ⟨g, rfl, hgB, hgS, hcells⟩ := own_some HOWN.out (by omega)
  have hcap := HOWN.out.capLe
  have HS0 := Lib.hid (show St (fun _ => True) ((((((w.alloc (.cells #[.int .i64 16, .int .i64 2] 76)).alloc (.cells #[.int .i64 kind, .int .i64 code, .int .u32 rest, .slice (some ad) l c] 25)).alloc (.cells #[.int .i64 0, .int .i64 0, .int .u32 0, .slice none 0 0] 25))).junk osN dN).alloc (.cells #[.int .i64 t.proto, .int .u32 t.src, .int .i64 t.sport, .int .u32 t.dst, .int .i64 t.dport] 28)) (((((((w.alloc (.cells #[.int .i64 16, .int .i64 2] 76)).alloc (.cells #[.int .i64 kind, .int .i64 code, .int .u32 rest, .slice (some ad) l c] 25)).alloc (.cells #[.int .i64 0, .int .i64 0, .int .u32 0, .slice none 0 0] 25))).junk osN dN).alloc (.cells #[.int .i64 t.proto, .int .u32 t.src, .int .i64 t.sport, .int .u32 t.dst, .int .i64 t.dport] 28)).junk osC dC) g l cap xs from ⟨⟨_, _, rfl⟩, hgB, hgS, own_bts HOWN.out HX.out, fun i hi => (hcells i (.int .u8 (xs i)) (by rw [bytesL, List.getElem?_map, List.getElem?_range hi]; rfl)).2, trivial⟩)
  have hx0 : ∀ (os' : Array Obj) (d' : Nat), (((((((w.alloc (.cells #[.int .i64 16, .int .i64 2] 76)).alloc (.cells #[.int .i64 kind, .int .i64 code, .int .u32 rest, .slice (some ad) l c] 25)).alloc (.cells #[.int .i64 0, .int .i64 0, .int .u32 0, .slice none 0 0] 25))).junk osN dN).alloc (.cells #[.int .i64 t.proto, .int .u32 t.src, .int .i64 t.sport, .int .u32 t.dst, .int .i64 t.dport] 28)).junk (osC ++ os') d').cell? ⟨g, 0, none⟩ = some (.int .u8 (xs 0)) := fun os' d' => by
    rw [← World.junk_junk _ _ os' dC d', World.cell?_junk _ _ _ _ _ hgS]
    exact HS0.out.cell 0 c0'
  have m2 : ¬ cap = 2 := by omega
  have mS : ¬ cap = S := by omega
  have mA : ¬ cap = 16 := by omega
  have mA2 : ¬ cap = 18 := by omega
  have m10 : ¬ cap = 10 := by omega
  have lc : (l : Int) ≤ (cap : Int) := by omega
  have lS : (S : Int) ≤ (cap : Int) := by omega
  have lU : (U : Int) ≤ (cap : Int) := by omega
  clear hcells HOWN
  refine wp_region_junk (by kernel_rfl) (by kernel_rfl) ?_; (repeat (go_big_quiet_step (first | (go_at_call 31; first | with_reducible exact Calls.junk_of5 (in_get_v (HS0.out.on (keeps_true _) (by (first | ((repeat (first | with_reducible exact Junk.refl _ | with_reducible exact Junk.app _ _ _ _ _ | with_reducible apply Junk.alloc | with_reducible apply Junk.junk | with_reducible apply Junk.drew | with_reducible apply Junk.drewN)); done) | ((try simp only [World.junk_junk, Array.append_assoc]); (repeat (first | with_reducible exact Junk.refl _ | with_reducible exact Junk.app _ _ _ _ _ | with_reducible exact Junk.app2 _ _ _ _ _ _ | with_reducible exact Junk.app3 _ _ _ _ _ _ _ | with_reducible exact Junk.app4 _ _ _ _ _ _ _ _ | with_reducible exact Junk.app5 _ _ _ _ _ _ _ _ _ | with_reducible apply Junk.alloc | with_reducible apply Junk.junk | with_reducible apply Junk.drew | with_reducible apply Junk.drewN)))))) 2 (T : Int) HTW.out _ _ (by omega) (by omega)) | with_reducible exact Calls.junk_of4 (in_get_v (HS0.out.on (keeps_true _) (by (first | ((repeat (first | with_reducible exact Junk.refl _ | with_reducible exact Junk.app _ _ _ _ _ | with_reducible apply Junk.alloc | with_reducible apply Junk.junk | with_reducible apply Junk.drew | with_reducible apply Junk.drewN)); done) | ((try simp only [World.junk_junk, Array.append_assoc]); (repeat (first | with_reducible exact Junk.refl _ | with_reducible exact Junk.app _ _ _ _ _ | with_reducible exact Junk.app2 _ _ _ _ _ _ | with_reducible exact Junk.app3 _ _ _ _ _ _ _ | with_reducible exact Junk.app4 _ _ _ _ _ _ _ _ | with_reducible exact Junk.app5 _ _ _ _ _ _ _ _ _ | with_reducible apply Junk.alloc | with_reducible apply Junk.junk | with_reducible apply Junk.drew | with_reducible apply Junk.drewN)))))) 2 (T : Int) HTW.out _ _ (by omega) (by omega)) | with_reducible exact Calls.junk_of3 (in_get_v (HS0.out.on (keeps_true _) (by (first | ((repeat (first | with_reducible exact Junk.refl _ | with_reducible exact Junk.app _ _ _ _ _ | with_reducible apply Junk.alloc | with_reducible apply Junk.junk | with_reducible apply Junk.drew | with_reducible apply Junk.drewN)); done) | ((try simp only [World.junk_junk, Array.append_assoc]); (repeat (first | with_reducible exact Junk.refl _ | with_reducible exact Junk.app _ _ _ _ _ | with_reducible exact Junk.app2 _ _ _ _ _ _ | with_reducible exact Junk.app3 _ _ _ _ _ _ _ | with_reducible exact Junk.app4 _ _ _ _ _ _ _ _ | with_reducible exact Junk.app5 _ _ _ _ _ _ _ _ _ | with_reducible apply Junk.alloc | with_reducible apply Junk.junk | with_reducible apply Junk.drew | with_reducible apply Junk.drewN)))))) 2 (T : Int) HTW.out _ _ (by omega) (by omega)) | with_reducible exact Calls.junk_of2 (in_get_v (HS0.out.on (keeps_true _) (by (first | ((repeat (first | with_reducible exact Junk.refl _ | with_reducible exact Junk.app _ _ _ _ _ | with_reducible apply Junk.alloc | with_reducible apply Junk.junk | with_reducible apply Junk.drew | with_reducible apply Junk.drewN)); done) | ((try simp only [World.junk_junk, Array.append_assoc]); (repeat (first | with_reducible exact Junk.refl _ | with_reducible exact Junk.app _ _ _ _ _ | with_reducible exact Junk.app2 _ _ _ _ _ _ | with_reducible exact Junk.app3 _ _ _ _ _ _ _ | with_reducible exact Junk.app4 _ _ _ _ _ _ _ _ | with_reducible exact Junk.app5 _ _ _ _ _ _ _ _ _ | with_reducible apply Junk.alloc | with_reducible apply Junk.junk | with_reducible apply Junk.drew | with_reducible apply Junk.drewN)))))) 2 (T : Int) HTW.out _ _ (by omega) (by omega)) | with_reducible exact Calls.junk_of (in_get_v (HS0.out.on (keeps_true _) (by (first | ((repeat (first | with_reducible exact Junk.refl _ | with_reducible exact Junk.app _ _ _ _ _ | with_reducible apply Junk.alloc | with_reducible apply Junk.junk | with_reducible apply Junk.drew | with_reducible apply Junk.drewN)); done) | ((try simp only [World.junk_junk, Array.append_assoc]); (repeat (first | with_reducible exact Junk.refl _ | with_reducible exact Junk.app _ _ _ _ _ | with_reducible exact Junk.app2 _ _ _ _ _ _ | with_reducible exact Junk.app3 _ _ _ _ _ _ _ | with_reducible exact Junk.app4 _ _ _ _ _ _ _ _ | with_reducible exact Junk.app5 _ _ _ _ _ _ _ _ _ | with_reducible apply Junk.alloc | with_reducible apply Junk.junk | with_reducible apply Junk.drew | with_reducible apply Junk.drewN)))))) 2 (T : Int) HTW.out _ _ (by omega) (by omega)))))); refine wpQuiet_nil ?_; rintro _ ⟨⟨osq7, dq7⟩, rfl⟩
  go_wp2
  refine wp_region_junk (by kernel_rfl) (by kernel_rfl) ?_; (repeat (go_big_quiet_step (first | fail))); refine wpQuiet_nil ?_; rintro _ ⟨⟨osq8, dq8⟩, rfl⟩
  obtain ⟨hc1, hcat⟩ := HPRC.out
  go_upto_region 12 with (fail)
  have HS1 := Lib.hid (show St (fun _ => True) ((((((w.alloc (.cells #[.int .i64 16, .int .i64 2] 76)).alloc (.cells #[.int .i64 kind, .int .i64 code, .int .u32 rest, .slice (some ad) l c] 25)).alloc (.cells #[.int .i64 0, .int .i64 0, .int .u32 0, .slice none 0 0] 25))).junk osN dN).alloc (.cells #[.int .i64 t.proto, .int .u32 t.src, .int .i64 t.sport, .int .u32 t.dst, .int .i64 t.dport] 28)) (((((((w.alloc (.cells #[.int .i64 16, .int .i64 2] 76)).alloc (.cells #[.int .i64 kind, .int .i64 code, .int .u32 rest, .slice (some ad) l c] 25)).alloc (.cells #[.int .i64 0, .int .i64 0, .int .u32 0, .slice none 0 0] 25))).junk osN dN).alloc (.cells #[.int .i64 t.proto, .int .u32 t.src, .int .i64 t.sport, .int .u32 t.dst, .int .i64 t.dport] 28)).junk (osC ++ (osq7 ++ osq8)) dq8) g l cap xs from HS0.out.on (keeps_true _) (by (first | ((repeat (first | with_reducible exact Junk.refl _ | with_reducible exact Junk.app _ _ _ _ _ | with_reducible apply Junk.alloc | with_reducible apply Junk.junk | with_reducible apply Junk.drew | with_reducible apply Junk.drewN)); done) | ((try simp only [World.junk_junk, Array.append_assoc]); (repeat (first | with_reducible exact Junk.refl _ | with_reducible exact Junk.app _ _ _ _ _ | with_reducible exact Junk.app2 _ _ _ _ _ _ | with_reducible exact Junk.app3 _ _ _ _ _ _ _ | with_reducible exact Junk.app4 _ _ _ _ _ _ _ _ | with_reducible exact Junk.app5 _ _ _ _ _ _ _ _ _ | with_reducible apply Junk.alloc | with_reducible apply Junk.junk | with_reducible apply Junk.drew | with_reducible apply Junk.drewN))))))
  generalize osC ++ (osq7 ++ osq8) = osD at HS1 ⊢
  clear hx0 HS0
  obtain ⟨Bd, hBd⟩ : ∃ B, U - S = B := ⟨_, rfl⟩
  obtain ⟨CB, hCB⟩ : ∃ B, cap - S = B := ⟨_, rfl⟩
  rw [hBd, hCB]
  have HBd := Lib.hid hBd
  have HCB := Lib.hid hCB
  have b8 : 8 ≤ Bd := by omega
  have bC : Bd ≤ CB := by omega
  have bl : S + Bd ≤ l := by omega
  have b4i : (4 : Int) ≤ (Bd : Int) := by omega
  have b2i : (2 : Int) ≤ (Bd : Int) := by omega
  have b6i : (6 : Int) ≤ (Bd : Int) := by omega
  have b0i : (0 : Int) ≤ (Bd : Int) := by omega
  have n4 : ¬ CB = 4 := by omega
  have n2b : ¬ CB = 2 := by omega
  have n6 : ¬ CB = 6 := by omega
  obtain ⟨WA, hWA⟩ : ∃ v, wd xs 16 = v := ⟨_, rfl⟩
  obtain ⟨WB, hWB⟩ : ∃ v, wd xs 18 = v := ⟨_, rfl⟩
  have HWA := Lib.hid hWA
  have HWB := Lib.hid hWB
  have bWA : 0 ≤ WA ∧ WA ≤ 65535 := by rw [← hWA]; exact wd_bd (HX.out _ (by omega)) (HX.out _ (by omega))
  have bWB : 0 ≤ WB ∧ WB ≤ 65535 := by rw [← hWB]; exact wd_bd (HX.out _ (by omega)) (HX.out _ (by omega))
  have wWA := wrapk_u16 WA (by omega) (by omega)
  have wWB := wrapk_u16 WB (by omega) (by omega)
  clear hBd hCB hWA hWB
  go_upto_region 13 with (fail)
  refine wp_region_mixj ((((((((w.alloc (.cells #[.int .i64 16, .int .i64 2] 76)).alloc (.cells #[.int .i64 kind, .int .i64 code, .int .u32 rest, .slice (some ad) l c] 25)).alloc (.cells #[.int .i64 0, .int .i64 0, .int .u32 0, .slice none 0 0] 25))).junk osN dN).alloc (.cells #[.int .i64 t.proto, .int .u32 t.src, .int .i64 t.sport, .int .u32 t.dst, .int .i64 t.dport] 28)).junk osD dq8).alloc (.cells #[.int .u16 (addr / 65536), .int .u16 (addr % 65536)] 41)) [(0, true), (1, true), (2, true), (3, true), (4, true), (5, true), (6, true), (7, true), (8, true), (9, true), (10, true), (11, true), (12, true), (13, true), (14, true), (15, true), (16, true), (17, true), (18, true), (19, false), (20, true)] (by kernel_rfl) (by kernel_rfl) (by (repeat (first | with_reducible exact Junk.refl _ | with_reducible exact Junk.app _ _ _ _ _ | with_reducible apply Junk.alloc | with_reducible apply Junk.junk | with_reducible apply Junk.drew | with_reducible apply Junk.drewN))) ?_; (iterate 19 (refine wpMix_q rfl (fun K hK => ?_); (go_simp; try go_bits); first | (refine hK _ ?_; clear hK K) | (apply Exists.intro; refine ⟨fun _ => ?_, hK _ ?_⟩; (first | (go_at_call 31; first | with_reducible exact in_get_v (HS1.out.on (keeps_true _) (by (first | ((repeat (first | with_reducible exact Junk.refl _ | with_reducible exact Junk.app _ _ _ _ _ | with_reducible apply Junk.alloc | with_reducible apply Junk.junk | with_reducible apply Junk.drew | with_reducible apply Junk.drewN)); done) | ((try simp only [World.junk_junk, Array.append_assoc]); (repeat (first | with_reducible exact Junk.refl _ | with_reducible exact Junk.app _ _ _ _ _ | with_reducible exact Junk.app2 _ _ _ _ _ _ | with_reducible exact Junk.app3 _ _ _ _ _ _ _ | with_reducible exact Junk.app4 _ _ _ _ _ _ _ _ | with_reducible exact Junk.app5 _ _ _ _ _ _ _ _ _ | with_reducible apply Junk.alloc | with_reducible apply Junk.junk | with_reducible apply Junk.drew | with_reducible apply Junk.drewN)))))) 16 WA HWA.out _ _ (by omega) (by omega) | with_reducible exact in_get_v (HS1.out.on (keeps_true _) (by (first | ((repeat (first | with_reducible exact Junk.refl _ | with_reducible exact Junk.app _ _ _ _ _ | with_reducible apply Junk.alloc | with_reducible apply Junk.junk | with_reducible apply Junk.drew | with_reducible apply Junk.drewN)); done) | ((try simp only [World.junk_junk, Array.append_assoc]); (repeat (first | with_reducible exact Junk.refl _ | with_reducible exact Junk.app _ _ _ _ _ | with_reducible exact Junk.app2 _ _ _ _ _ _ | with_reducible exact Junk.app3 _ _ _ _ _ _ _ | with_reducible exact Junk.app4 _ _ _ _ _ _ _ _ | with_reducible exact Junk.app5 _ _ _ _ _ _ _ _ _ | with_reducible apply Junk.alloc | with_reducible apply Junk.junk | with_reducible apply Junk.drew | with_reducible apply Junk.drewN)))))) 18 WB HWB.out _ _ (by omega) (by omega))); clear hK K))); refine wpMix_e rfl (fun osm13_0 dm13_0 K hK => ?_); (go_simp; try go_bits); refine hK _ _ (Junk.pair (by (repeat (first | with_reducible exact Junk.refl _ | with_reducible exact Junk.app _ _ _ _ _ | with_reducible apply Junk.alloc | with_reducible apply Junk.junk | with_reducible apply Junk.drew | with_reducible apply Junk.drewN | (with_reducible refine Junk.setCell ?_ (by simp) _))))) ?_; clear hK K; (iterate 1 (refine wpMix_q rfl (fun K hK => ?_); (go_simp; try go_bits); first | (refine hK _ ?_; clear hK K) | (apply Exists.intro; refine ⟨fun _ => ?_, hK _ ?_⟩; (first | (go_at_call 31; first | with_reducible exact in_get_v (HS1.out.on (keeps_true _) (by (first | ((repeat (first | with_reducible exact Junk.refl _ | with_reducible exact Junk.app _ _ _ _ _ | with_reducible apply Junk.alloc | with_reducible apply Junk.junk | with_reducible apply Junk.drew | with_reducible apply Junk.drewN)); done) | ((try simp only [World.junk_junk, Array.append_assoc]); (repeat (first | with_reducible exact Junk.refl _ | with_reducible exact Junk.app _ _ _ _ _ | with_reducible exact Junk.app2 _ _ _ _ _ _ | with_reducible exact Junk.app3 _ _ _ _ _ _ _ | with_reducible exact Junk.app4 _ _ _ _ _ _ _ _ | with_reducible exact Junk.app5 _ _ _ _ _ _ _ _ _ | with_reducible apply Junk.alloc | with_reducible apply Junk.junk | with_reducible apply Junk.drew | with_reducible apply Junk.drewN)))))) 16 WA HWA.out _ _ (by omega) (by omega) | with_reducible exact in_get_v (HS1.out.on (keeps_true _) (by (first | ((repeat (first | with_reducible exact Junk.refl _ | with_reducible exact Junk.app _ _ _ _ _ | with_reducible apply Junk.alloc | with_reducible apply Junk.junk | with_reducible apply Junk.drew | with_reducible apply Junk.drewN)); done) | ((try simp only [World.junk_junk, Array.append_assoc]); (repeat (first | with_reducible exact Junk.refl _ | with_reducible exact Junk.app _ _ _ _ _ | with_reducible exact Junk.app2 _ _ _ _ _ _ | with_reducible exact Junk.app3 _ _ _ _ _ _ _ | with_reducible exact Junk.app4 _ _ _ _ _ _ _ _ | with_reducible exact Junk.app5 _ _ _ _ _ _ _ _ _ | with_reducible apply Junk.alloc | with_reducible apply Junk.junk | with_reducible apply Junk.drew | with_reducible apply Junk.drewN)))))) 18 WB HWB.out _ _ (by omega) (by omega))); clear hK K))); refine wpMix_nil (fun osm dm => ?_)
  go_upto_region 14 with (fail)
  have hg1 : w.heap.size + 1 + 1 + 1 + osN.size + 1 ≤ g := by simpa using hgB
  have hg2 : g < (w.heap.size + 1 + 1 + 1 + osN.size + 1 + osD.size) := by have := HS1.out.gs; simp at this; omega
  have HCS : CsH [((w.heap.size + 1 + 1 + 1 + osN.size), 0, .int .i64 t.proto), ((w.heap.size + 1 + 1 + 1 + osN.size + 1 + osD.size), 0, .int .u16 (addr / 65536)), ((w.heap.size + 1 + 1 + 1 + osN.size + 1 + osD.size), 1, .int .u16 (addr % 65536)), ((w.heap.size + 1 + 1 + 1 + osN.size + 1 + osD.size + 1 + osm13_0.size), 0, .int .u16 WA), ((w.heap.size + 1 + 1 + 1 + osN.size + 1 + osD.size + 1 + osm13_0.size), 1, .int .u16 (addr / 65536)), ((w.heap.size + 1 + 1 + 1 + osN.size + 1 + osD.size + 1 + osm13_0.size), 2, .int .u16 WB), ((w.heap.size + 1 + 1 + 1 + osN.size + 1 + osD.size + 1 + osm13_0.size), 3, .int .u16 (addr % 65536)), (w.heap.size, 0, .int .i64 16), (w.heap.size + 1, 0, .int .i64 kind), (w.heap.size + 1, 1, .int .i64 code), (w.heap.size + 1, 2, .int .u32 rest), (w.heap.size + 1, 3, .slice (some ad) l c), (w.heap.size + 1 + 1, 0, .int .i64 0), (w.heap.size + 1 + 1, 1, .int .i64 0), (w.heap.size + 1 + 1, 2, .int .u32 0), (w.heap.size + 1 + 1, 3, .slice none 0 0)] (((((((((((w.alloc (.cells #[.int .i64 16, .int .i64 2] 76)).alloc (.cells #[.int .i64 kind, .int .i64 code, .int .u32 rest, .slice (some ad) l c] 25)).alloc (.cells #[.int .i64 0, .int .i64 0, .int .u32 0, .slice none 0 0] 25))).junk osN dN).alloc (.cells #[.int .i64 t.proto, .int .u32 t.src, .int .i64 t.sport, .int .u32 t.dst, .int .i64 t.dport] 28)).junk osD dq8).alloc (.cells #[.int .u16 (addr / 65536), .int .u16 (addr % 65536)] 41)).junk osm13_0 dm13_0).alloc (.cells #[.int .u16 WA, .int .u16 (addr / 65536), .int .u16 WB, .int .u16 (addr % 65536)] 41)).junk osm dm) := by
    repeat (refine CsH.cons.2 ⟨⟨(by simp; try omega), (by go_simp), (by go_simp)⟩, ?_⟩)
    exact CsH.nil _
  have HN1 : ∀ q ∈ ([((w.heap.size + 1 + 1 + 1 + osN.size), 0, .int .i64 t.proto), ((w.heap.size + 1 + 1 + 1 + osN.size + 1 + osD.size), 0, .int .u16 (addr / 65536)), ((w.heap.size + 1 + 1 + 1 + osN.size + 1 + osD.size), 1, .int .u16 (addr % 65536)), ((w.heap.size + 1 + 1 + 1 + osN.size + 1 + osD.size + 1 + osm13_0.size), 0, .int .u16 WA), ((w.heap.size + 1 + 1 + 1 + osN.size + 1 + osD.size + 1 + osm13_0.size), 1, .int .u16 (addr / 65536)), ((w.heap.size + 1 + 1 + 1 + osN.size + 1 + osD.size + 1 + osm13_0.size), 2, .int .u16 WB), ((w.heap.size + 1 + 1 + 1 + osN.size + 1 + osD.size + 1 + osm13_0.size), 3, .int .u16 (addr % 65536)), (w.heap.size, 0, .int .i64 16), (w.heap.size + 1, 0, .int .i64 kind), (w.heap.size + 1, 1, .int .i64 code), (w.heap.size + 1, 2, .int .u32 rest), (w.heap.size + 1, 3, .slice (some ad) l c), (w.heap.size + 1 + 1, 0, .int .i64 0), (w.heap.size + 1 + 1, 1, .int .i64 0), (w.heap.size + 1 + 1, 2, .int .u32 0), (w.heap.size + 1 + 1, 3, .slice none 0 0)] : List (Nat × Nat × Value)), q.1 ≠ g := by simp; omega
  have HK1 := Lib.hid (CsH.keeps HN1)
  have HN1 := Lib.hid HN1
  have HS2 : St (CsH [((w.heap.size + 1 + 1 + 1 + osN.size), 0, .int .i64 t.proto), ((w.heap.size + 1 + 1 + 1 + osN.size + 1 + osD.size), 0, .int .u16 (addr / 65536)), ((w.heap.size + 1 + 1 + 1 + osN.size + 1 + osD.size), 1, .int .u16 (addr % 65536)), ((w.heap.size + 1 + 1 + 1 + osN.size + 1 + osD.size + 1 + osm13_0.size), 0, .int .u16 WA), ((w.heap.size + 1 + 1 + 1 + osN.size + 1 + osD.size + 1 + osm13_0.size), 1, .int .u16 (addr / 65536)), ((w.heap.size + 1 + 1 + 1 + osN.size + 1 + osD.size + 1 + osm13_0.size), 2, .int .u16 WB), ((w.heap.size + 1 + 1 + 1 + osN.size + 1 + osD.size + 1 + osm13_0.size), 3, .int .u16 (addr % 65536)), (w.heap.size, 0, .int .i64 16), (w.heap.size + 1, 0, .int .i64 kind), (w.heap.size + 1, 1, .int .i64 code), (w.heap.size + 1, 2, .int .u32 rest), (w.heap.size + 1, 3, .slice (some ad) l c), (w.heap.size + 1 + 1, 0, .int .i64 0), (w.heap.size + 1 + 1, 1, .int .i64 0), (w.heap.size + 1 + 1, 2, .int .u32 0), (w.heap.size + 1 + 1, 3, .slice none 0 0)]) w (((((((((((w.alloc (.cells #[.int .i64 16, .int .i64 2] 76)).alloc (.cells #[.int .i64 kind, .int .i64 code, .int .u32 rest, .slice (some ad) l c] 25)).alloc (.cells #[.int .i64 0, .int .i64 0, .int .u32 0, .slice none 0 0] 25))).junk osN dN).alloc (.cells #[.int .i64 t.proto, .int .u32 t.src, .int .i64 t.sport, .int .u32 t.dst, .int .i64 t.dport] 28)).junk osD dq8).alloc (.cells #[.int .u16 (addr / 65536), .int .u16 (addr % 65536)] 41)).junk osm13_0 dm13_0).alloc (.cells #[.int .u16 WA, .int .u16 (addr / 65536), .int .u16 WB, .int .u16 (addr % 65536)] 41)).junk osm dm) g l cap xs := ⟨by (first | ((repeat (first | with_reducible exact Junk.refl _ | with_reducible exact Junk.app _ _ _ _ _ | with_reducible apply Junk.alloc | with_reducible apply Junk.junk | with_reducible apply Junk.drew | with_reducible apply Junk.drewN)); done) | ((try simp only [World.junk_junk, Array.append_assoc]); (repeat (first | with_reducible exact Junk.refl _ | with_reducible exact Junk.app _ _ _ _ _ | with_reducible exact Junk.app2 _ _ _ _ _ _ | with_reducible exact Junk.app3 _ _ _ _ _ _ _ | with_reducible exact Junk.app4 _ _ _ _ _ _ _ _ | with_reducible exact Junk.app5 _ _ _ _ _ _ _ _ _ | with_reducible apply Junk.alloc | with_reducible apply Junk.junk | with_reducible apply Junk.drew | with_reducible apply Junk.drewN)))), by omega, by simp; omega, HS1.out.b.on (by (first | ((repeat (first | with_reducible exact Junk.refl _ | with_reducible exact Junk.app _ _ _ _ _ | with_reducible apply Junk.alloc | with_reducible apply Junk.junk | with_reducible apply Junk.drew | with_reducible apply Junk.drewN)); done) | ((try simp only [World.junk_junk, Array.append_assoc]); (repeat (first | with_reducible exact Junk.refl _ | with_reducible exact Junk.app _ _ _ _ _ | with_reducible exact Junk.app2 _ _ _ _ _ _ | with_reducible exact Junk.app3 _ _ _ _ _ _ _ | with_reducible exact Junk.app4 _ _ _ _ _ _ _ _ | with_reducible exact Junk.app5 _ _ _ _ _ _ _ _ _ | with_reducible apply Junk.alloc | with_reducible apply Junk.junk | with_reducible apply Junk.drew | with_reducible apply Junk.drewN))))), (HS1.out.on (keeps_true _) (V' := ((((((((((w.alloc (.cells #[.int .i64 16, .int .i64 2] 76)).alloc (.cells #[.int .i64 kind, .int .i64 code, .int .u32 rest, .slice (some ad) l c] 25)).alloc (.cells #[.int .i64 0, .int .i64 0, .int .u32 0, .slice none 0 0] 25))).junk osN dN).alloc (.cells #[.int .i64 t.proto, .int .u32 t.src, .int .i64 t.sport, .int .u32 t.dst, .int .i64 t.dport] 28)).junk osD dq8).alloc (.cells #[.int .u16 (addr / 65536), .int .u16 (addr % 65536)] 41)).junk osm13_0 dm13_0).alloc (.cells #[.int .u16 WA, .int .u16 (addr / 65536), .int .u16 WB, .int .u16 (addr % 65536)] 41)).junk osm dm) (by (first | ((repeat (first | with_reducible exact Junk.refl _ | with_reducible exact Junk.app _ _ _ _ _ | with_reducible apply Junk.alloc | with_reducible apply Junk.junk | with_reducible apply Junk.drew | with_reducible apply Junk.drewN)); done) | ((try simp only [World.junk_junk, Array.append_assoc]); (repeat (first | with_reducible exact Junk.refl _ | with_reducible exact Junk.app _ _ _ _ _ | with_reducible exact Junk.app2 _ _ _ _ _ _ | with_reducible exact Junk.app3 _ _ _ _ _ _ _ | with_reducible exact Junk.app4 _ _ _ _ _ _ _ _ | with_reducible exact Junk.app5 _ _ _ _ _ _ _ _ _ | with_reducible apply Junk.alloc | with_reducible apply Junk.junk | with_reducible apply Junk.drew | with_reducible apply Junk.drewN)))))).fz, HCS⟩
  clear HCS HS1 hgS hgB
  generalize ((((((((((w.alloc (.cells #[.int .i64 16, .int .i64 2] 76)).alloc (.cells #[.int .i64 kind, .int .i64 code, .int .u32 rest, .slice (some ad) l c] 25)).alloc (.cells #[.int .i64 0, .int .i64 0, .int .u32 0, .slice none 0 0] 25))).junk osN dN).alloc (.cells #[.int .i64 t.proto, .int .u32 t.src, .int .i64 t.sport, .int .u32 t.dst, .int .i64 t.dport] 28)).junk osD dq8).alloc (.cells #[.int .u16 (addr / 65536), .int .u16 (addr % 65536)] 41)).junk osm13_0 dm13_0).alloc (.cells #[.int .u16 WA, .int .u16 (addr / 65536), .int .u16 WB, .int .u16 (addr % 65536)] 41)).junk osm dm = V at HS2 ⊢
  have HNI := Lib.hid (fun (V : World) (hF : CsH [((w.heap.size + 1 + 1 + 1 + osN.size), 0, .int .i64 t.proto), ((w.heap.size + 1 + 1 + 1 + osN.size + 1 + osD.size), 0, .int .u16 (addr / 65536)), ((w.heap.size + 1 + 1 + 1 + osN.size + 1 + osD.size), 1, .int .u16 (addr % 65536)), ((w.heap.size + 1 + 1 + 1 + osN.size + 1 + osD.size + 1 + osm13_0.size), 0, .int .u16 WA), ((w.heap.size + 1 + 1 + 1 + osN.size + 1 + osD.size + 1 + osm13_0.size), 1, .int .u16 (addr / 65536)), ((w.heap.size + 1 + 1 + 1 + osN.size + 1 + osD.size + 1 + osm13_0.size), 2, .int .u16 WB), ((w.heap.size + 1 + 1 + 1 + osN.size + 1 + osD.size + 1 + osm13_0.size), 3, .int .u16 (addr % 65536)), (w.heap.size, 0, .int .i64 16), (w.heap.size + 1, 0, .int .i64 kind), (w.heap.size + 1, 1, .int .i64 code), (w.heap.size + 1, 2, .int .u32 rest), (w.heap.size + 1, 3, .slice (some ad) l c), (w.heap.size + 1 + 1, 0, .int .i64 0), (w.heap.size + 1 + 1, 1, .int .i64 0), (w.heap.size + 1 + 1, 2, .int .u32 0), (w.heap.size + 1 + 1, 3, .slice none 0 0)] V) => show IntsAt V (some ⟨(w.heap.size + 1 + 1 + 1 + osN.size + 1 + osD.size + 1 + osm13_0.size), 0, none⟩) 4 .u16 (tnNm xs 16 addr) from fun i hi => by
    rcases (show i = 0 ∨ i = 1 ∨ i = 2 ∨ i = 3 by omega) with rfl | rfl | rfl | rfl
    · obtain ⟨q1, q2, _⟩ := hF ((w.heap.size + 1 + 1 + 1 + osN.size + 1 + osD.size + 1 + osm13_0.size), 0, .int .u16 WA) (by simp)
      exact ⟨_, 0, rfl, q1, by rw [show tnNm xs 16 addr 0 = WA from HWA.out]; exact q2⟩
    · obtain ⟨q1, q2, _⟩ := hF ((w.heap.size + 1 + 1 + 1 + osN.size + 1 + osD.size + 1 + osm13_0.size), 1, .int .u16 (addr / 65536)) (by simp)
      exact ⟨_, 0, rfl, q1, q2⟩
    · obtain ⟨q1, q2, _⟩ := hF ((w.heap.size + 1 + 1 + 1 + osN.size + 1 + osD.size + 1 + osm13_0.size), 2, .int .u16 WB) (by simp)
      exact ⟨_, 0, rfl, q1, by rw [show tnNm xs 16 addr 2 = WB from HWB.out]; exact q2⟩
    · obtain ⟨q1, q2, _⟩ := hF ((w.heap.size + 1 + 1 + 1 + osN.size + 1 + osD.size + 1 + osm13_0.size), 3, .int .u16 (addr % 65536)) (by simp)
      exact ⟨_, 0, rfl, q1, q2⟩)
  obtain ⟨WP, hWP⟩ : ∃ v, wd xs (S + tnAt (aboutIp xs l) 2) = v := ⟨_, rfl⟩
  have HWP0 := Lib.hid hWP
  rw [hcat] at hWP
  (try rw [Nat.add_zero] at hWP)
  have bWP : 0 ≤ WP ∧ WP ≤ 65535 := by rw [← hWP]; exact wd_bd (HX.out _ (by omega)) (HX.out _ (by omega))
  have wWP := wrapk_u16 WP (by omega) (by omega)
  have HWP := Lib.hid hWP
  have n0 : ¬ CB = 0 := by omega
  have b2n : 2 ≤ Bd := by omega
  clear hWP
  have HS2' := Lib.hid HS2
  clear HS2
  go_upto_region 15 with (first | (go_at_call 31; (with_reducible refine (in_get_v (HS2'.out.on HK1.out (by (first | ((repeat (first | with_reducible exact Junk.refl _ | with_reducible exact Junk.app _ _ _ _ _ | with_reducible apply Junk.alloc | with_reducible apply Junk.junk | with_reducible apply Junk.drew | with_reducible apply Junk.drewN)); done) | ((try simp only [World.junk_junk, Array.append_assoc]); (repeat (first | with_reducible exact Junk.refl _ | with_reducible exact Junk.app _ _ _ _ _ | with_reducible exact Junk.app2 _ _ _ _ _ _ | with_reducible exact Junk.app3 _ _ _ _ _ _ _ | with_reducible exact Junk.app4 _ _ _ _ _ _ _ _ | with_reducible exact Junk.app5 _ _ _ _ _ _ _ _ _ | with_reducible apply Junk.alloc | with_reducible apply Junk.junk | with_reducible apply Junk.drew | with_reducible apply Junk.drewN)))))) _ WP HWP.out _ _ (by omega) (by omega)).mono ?_); rintro e w' ⟨rfl, ⟨osG, dG, rfl⟩⟩) | (at_builtin; (refine ap_own (W0 := V.junk osG dG) rfl _ _ 106 rfl 41 (.int .u16 0) 1 2 (by kernel_rfl) rfl (by decide) Try.underlying106 (by (first | ((repeat (first | with_reducible exact Junk.refl _ | with_reducible exact Junk.app _ _ _ _ _ | with_reducible apply Junk.alloc | with_reducible apply Junk.junk | with_reducible apply Junk.drew | with_reducible apply Junk.drewN)); done) | ((try simp only [World.junk_junk, Array.append_assoc]); (repeat (first | with_reducible exact Junk.refl _ | with_reducible exact Junk.app _ _ _ _ _ | with_reducible exact Junk.app2 _ _ _ _ _ _ | with_reducible exact Junk.app3 _ _ _ _ _ _ _ | with_reducible exact Junk.app4 _ _ _ _ _ _ _ _ | with_reducible exact Junk.app5 _ _ _ _ _ _ _ _ _ | with_reducible apply Junk.alloc | with_reducible apply Junk.junk | with_reducible apply Junk.drew | with_reducible apply Junk.drewN))))) _ 2 2 [.int .u16 WP, .int .u16 port] rfl (by exact own_lit _ _ _ _ _ (by simp) (by simp) rfl (by decide)) _ 4 4 rfl ((List.range 4).map fun i => .int .u16 (tnNm xs 16 addr i)) (by simp) ((HNI.out V HS2'.out.f).on (by (first | ((repeat (first | with_reducible exact Junk.refl _ | with_reducible exact Junk.app _ _ _ _ _ | with_reducible apply Junk.alloc | with_reducible apply Junk.junk | with_reducible apply Junk.drew | with_reducible apply Junk.drewN)); done) | ((try simp only [World.junk_junk, Array.append_assoc]); (repeat (first | with_reducible exact Junk.refl _ | with_reducible exact Junk.app _ _ _ _ _ | with_reducible exact Junk.app2 _ _ _ _ _ _ | with_reducible exact Junk.app3 _ _ _ _ _ _ _ | with_reducible exact Junk.app4 _ _ _ _ _ _ _ _ | with_reducible exact Junk.app5 _ _ _ _ _ _ _ _ _ | with_reducible apply Junk.alloc | with_reducible apply Junk.junk | with_reducible apply Junk.drew | with_reducible apply Junk.drewN)))))).src (fun h => by cases h) (by simp [Value.oneCell']) (by simp only [maxLen]; omega) (by omega) ?_; intro o3 c3 os3 d3 hown3 hnn3; have HO3 := Lib.hid hown3; clear hown3 hnn3)))
  obtain ⟨g3, rfl, hg3, hg3s, hc3⟩ := own_some HO3.out (by omega)
  have HAL : CsH (cw g3 6 (tnAll xs l 16 2 addr port)) ((V.junk osG dG).junk os3 d3) := by
    intro q hq
    obtain ⟨i, hi, rfl⟩ := List.mem_map.1 hq
    obtain ⟨r1, r2⟩ := hc3 i (.int .u16 (tnAll xs l 16 2 addr port i)) (by rw [tnAll_list (by rw [HSS.out]; exact HWP0.out), List.getElem?_map, List.getElem?_range (List.mem_range.1 hi)]; rfl)
    exact ⟨hg3s, r1, r2⟩
  have hgV := HS2'.out.gs
  have hg3n : g3 ≠ g := by have : V.heap.size ≤ g3 := by (simp at hg3; omega)
                           omega
  have HS3 : St (CsH ([((w.heap.size + 1 + 1 + 1 + osN.size), 0, .int .i64 t.proto), ((w.heap.size + 1 + 1 + 1 + osN.size + 1 + osD.size), 0, .int .u16 (addr / 65536)), ((w.heap.size + 1 + 1 + 1 + osN.size + 1 + osD.size), 1, .int .u16 (addr % 65536)), ((w.heap.size + 1 + 1 + 1 + osN.size + 1 + osD.size + 1 + osm13_0.size), 0, .int .u16 WA), ((w.heap.size + 1 + 1 + 1 + osN.size + 1 + osD.size + 1 + osm13_0.size), 1, .int .u16 (addr / 65536)), ((w.heap.size + 1 + 1 + 1 + osN.size + 1 + osD.size + 1 + osm13_0.size), 2, .int .u16 WB), ((w.heap.size + 1 + 1 + 1 + osN.size + 1 + osD.size + 1 + osm13_0.size), 3, .int .u16 (addr % 65536)), (w.heap.size, 0, .int .i64 16), (w.heap.size + 1, 0, .int .i64 kind), (w.heap.size + 1, 1, .int .i64 code), (w.heap.size + 1, 2, .int .u32 rest), (w.heap.size + 1, 3, .slice (some ad) l c), (w.heap.size + 1 + 1, 0, .int .i64 0), (w.heap.size + 1 + 1, 1, .int .i64 0), (w.heap.size + 1 + 1, 2, .int .u32 0), (w.heap.size + 1 + 1, 3, .slice none 0 0)] ++ cw g3 6 (tnAll xs l 16 2 addr port))) w (V.junk (osG ++ os3) d3) g l cap xs := by
    rw [World.junk_junk] at HAL
    exact ⟨HS2'.out.j.trans ⟨_, _, rfl⟩, by omega, by simp; omega, HS2'.out.b.on ⟨_, _, rfl⟩, (HS2'.out.on HK1.out ⟨_, _, rfl⟩).fz, (HS2'.out.f.on ⟨_, _, rfl⟩).app HAL⟩
  have HK3 := Lib.hid (CsH.keeps (g := g) (L := [((w.heap.size + 1 + 1 + 1 + osN.size), 0, .int .i64 t.proto), ((w.heap.size + 1 + 1 + 1 + osN.size + 1 + osD.size), 0, .int .u16 (addr / 65536)), ((w.heap.size + 1 + 1 + 1 + osN.size + 1 + osD.size), 1, .int .u16 (addr % 65536)), ((w.heap.size + 1 + 1 + 1 + osN.size + 1 + osD.size + 1 + osm13_0.size), 0, .int .u16 WA), ((w.heap.size + 1 + 1 + 1 + osN.size + 1 + osD.size + 1 + osm13_0.size), 1, .int .u16 (addr / 65536)), ((w.heap.size + 1 + 1 + 1 + osN.size + 1 + osD.size + 1 + osm13_0.size), 2, .int .u16 WB), ((w.heap.size + 1 + 1 + 1 + osN.size + 1 + osD.size + 1 + osm13_0.size), 3, .int .u16 (addr % 65536)), (w.heap.size, 0, .int .i64 16), (w.heap.size + 1, 0, .int .i64 kind), (w.heap.size + 1, 1, .int .i64 code), (w.heap.size + 1, 2, .int .u32 rest), (w.heap.size + 1, 3, .slice (some ad) l c), (w.heap.size + 1 + 1, 0, .int .i64 0), (w.heap.size + 1 + 1, 1, .int .i64 0), (w.heap.size + 1 + 1, 2, .int .u32 0), (w.heap.size + 1 + 1, 3, .slice none 0 0)] ++ cw g3 6 (tnAll xs l 16 2 addr port)) (fun q hq => by
    rcases List.mem_append.1 hq with h | h
    · exact HN1.out q h
    · obtain ⟨i, _, rfl⟩ := List.mem_map.1 h; exact hg3n))
  have HNB := Lib.hid (tnNm_bd (xs := xs) (A := 16) (addr := addr) (fun i hi => HX.out i (by omega)) haddr)
  have HAB := Lib.hid (tnAll_bd (xs := xs) (l := l) (A := 16) (P := 2) (addr := addr) (port := port) (fun i hi => HX.out i (by omega)) haddr ⟨hp0, hp1⟩ (by rw [HSS.out, HWP0.out]; exact bWP))
  have HC3 := Lib.hid HO3.out.capLe
  have HA2 := Lib.hid (fun (V : World) (hF : CsH ([((w.heap.size + 1 + 1 + 1 + osN.size), 0, .int .i64 t.proto), ((w.heap.size + 1 + 1 + 1 + osN.size + 1 + osD.size), 0, .int .u16 (addr / 65536)), ((w.heap.size + 1 + 1 + 1 + osN.size + 1 + osD.size), 1, .int .u16 (addr % 65536)), ((w.heap.size + 1 + 1 + 1 + osN.size + 1 + osD.size + 1 + osm13_0.size), 0, .int .u16 WA), ((w.heap.size + 1 + 1 + 1 + osN.size + 1 + osD.size + 1 + osm13_0.size), 1, .int .u16 (addr / 65536)), ((w.heap.size + 1 + 1 + 1 + osN.size + 1 + osD.size + 1 + osm13_0.size), 2, .int .u16 WB), ((w.heap.size + 1 + 1 + 1 + osN.size + 1 + osD.size + 1 + osm13_0.size), 3, .int .u16 (addr % 65536)), (w.heap.size, 0, .int .i64 16), (w.heap.size + 1, 0, .int .i64 kind), (w.heap.size + 1, 1, .int .i64 code), (w.heap.size + 1, 2, .int .u32 rest), (w.heap.size + 1, 3, .slice (some ad) l c), (w.heap.size + 1 + 1, 0, .int .i64 0), (w.heap.size + 1 + 1, 1, .int .i64 0), (w.heap.size + 1 + 1, 2, .int .u32 0), (w.heap.size + 1 + 1, 3, .slice none 0 0)] ++ cw g3 6 (tnAll xs l 16 2 addr port)) V) => show IntsAt V (some ⟨g3, 0, none⟩) 2 .u16 (tnAll xs l 16 2 addr port) from fun i hi => (hF.sub (fun q hq => List.mem_append_right _ hq)).ints i (by omega))
  have HA6 := Lib.hid (fun (V : World) (hF : CsH ([((w.heap.size + 1 + 1 + 1 + osN.size), 0, .int .i64 t.proto), ((w.heap.size + 1 + 1 + 1 + osN.size + 1 + osD.size), 0, .int .u16 (addr / 65536)), ((w.heap.size + 1 + 1 + 1 + osN.size + 1 + osD.size), 1, .int .u16 (addr % 65536)), ((w.heap.size + 1 + 1 + 1 + osN.size + 1 + osD.size + 1 + osm13_0.size), 0, .int .u16 WA), ((w.heap.size + 1 + 1 + 1 + osN.size + 1 + osD.size + 1 + osm13_0.size), 1, .int .u16 (addr / 65536)), ((w.heap.size + 1 + 1 + 1 + osN.size + 1 + osD.size + 1 + osm13_0.size), 2, .int .u16 WB), ((w.heap.size + 1 + 1 + 1 + osN.size + 1 + osD.size + 1 + osm13_0.size), 3, .int .u16 (addr % 65536)), (w.heap.size, 0, .int .i64 16), (w.heap.size + 1, 0, .int .i64 kind), (w.heap.size + 1, 1, .int .i64 code), (w.heap.size + 1, 2, .int .u32 rest), (w.heap.size + 1, 3, .slice (some ad) l c), (w.heap.size + 1 + 1, 0, .int .i64 0), (w.heap.size + 1 + 1, 1, .int .i64 0), (w.heap.size + 1 + 1, 2, .int .u32 0), (w.heap.size + 1 + 1, 3, .slice none 0 0)] ++ cw g3 6 (tnAll xs l 16 2 addr port)) V) => show IntsAt V (some ⟨g3, 0, none⟩) 6 .u16 (tnAll xs l 16 2 addr port) from (hF.sub (fun q hq => List.mem_append_right _ hq)).ints)
  (try simp only [World.junk_junk])
  generalize V.junk (osG ++ os3) d3 = V2 at HS3 ⊢
  have HS3' := Lib.hid HS3
  clear HS3 HAL hc3 hg3s hg3 HO3 HS2' hgV
  have b10 : 2 ≤ S - 10 := by omega
  go_upto_block 1 with (first | (go_at_call 72; refine (in_mend_st HS3'.out HK3.out 10 _ _ (by omega) b10 (some ⟨(w.heap.size + 1 + 1 + 1 + osN.size + 1 + osD.size + 1 + osm13_0.size), 0, none⟩) 4 2 _ (tnNm xs 16 addr) rfl (by omega) (HNI.out V2 (HS3'.out.f.sub (fun q hq => List.mem_append_left _ hq))) (fun i _ => HNB.out i)).mono ?_; rintro e V3 ⟨rfl, hS4⟩; have HS4 := Lib.hid hS4; obtain ⟨kq1, kq2, _⟩ := hS4.f ((w.heap.size + 1 + 1 + 1 + osN.size), 0, .int .i64 t.proto) (by simp); clear hS4))
  have HS4 := Lib.hid (show St (CsH ([((w.heap.size + 1 + 1 + 1 + osN.size), 0, .int .i64 t.proto), ((w.heap.size + 1 + 1 + 1 + osN.size + 1 + osD.size), 0, .int .u16 (addr / 65536)), ((w.heap.size + 1 + 1 + 1 + osN.size + 1 + osD.size), 1, .int .u16 (addr % 65536)), ((w.heap.size + 1 + 1 + 1 + osN.size + 1 + osD.size + 1 + osm13_0.size), 0, .int .u16 WA), ((w.heap.size + 1 + 1 + 1 + osN.size + 1 + osD.size + 1 + osm13_0.size), 1, .int .u16 (addr / 65536)), ((w.heap.size + 1 + 1 + 1 + osN.size + 1 + osD.size + 1 + osm13_0.size), 2, .int .u16 WB), ((w.heap.size + 1 + 1 + 1 + osN.size + 1 + osD.size + 1 + osm13_0.size), 3, .int .u16 (addr % 65536)), (w.heap.size, 0, .int .i64 16), (w.heap.size + 1, 0, .int .i64 kind), (w.heap.size + 1, 1, .int .i64 code), (w.heap.size + 1, 2, .int .u32 rest), (w.heap.size + 1, 3, .slice (some ad) l c), (w.heap.size + 1 + 1, 0, .int .i64 0), (w.heap.size + 1 + 1, 1, .int .i64 0), (w.heap.size + 1 + 1, 2, .int .u32 0), (w.heap.size + 1 + 1, 3, .slice none 0 0)] ++ cw g3 6 (tnAll xs l 16 2 addr port))) w V3 g l cap (tn1 xs 16 addr) from HS4.out)
  have HJ4 := Lib.hid HS4.out.j
  have HPI := Lib.hid (show ¬ (aboutIp xs l).proto = 1 from hic)
  have b2u : 2 ≤ Bd - 6 := by omega
  have cl6 : (6 : Int) ≤ (c3 : Int) := by have := HC3.out; omega
  go_cut [] (fun wx => ∃ V6, V6 = wx ∧ Hid (St (CsH ([((w.heap.size + 1 + 1 + 1 + osN.size), 0, .int .i64 t.proto), ((w.heap.size + 1 + 1 + 1 + osN.size + 1 + osD.size), 0, .int .u16 (addr / 65536)), ((w.heap.size + 1 + 1 + 1 + osN.size + 1 + osD.size), 1, .int .u16 (addr % 65536)), ((w.heap.size + 1 + 1 + 1 + osN.size + 1 + osD.size + 1 + osm13_0.size), 0, .int .u16 WA), ((w.heap.size + 1 + 1 + 1 + osN.size + 1 + osD.size + 1 + osm13_0.size), 1, .int .u16 (addr / 65536)), ((w.heap.size + 1 + 1 + 1 + osN.size + 1 + osD.size + 1 + osm13_0.size), 2, .int .u16 WB), ((w.heap.size + 1 + 1 + 1 + osN.size + 1 + osD.size + 1 + osm13_0.size), 3, .int .u16 (addr % 65536)), (w.heap.size, 0, .int .i64 16), (w.heap.size + 1, 0, .int .i64 kind), (w.heap.size + 1, 1, .int .i64 code), (w.heap.size + 1, 2, .int .u32 rest), (w.heap.size + 1, 3, .slice (some ad) l c), (w.heap.size + 1 + 1, 0, .int .i64 0), (w.heap.size + 1 + 1, 1, .int .i64 0), (w.heap.size + 1 + 1, 2, .int .u32 0), (w.heap.size + 1 + 1, 3, .slice none 0 0)] ++ cw g3 6 (tnAll xs l 16 2 addr port))) w V6 g l cap (tn2 xs l 16 2 addr port)))
  case first =>
    by_cases hu : t.proto = 17
    · have hu1 : (t.proto == 17) = true := by simpa using hu
      have hu2 : (t.proto == 6) = false := by rw [hu]; rfl
      have HPU := Lib.hid (show (aboutIp xs l).proto = 17 by rw [← HPT.out]; exact hu)
      obtain ⟨WU, hWU⟩ : ∃ v, wd (tn1 xs 16 addr) (S + 6) = v := ⟨_, rfl⟩
      have HWU := Lib.hid hWU
      clear hu hWU
      go_upto_if 117 with (first | (go_at_call 31; (with_reducible refine (in_get_v (HS4.out.on HK3.out (by (first | ((repeat (first | with_reducible exact Junk.refl _ | with_reducible exact Junk.app _ _ _ _ _ | with_reducible apply Junk.alloc | with_reducible apply Junk.junk | with_reducible apply Junk.drew | with_reducible apply Junk.drewN)); done) | ((try simp only [World.junk_junk, Array.append_assoc]); (repeat (first | with_reducible exact Junk.refl _ | with_reducible exact Junk.app _ _ _ _ _ | with_reducible exact Junk.app2 _ _ _ _ _ _ | with_reducible exact Junk.app3 _ _ _ _ _ _ _ | with_reducible exact Junk.app4 _ _ _ _ _ _ _ _ | with_reducible exact Junk.app5 _ _ _ _ _ _ _ _ _ | with_reducible apply Junk.alloc | with_reducible apply Junk.junk | with_reducible apply Junk.drew | with_reducible apply Junk.drewN)))))) (S + 6) WU HWU.out _ _ (by omega) (by omega)).mono ?_); rintro e w' ⟨rfl, ⟨osU, dU, rfl⟩⟩))
      by_cases hz : WU = 0
      · have hz1 : (WU != 0) = false := by simpa using hz
        have HZ := Lib.hid hz
        clear hz
        go_wp2
        go_meet
        refine ⟨_, rfl, Lib.hid ?_⟩
        have := HS4.out.on HK3.out (V' := V3.junk osU dU) ⟨_, _, rfl⟩
        unfold tn2
        rw [if_neg HPI.out, if_pos HPU.out, HSS.out, HWU.out, if_pos HZ.out]
        exact this
      · have hz1 : (WU != 0) = true := by simpa using hz
        have HZ := Lib.hid hz
        clear hz
        go_wp2_with (first | (go_at_call 73; refine (in_full_st (HS4.out.on HK3.out (by (first | ((repeat (first | with_reducible exact Junk.refl _ | with_reducible exact Junk.app _ _ _ _ _ | with_reducible apply Junk.alloc | with_reducible apply Junk.junk | with_reducible apply Junk.drew | with_reducible apply Junk.drewN)); done) | ((try simp only [World.junk_junk, Array.append_assoc]); (repeat (first | with_reducible exact Junk.refl _ | with_reducible exact Junk.app _ _ _ _ _ | with_reducible exact Junk.app2 _ _ _ _ _ _ | with_reducible exact Junk.app3 _ _ _ _ _ _ _ | with_reducible exact Junk.app4 _ _ _ _ _ _ _ _ | with_reducible exact Junk.app5 _ _ _ _ _ _ _ _ _ | with_reducible apply Junk.alloc | with_reducible apply Junk.junk | with_reducible apply Junk.drew | with_reducible apply Junk.drewN)))))) HK3.out (S + 6) _ _ (by omega) b2u (some ⟨g3, 0, none⟩) 6 3 _ (tnAll xs l 16 2 addr port) rfl (by omega) (HA6.out _ (HS4.out.on HK3.out (by (first | ((repeat (first | with_reducible exact Junk.refl _ | with_reducible exact Junk.app _ _ _ _ _ | with_reducible apply Junk.alloc | with_reducible apply Junk.junk | with_reducible apply Junk.drew | with_reducible apply Junk.drewN)); done) | ((try simp only [World.junk_junk, Array.append_assoc]); (repeat (first | with_reducible exact Junk.refl _ | with_reducible exact Junk.app _ _ _ _ _ | with_reducible exact Junk.app2 _ _ _ _ _ _ | with_reducible exact Junk.app3 _ _ _ _ _ _ _ | with_reducible exact Junk.app4 _ _ _ _ _ _ _ _ | with_reducible exact Junk.app5 _ _ _ _ _ _ _ _ _ | with_reducible apply Junk.alloc | with_reducible apply Junk.junk | with_reducible apply Junk.drew | with_reducible apply Junk.drewN)))))).f) (fun i _ => HAB.out i)).mono ?_; rintro e V5 ⟨rfl, hS5⟩; have HS5 := Lib.hid hS5; clear hS5))
        go_meet
        refine ⟨_, rfl, Lib.hid ?_⟩
        have := HS5.out
        unfold tn2
        rw [if_neg HPI.out, if_pos HPU.out, HSS.out, if_neg (by rw [HWU.out]; exact HZ.out)]
        exact this
    · have hu1 : (t.proto == 17) = false := by simpa using hu
      have HPU := Lib.hid (show ¬ (aboutIp xs l).proto = 17 by rw [← HPT.out]; exact hu)
      have hu2 : (t.proto == 6) = true := by
        rw [HPT.out] at hu ⊢
        rcases HPR.out with h | h | h
        · simpa using h
        · exact absurd h hu
        · exact absurd h.1 HPI.out
      clear hu
      by_cases hz : 18 ≤ Bd
      · have hz1 : (18 : Int) ≤ (Bd : Int) := by omega
        have z16 : (16 : Int) ≤ (Bd : Int) := by omega
        have nz16 : ¬ CB = 16 := by omega
        have b2t : 2 ≤ Bd - 16 := by omega
        have HZ := Lib.hid hz
        clear hz
        go_wp2_with (first | (go_at_call 73; refine (in_full_st (HS4.out.on HK3.out (by (first | ((repeat (first | with_reducible exact Junk.refl _ | with_reducible exact Junk.app _ _ _ _ _ | with_reducible apply Junk.alloc | with_reducible apply Junk.junk | with_reducible apply Junk.drew | with_reducible apply Junk.drewN)); done) | ((try simp only [World.junk_junk, Array.append_assoc]); (repeat (first | with_reducible exact Junk.refl _ | with_reducible exact Junk.app _ _ _ _ _ | with_reducible exact Junk.app2 _ _ _ _ _ _ | with_reducible exact Junk.app3 _ _ _ _ _ _ _ | with_reducible exact Junk.app4 _ _ _ _ _ _ _ _ | with_reducible exact Junk.app5 _ _ _ _ _ _ _ _ _ | with_reducible apply Junk.alloc | with_reducible apply Junk.junk | with_reducible apply Junk.drew | with_reducible apply Junk.drewN)))))) HK3.out (S + 16) _ _ (by omega) b2t (some ⟨g3, 0, none⟩) 6 3 _ (tnAll xs l 16 2 addr port) rfl (by omega) (HA6.out _ (HS4.out.on HK3.out (by (first | ((repeat (first | with_reducible exact Junk.refl _ | with_reducible exact Junk.app _ _ _ _ _ | with_reducible apply Junk.alloc | with_reducible apply Junk.junk | with_reducible apply Junk.drew | with_reducible apply Junk.drewN)); done) | ((try simp only [World.junk_junk, Array.append_assoc]); (repeat (first | with_reducible exact Junk.refl _ | with_reducible exact Junk.app _ _ _ _ _ | with_reducible exact Junk.app2 _ _ _ _ _ _ | with_reducible exact Junk.app3 _ _ _ _ _ _ _ | with_reducible exact Junk.app4 _ _ _ _ _ _ _ _ | with_reducible exact Junk.app5 _ _ _ _ _ _ _ _ _ | with_reducible apply Junk.alloc | with_reducible apply Junk.junk | with_reducible apply Junk.drew | with_reducible apply Junk.drewN)))))).f) (fun i _ => HAB.out i)).mono ?_; rintro e V5 ⟨rfl, hS5⟩; have HS5 := Lib.hid hS5; clear hS5))
        go_meet
        refine ⟨_, rfl, Lib.hid ?_⟩
        have := HS5.out
        unfold tn2
        rw [if_neg HPI.out, if_neg HPU.out, HSS.out, if_pos (by rw [HBLU.out, HBd.out]; exact HZ.out)]
        exact this
      · have hz1 : (Bd : Int) < (18 : Int) := by omega
        have HZ := Lib.hid hz
        clear hz
        go_wp2
        go_meet
        refine ⟨_, rfl, Lib.hid ?_⟩
        have := HS4.out
        unfold tn2
        rw [if_neg HPI.out, if_neg HPU.out, HSS.out, if_neg (by rw [HBLU.out, HBd.out]; exact HZ.out)]
        exact this
  case rest =>
    obtain ⟨V6, rfl, HS6⟩ := hcut
    have hgs6 := HS6.out.gs
    have d0 := HS6.out.cell (S + 2) (by omega)
    have d1 := HS6.out.cell (S + 3) (by omega)
    have z0 := HS6.out.fz (S + 2) (by omega)
    have z1 := HS6.out.fz (S + 3) (by omega)
    have p0 := wrapk_u8 (port / 256) (by omega) (by omega)
    have p1 : IntKind.u8.wrap port = port % 256 := IntKind.wrap_u8 _
    have atb : (2 : Int) < (Bd : Int) := by omega
    have atb1 : (2 : Int) + 1 < (Bd : Int) := by omega
    have atn : 2 < Bd := by omega
    have atn1 : 2 + 1 < Bd := by omega
    go_upto_region 23 with (fail)
    have HS7 := (HS6.out.set HK3.out (S + 2) (port / 256) (by omega)).set HK3.out (S + 3) (port % 256) (by omega)
    clear d0 d1 z0 z1
    generalize (V6.setCell ⟨g, S + 2, none⟩ (.int .u8 (port / 256))).setCell ⟨g, S + 3, none⟩ (.int .u8 (port % 256)) = V7 at HS7 ⊢
    have HJ7 := Lib.hid HS7.j
    have HS7' := Lib.hid HS7
    have hwg : w.heap.size ≤ g := HS7.lt
    have hgs7 := HS7.gs
    obtain ⟨ka1, ka2, _⟩ := HS7.f (w.heap.size, 0, .int .i64 16) (by simp)
    obtain ⟨kb1, kb2, _⟩ := HS7.f ((w.heap.size + 1 + 1 + 1 + osN.size + 1 + osD.size), 0, .int .u16 (addr / 65536)) (by simp)
    obtain ⟨kc1, kc2, _⟩ := HS7.f ((w.heap.size + 1 + 1 + 1 + osN.size + 1 + osD.size), 1, .int .u16 (addr % 65536)) (by simp)
    have y0 := HS7.cell 16 (by omega)
    have y1 := HS7.cell 17 (by omega)
    have v0 := HS7.fz 16 (by omega)
    have v1 := HS7.fz 17 (by omega)
    have u0 := wrapk_u8 (addr / 65536 / 256) (by omega) (by omega)
    have u1 : IntKind.u8.wrap (addr / 65536) = addr / 65536 % 256 := IntKind.wrap_u8 _
    have ngw : ¬ g = w.heap.size := by omega
    have ngb : ¬ g = (w.heap.size + 1 + 1 + 1 + osN.size + 1 + osD.size) := by omega
    have HF8 := Lib.hid (fun (W : World) (hj : Junk V7 W) => show CsH [(w.heap.size, 0, .int .i64 16)] W from (HS7.f.sub (fun q hq => by simp at hq; subst hq; simp)).on hj)
    have HK8 := Lib.hid (CsH.keeps (g := g) (L := [(w.heap.size, 0, .int .i64 16)]) (by simp; omega))
    have hq8 : ∀ x : WF [(w.heap.size, 0, .int .i64 16)], x.V.cell? ⟨w.heap.size, 0, none⟩ = some (.int .i64 16) := fun x => (x.h (w.heap.size, 0, .int .i64 16) (by simp)).2.1
    have hq9 : ∀ x : WF [(w.heap.size, 0, .int .i64 16)], w.heap.size < x.V.heap.size := fun x => (x.h (w.heap.size, 0, .int .i64 16) (by simp)).1
    haveI : Inhabited (WF [(w.heap.size, 0, .int .i64 16)]) := ⟨⟨V7, HF8.out V7 (Junk.refl _)⟩⟩
    have si0 : (16 : Int) < (S : Int) := by omega
    have si1 : (17 : Int) < (S : Int) := by omega
    have si2 : (18 : Int) < (S : Int) := by omega
    have si3 : (19 : Int) < (S : Int) := by omega
    have sn0 : 16 < S := by omega
    have sn1 : 17 < S := by omega
    have sn2 : 18 < S := by omega
    have sn3 : 19 < S := by omega
    clear HS7 HS6
    go_wp2
    refine wp_loop_rounds 3 ?_
    rw [rounds_succ]
    go_upto_region 26 with (fail)
    refine wp_region_mixf ([(w.heap.size, 0, .int .i64 16)]) [(0, true), (1, true), (2, true), (3, true), (4, true), (5, true), (6, true), (7, true), (8, true), (9, true), (10, true), (11, true), (12, true), (13, true), (14, true), (15, true), (16, true), (17, true), (18, true), (19, false), (20, true), (21, false)] (by kernel_rfl) (by kernel_rfl) (HF8.out V7 (Junk.refl _)) ?_; (iterate 19 (refine wpMix_q rfl (fun K hK => ?_); (go_simp; try go_bits); (refine hK _ ?_; clear hK K))); refine wpMix_e rfl (fun osm26_0 dm26_0 K hK => ?_); (go_simp; try go_bits); refine hK _ _ (⟨⟨_, by (repeat (first | exact HF8.out _ (Junk.refl _) | refine CsH.on ?_ ⟨_, _, rfl⟩ | refine HK8.out.set _ _ _ ?_))⟩, rfl⟩) ?_; clear hK K; (iterate 1 (refine wpMix_q rfl (fun K hK => ?_); (go_simp; try go_bits); (refine hK _ ?_; clear hK K))); refine wpMix_e rfl (fun osm26_1 dm26_1 K hK => ?_); (go_simp; try go_bits); refine hK _ _ (⟨⟨_, by (repeat (first | exact HF8.out _ (Junk.refl _) | refine CsH.on ?_ ⟨_, _, rfl⟩ | refine HK8.out.set _ _ _ ?_))⟩, rfl⟩) ?_; clear hK K; refine wpMix_nil (fun osm dm => ?_)
    (try simp only [World.junk_junk])
    have HS8 := ((HS7'.out.set HK3.out 16 (addr / 65536 / 256) (by omega)).set HK3.out 17 (addr / 65536 % 256) (by omega)).on HK3.out (V' := ((V7.setCell ⟨g, 16, none⟩ (.int .u8 (addr / 65536 / 256))).setCell ⟨g, 17, none⟩ (.int .u8 (addr / 65536 % 256))).junk ((osm26_0 ++ osm26_1) ++ osm) dm) ⟨_, _, rfl⟩
    clear y0 y1 v0 v1 ka1 ka2 kb1 kb2 kc1 kc2 hgs7 HF8
    generalize ((V7.setCell ⟨g, 16, none⟩ (.int .u8 (addr / 65536 / 256))).setCell ⟨g, 17, none⟩ (.int .u8 (addr / 65536 % 256))).junk ((osm26_0 ++ osm26_1) ++ osm) dm = V8 at HS8 ⊢
    have HJ8 := Lib.hid HS8.j
    have HS8' := Lib.hid HS8
    have hgs8 := HS8.gs
    obtain ⟨ka1, ka2, _⟩ := HS8.f (w.heap.size, 0, .int .i64 16) (by simp)
    obtain ⟨kc1, kc2, _⟩ := HS8.f ((w.heap.size + 1 + 1 + 1 + osN.size + 1 + osD.size), 1, .int .u16 (addr % 65536)) (by simp)
    have y2 := HS8.cell 18 (by omega)
    have y3 := HS8.cell 19 (by omega)
    have v2 := HS8.fz 18 (by omega)
    have v3 := HS8.fz 19 (by omega)
    have u2 := wrapk_u8 (addr % 65536 / 256) (by omega) (by omega)
    have u3 : IntKind.u8.wrap (addr % 65536) = addr % 65536 % 256 := IntKind.wrap_u8 _
    have HF8 := Lib.hid (fun (W : World) (hj : Junk V8 W) => show CsH [(w.heap.size, 0, .int .i64 16)] W from (HS8.f.sub (fun q hq => by simp at hq; subst hq; simp)).on hj)
    clear HS8
    go_wp2
    rw [rounds_succ]
    go_upto_region 26 with (fail)
    refine wp_region_mixf ([(w.heap.size, 0, .int .i64 16)]) [(0, true), (1, true), (2, true), (3, true), (4, true), (5, true), (6, true), (7, true), (8, true), (9, true), (10, true), (11, true), (12, true), (13, true), (14, true), (15, true), (16, true), (17, true), (18, true), (19, false), (20, true), (21, false)] (by kernel_rfl) (by kernel_rfl) (HF8.out V8 (Junk.refl _)) ?_; (iterate 19 (refine wpMix_q rfl (fun K hK => ?_); (go_simp; try go_bits); (refine hK _ ?_; clear hK K))); refine wpMix_e rfl (fun osm26_0 dm26_0 K hK => ?_); (go_simp; try go_bits); refine hK _ _ (⟨⟨_, by (repeat (first | exact HF8.out _ (Junk.refl _) | refine CsH.on ?_ ⟨_, _, rfl⟩ | refine HK8.out.set _ _ _ ?_))⟩, rfl⟩) ?_; clear hK K; (iterate 1 (refine wpMix_q rfl (fun K hK => ?_); (go_simp; try go_bits); (refine hK _ ?_; clear hK K))); refine wpMix_e rfl (fun osm26_1 dm26_1 K hK => ?_); (go_simp; try go_bits); refine hK _ _ (⟨⟨_, by (repeat (first | exact HF8.out _ (Junk.refl _) | refine CsH.on ?_ ⟨_, _, rfl⟩ | refine HK8.out.set _ _ _ ?_))⟩, rfl⟩) ?_; clear hK K; refine wpMix_nil (fun osm dm => ?_)
    (try simp only [World.junk_junk])
    have HS9 := ((HS8'.out.set HK3.out 18 (addr % 65536 / 256) (by omega)).set HK3.out 19 (addr % 256) (by omega)).on HK3.out (V' := ((V8.setCell ⟨g, 18, none⟩ (.int .u8 (addr % 65536 / 256))).setCell ⟨g, 19, none⟩ (.int .u8 (addr % 256))).junk ((osm26_0 ++ osm26_1) ++ osm) dm) ⟨_, _, rfl⟩
    clear y2 y3 v2 v3 ka1 ka2 kc1 kc2 hgs8 HF8
    generalize ((V8.setCell ⟨g, 18, none⟩ (.int .u8 (addr % 65536 / 256))).setCell ⟨g, 19, none⟩ (.int .u8 (addr % 256))).junk ((osm26_0 ++ osm26_1) ++ osm) dm = V9 at HS9 ⊢
    have HJ9 := Lib.hid HS9.j
    have HS9' := Lib.hid HS9
    obtain ⟨m00, m01, _⟩ := HS9.f (w.heap.size + 1, 0, .int .i64 kind) (by simp)
    obtain ⟨_, m11, _⟩ := HS9.f (w.heap.size + 1, 1, .int .i64 code) (by simp)
    obtain ⟨_, m21, _⟩ := HS9.f (w.heap.size + 1, 2, .int .u32 rest) (by simp)
    obtain ⟨_, m31, m32⟩ := HS9.f (w.heap.size + 1, 3, .slice (some ad) l c) (by simp)
    obtain ⟨r00, r01, r02⟩ := HS9.f (w.heap.size + 1 + 1, 0, .int .i64 0) (by simp)
    obtain ⟨_, r11, r12⟩ := HS9.f (w.heap.size + 1 + 1, 1, .int .i64 0) (by simp)
    obtain ⟨_, r21, r22⟩ := HS9.f (w.heap.size + 1 + 1, 2, .int .u32 0) (by simp)
    obtain ⟨_, r31, r32⟩ := HS9.f (w.heap.size + 1 + 1, 3, .slice none 0 0) (by simp)
    clear HS9
    go_wp2
    rw [rounds_succ]
    go_wp2
    obtain ⟨wz0, wz1, wz2, wz3⟩ := set4_cells (V := V9.setCell ⟨w.heap.size + 1, 3, none⟩ (.slice (some ⟨g, 0, none⟩) l cap)) (b := w.heap.size + 1 + 1) (v0 := .int .i64 kind) (v1 := .int .i64 code) (v2 := .int .u32 rest) (v3 := .slice (some ⟨g, 0, none⟩) l cap) (cell_far _ r01 (by omega)) (cell_far _ r11 (by omega)) (cell_far _ r21 (by omega)) (cell_far _ r31 (by omega))
    have hbg := HS9'.out.b
    have hng1 : ¬ w.heap.size + 1 = g := by omega
    have hng2 : ¬ w.heap.size + 1 + 1 = g := by omega
    have hJZ := ((((HJ9.out.setCell (a := ⟨w.heap.size + 1, 3, none⟩) (by show w.heap.size ≤ w.heap.size + 1; omega) (.slice (some ⟨g, 0, none⟩) l cap)).setCell (a := ⟨w.heap.size + 1 + 1, 0, none⟩) (by show w.heap.size ≤ w.heap.size + 1 + 1; omega) (.int .i64 kind)).setCell (a := ⟨w.heap.size + 1 + 1, 1, none⟩) (by show w.heap.size ≤ w.heap.size + 1 + 1; omega) (.int .i64 code)).setCell (a := ⟨w.heap.size + 1 + 1, 2, none⟩) (by show w.heap.size ≤ w.heap.size + 1 + 1; omega) (.int .u32 rest)).setCell (a := ⟨w.heap.size + 1 + 1, 3, none⟩) (by show w.heap.size ≤ w.heap.size + 1 + 1; omega) (.slice (some ⟨g, 0, none⟩) l cap)
    have hBZ := bts_far (bts_far (bts_far (bts_far (bts_far hbg (i := 3) (.slice (some ⟨g, 0, none⟩) l cap) hng1) (i := 0) (.int .i64 kind) hng2) (i := 1) (.int .i64 code) hng2) (i := 2) (.int .u32 rest) hng2) (i := 3) (.slice (some ⟨g, 0, none⟩) l cap) hng2
    have HBZ := Lib.hid hBZ
    have HJZ := Lib.hid hJZ
    clear hBZ hJZ hbg m01 m11 m21 m31 m32 r01 r02 r11 r12 r21 r22 r31 r32
    generalize ((((V9.setCell ⟨w.heap.size + 1, 3, none⟩ (.slice (some ⟨g, 0, none⟩) l cap)).setCell ⟨w.heap.size + 1 + 1, 0, none⟩ (.int .i64 kind)).setCell ⟨w.heap.size + 1 + 1, 1, none⟩ (.int .i64 code)).setCell ⟨w.heap.size + 1 + 1, 2, none⟩ (.int .u32 rest)).setCell ⟨w.heap.size + 1 + 1, 3, none⟩ (.slice (some ⟨g, 0, none⟩) l cap) = WZ at wz0 wz1 wz2 wz3 HBZ HJZ ⊢
    refine bodyPost_ret (by simp [results, Try.results35, go_sem, wz0, wz1, wz2, wz3]; try rfl) rfl ?_
    refine ⟨HJZ.out, .inr ⟨HE.out, some ⟨g, 0, none⟩, cap, ?_, rfl⟩⟩
    have hY : tnB xs l 16 2 addr port = w2 (w2 (w2 (tn2 xs l 16 2 addr port) (S + 2) port) 16 (addr / 65536)) (16 + 2) (addr % 65536) := by unfold tnB; rw [HSS.out, hcat]
    rw [hY]
    unfold w2
    rw [show addr % 65536 % 256 = addr % 256 by omega]
    exact HBZ.out
end Go.Proofs.Ytnefphinmjeacaa
