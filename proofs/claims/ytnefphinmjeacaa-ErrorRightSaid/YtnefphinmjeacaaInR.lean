/- The reference's words, menders and names. -/
import Derived.Test.YtnefphinmjeacaaInP
import Derived.Test.YtnefphinmjeacaaIcmpRAbout
set_option linter.unusedVariables false
set_option maxRecDepth 100000
set_option linter.unusedSimpArgs false
namespace Go.Proofs.Ytnefphinmjeacaa
open Go.RowKit
theorem rpair_v {b off l c : Nat} {xs : Nat → Int} {w : World} (h : Bts w (some ⟨b, off, none⟩) l c xs) (i : Nat) (v : Int) (hv : wd xs i = v) (hi : i + 2 ≤ l) :
    Calls Try.prog 34 #[.slice (some ⟨b, off, none⟩) l c, .int .i64 (i : Nat)] w fun e w' => e = .returned (.int .i64 v) ∧ Junk w w' := by
  have cell : ∀ k, k < l → b < w.heap.size ∧ w.cell? ⟨b, off + k, none⟩ = some (.int .u8 (xs k)) := fun k hk => by
    obtain ⟨b', off', he, hlt, hc⟩ := h.at_ k hk
    cases he
    exact ⟨hlt, hc⟩
  obtain ⟨hb, c0⟩ := cell i (by omega)
  obtain ⟨_, c1⟩ := cell (i + 1) (by omega)
  have b0 := h.byte i (by omega)
  have b1 := h.byte (i + 1) (by omega)
  obtain ⟨x0, hx0⟩ : ∃ x, xs i = x := ⟨_, rfl⟩
  obtain ⟨x1, hx1⟩ : ∃ x, xs (i + 1) = x := ⟨_, rfl⟩
  rw [hx0] at c0 b0
  rw [hx1] at c1
  have c1' := c1
  rw [← Nat.add_assoc] at c1'
  have hcap : c ≤ 9223372036854775807 := h.cap
  have hle := h.le
  rw [hx1] at b1
  have HV := Lib.hid (show v = x0 * 256 + x1 by rw [← hv, ← hx0, ← hx1]; rfl)
  have u1 : ((i : Int) + 1).toNat = i + 1 := by omega
  have q1 := wrapk_i64 x0 (by omega) (by omega)
  have q2 := wrapk_i64 x1 (by omega) (by omega)
  have q3 := wrapk_i64 (x0 * 256) (by omega) (by omega)
  have q4 := wrapk_i64 (x0 * 256 + x1) (by omega) (by omega)
  have q5 := wrapk_i64 ((i : Int) + 1) (by omega) (by omega)
  have j0 : (i : Int) < (l : Int) := by omega
  have j1 : (i : Int) + 1 < (l : Int) := by omega
  have i0 : i < l := by omega
  have i1 : i + 1 < l := by omega
  have n0 : (0 : Int) ≤ (i : Int) := by omega
  have n1 : (0 : Int) ≤ (i : Int) + 1 := by omega
  rw [HV.out]
  clear hv hx0 hx1 cell
  go_enter Try.func34, Try.ntmps34
  go_wp2
  refine wp_region_junk (by kernel_rfl) (by kernel_rfl) ?_; (repeat (go_big_quiet_step (first | fail))); refine wpQuiet_nil ?_; rintro _ ⟨⟨osq, dq⟩, rfl⟩
  go_wp2
  go_ret
  exact ⟨rfl, by (repeat (first | with_reducible exact Junk.refl _ | with_reducible exact Junk.app _ _ _ _ _ | with_reducible apply Junk.alloc | with_reducible apply Junk.junk | with_reducible apply Junk.drew | with_reducible apply Junk.drewN))⟩
theorem rset_st {F : World → Prop} {W0 V : World} {g l cap : Nat} {xs : Nat → Int} (h : St F W0 V g l cap xs) (hK : Keeps g F) (i : Nat) (n : Int) (hi : i + 2 ≤ l) (hl : l ≤ 100000000) (hn : 0 ≤ n ∧ n ≤ 65535) :
    Calls Try.prog 37 #[.slice (some ⟨g, 0, none⟩) l cap, .int .i64 (i : Nat), .int .i64 n] V (InM F W0 g l cap (w2 xs i n)) := by
  have HS := Lib.hid ((h.set hK i (n / 256) (by omega)).set hK (i + 1) (n % 256) (by omega))
  have hgs := h.gs
  have c0 := h.cell i (by omega)
  have c1 := h.cell (i + 1) (by omega)
  have f0 := h.fz i (by omega)
  have f1 := h.fz (i + 1) (by omega)
  have q1 := wrapk_u8 (n / 256) (by omega) (by omega)
  have q2 := wrapk_u8 (n % 256) (by omega) (by omega)
  have q3 := wrapk_i64 (n / 256) (by omega) (by omega)
  have q4 := wrapk_i64 (n % 256) (by omega) (by omega)
  have q5 := wrapk_i64 ((i : Int) + 1) (by omega) (by omega)
  have t1 : Int.tdiv n 256 = n / 256 := Int.tdiv_eq_ediv_of_nonneg hn.1
  have t2 : Int.tmod n 256 = n % 256 := Int.tmod_eq_emod_of_nonneg hn.1
  have j0 : (i : Int) < (l : Int) := by omega
  have j1 : (i : Int) + 1 < (l : Int) := by omega
  have i0 : i < l := by omega
  have i1 : i + 1 < l := by omega
  have n0 : (0 : Int) ≤ (i : Int) := by omega
  have n1 : (0 : Int) ≤ (i : Int) + 1 := by omega
  have u1 : ((i : Int) + 1).toNat = i + 1 := by omega
  go_enter Try.func37, Try.ntmps37
  go_wp2
  go_returns
  exact ⟨rfl, HS.out⟩
theorem rmend_st {F : World → Prop} {W0 V : World} {g l cap : Nat} {xs : Nat → Int} (h : St F W0 V g l cap xs) (hK : Keeps g F) (i : Nat) (o n v : Int) (hv : mendI (wd xs i) o n = v) (hi : i + 2 ≤ l) (hl : l ≤ 100000000) (ho : 0 ≤ o ∧ o ≤ 65535) (hn : 0 ≤ n ∧ n ≤ 65535) :
    Calls Try.prog 36 #[.slice (some ⟨g, 0, none⟩) l cap, .int .i64 (i : Nat), .int .i64 o, .int .i64 n] V (InM F W0 g l cap (w2 xs i v)) := by
  have HS := Lib.hid h
  have HK := Lib.hid hK
  obtain ⟨c, hc⟩ : ∃ c, wd xs i = c := ⟨_, rfl⟩
  have hb := wd_bd (h.b.byte i (by omega)) (h.b.byte (i + 1) (by omega))
  have HC := Lib.hid hc
  rw [hc] at hb hv
  have hvb := mendI_bd hb ho hn
  rw [hv] at hvb
  have HM := Lib.hid (fun w1 => show Calls Try.prog 74 #[.int .u16 c, .int .u16 o, .int .u16 n] w1 fun e w' => e = .returned (.int .u16 v) ∧ w1 = w' by rw [← hv]; exact rmend2_any c o n w1 hb ho hn)
  have q1 := wrapk_u16 c (by omega) (by omega)
  have q2 := wrapk_u16 o (by omega) (by omega)
  have q3 := wrapk_u16 n (by omega) (by omega)
  have q4 := wrapk_i64 v (by omega) (by omega)
  clear hc hv h hK
  go_enter Try.func36, Try.ntmps36
  go_wp2_with (first | (go_at_call 34; (with_reducible refine (rpair_v (HS.out.b.on (by (first | ((repeat (first | with_reducible exact Junk.refl _ | with_reducible exact Junk.app _ _ _ _ _ | with_reducible apply Junk.alloc | with_reducible apply Junk.junk | with_reducible apply Junk.drew | with_reducible apply Junk.drewN)); done) | ((try simp only [World.junk_junk, Array.append_assoc]); (repeat (first | with_reducible exact Junk.refl _ | with_reducible exact Junk.app _ _ _ _ _ | with_reducible exact Junk.app2 _ _ _ _ _ _ | with_reducible exact Junk.app3 _ _ _ _ _ _ _ | with_reducible exact Junk.app4 _ _ _ _ _ _ _ _ | with_reducible exact Junk.app5 _ _ _ _ _ _ _ _ _ | with_reducible apply Junk.alloc | with_reducible apply Junk.junk | with_reducible apply Junk.drew | with_reducible apply Junk.drewN)))))) i c HC.out hi).mono ?_); rintro e w' ⟨rfl, ⟨osj, dj, rfl⟩⟩) | (go_at_call 74; (with_reducible refine (HM.out _).mono ?_); rintro e w' ⟨rfl, rfl⟩) | (go_at_call 37; refine (rset_st (HS.out.on HK.out (by (first | ((repeat (first | with_reducible exact Junk.refl _ | with_reducible exact Junk.app _ _ _ _ _ | with_reducible apply Junk.alloc | with_reducible apply Junk.junk | with_reducible apply Junk.drew | with_reducible apply Junk.drewN)); done) | ((try simp only [World.junk_junk, Array.append_assoc]); (repeat (first | with_reducible exact Junk.refl _ | with_reducible exact Junk.app _ _ _ _ _ | with_reducible exact Junk.app2 _ _ _ _ _ _ | with_reducible exact Junk.app3 _ _ _ _ _ _ _ | with_reducible exact Junk.app4 _ _ _ _ _ _ _ _ | with_reducible exact Junk.app5 _ _ _ _ _ _ _ _ _ | with_reducible apply Junk.alloc | with_reducible apply Junk.junk | with_reducible apply Junk.drew | with_reducible apply Junk.drewN)))))) HK.out i v hi hl hvb).mono ?_; rintro e V2 ⟨rfl, hS2⟩; have HS2 := Lib.hid hS2; clear hS2))
  go_returns
  exact ⟨rfl, HS2.out⟩
theorem rpair_k {b off l c : Nat} {xs : Nat → Int} {w : World} (h : Bts w (some ⟨b, off, none⟩) l c xs) (i : Nat) (j : Int) (v : Int) (hv : wd xs i = v) (hj : j = (i : Int)) (hi : i + 2 ≤ l) :
    Calls Try.prog 34 #[.slice (some ⟨b, off, none⟩) l c, .int .i64 j] w fun e w' => e = .returned (.int .i64 v) ∧ Junk w w' := hj ▸ rpair_v h i v hv hi
theorem rset_k {F : World → Prop} {W0 V : World} {g l cap : Nat} {xs : Nat → Int} (h : St F W0 V g l cap xs) (hK : Keeps g F) (i : Nat) (j : Int) (n : Int) (hj : j = (i : Int)) (hi : i + 2 ≤ l) (hl : l ≤ 100000000) (hn : 0 ≤ n ∧ n ≤ 65535) :
    Calls Try.prog 37 #[.slice (some ⟨g, 0, none⟩) l cap, .int .i64 j, .int .i64 n] V (InM F W0 g l cap (w2 xs i n)) := hj ▸ rset_st h hK i n hi hl hn
theorem rmend_k {F : World → Prop} {W0 V : World} {g l cap : Nat} {xs : Nat → Int} (h : St F W0 V g l cap xs) (hK : Keeps g F) (i : Nat) (j : Int) (o n v : Int) (hv : mendI (wd xs i) o n = v) (hj : j = (i : Int)) (hi : i + 2 ≤ l) (hl : l ≤ 100000000) (ho : 0 ≤ o ∧ o ≤ 65535) (hn : 0 ≤ n ∧ n ≤ 65535) :
    Calls Try.prog 36 #[.slice (some ⟨g, 0, none⟩) l cap, .int .i64 j, .int .i64 o, .int .i64 n] V (InM F W0 g l cap (w2 xs i v)) := hj ▸ rmend_st h hK i o n v hv hi hl ho hn
set_option maxHeartbeats 8000000 in
theorem rnames_any (kind code rest : Int) (oa : Option Addr) (l c : Nat) (xs : Nat → Int) (w : World) (hl : l ≤ 100000000) (hB : Bts w oa l c xs) :
    Calls Try.prog 12 #[.agg #[.int .i64 kind, .int .i64 code, .int .u32 rest, .slice oa l c]] w (NmM w (nmErr kind xs l) (nmTup xs l)) := by
  have HB := Lib.hid hB
  clear hB
  by_cases h0 : aboutErr kind xs l = 0
  case neg =>
    obtain ⟨E, hE⟩ : ∃ E, aboutErr kind xs l = E := ⟨_, rfl⟩
    have HE := Lib.hid (show nmErr kind xs l = E by unfold nmErr; rw [if_pos h0]; exact hE)
    rw [hE] at h0
    have hne : (E != 0) = true := by simpa using h0
    have H0 := Lib.hid h0
    have HAB := Lib.hid (fun w1 (hb : Bts w1 oa l c xs) => show Calls Try.prog 33 #[.agg #[.int .i64 kind, .int .i64 code, .int .u32 rest, .slice oa l c]] w1 fun e w' => e = .returned (.tuple #[.agg #[.int .i64 zeroIp.tos, .int .i64 zeroIp.id, .bool zeroIp.df, .bool zeroIp.mf, .int .i64 zeroIp.off, .int .i64 zeroIp.ttl, .int .i64 zeroIp.proto, .int .u32 zeroIp.src, .int .u32 zeroIp.dst, .slice none zeroIp.ol 0, .slice none zeroIp.bl 0], .int .i64 E]) ∧ Junk w1 w' from (rabout_any kind code rest oa l c xs w1 hl hb).mono fun e w' hp => by
      obtain ⟨p, oo, ob, oc, bc, rfl, hj, hI, ⟨h1, _⟩ | ⟨_, rfl, rfl, rfl, rfl, rfl⟩⟩ := hp
      · exact absurd (hE.symm.trans h1) h0
      · exact ⟨by rw [hE], hj⟩)
    clear hE h0
    go_enter Try.func12, Try.ntmps12
    go_wp2_with (first | (go_at_call 33; (with_reducible refine (HAB.out _ (HB.out.on (by (first | ((repeat (first | with_reducible exact Junk.refl _ | with_reducible exact Junk.app _ _ _ _ _ | with_reducible apply Junk.alloc | with_reducible apply Junk.junk | with_reducible apply Junk.drew | with_reducible apply Junk.drewN)); done) | ((try simp only [World.junk_junk, Array.append_assoc]); (repeat (first | with_reducible exact Junk.refl _ | with_reducible exact Junk.app _ _ _ _ _ | with_reducible exact Junk.app2 _ _ _ _ _ _ | with_reducible exact Junk.app3 _ _ _ _ _ _ _ | with_reducible exact Junk.app4 _ _ _ _ _ _ _ _ | with_reducible exact Junk.app5 _ _ _ _ _ _ _ _ _ | with_reducible apply Junk.alloc | with_reducible apply Junk.junk | with_reducible apply Junk.drew | with_reducible apply Junk.drewN))))))).mono ?_); rintro e w' ⟨rfl, ⟨osj, dj, rfl⟩⟩))
    go_returns
    exact nm_bad HE.out H0.out (by (first | ((repeat (first | with_reducible exact Junk.refl _ | with_reducible exact Junk.app _ _ _ _ _ | with_reducible apply Junk.alloc | with_reducible apply Junk.junk | with_reducible apply Junk.drew | with_reducible apply Junk.drewN)); done) | ((try simp only [World.junk_junk, Array.append_assoc]); (repeat (first | with_reducible exact Junk.refl _ | with_reducible exact Junk.app _ _ _ _ _ | with_reducible exact Junk.app2 _ _ _ _ _ _ | with_reducible exact Junk.app3 _ _ _ _ _ _ _ | with_reducible exact Junk.app4 _ _ _ _ _ _ _ _ | with_reducible exact Junk.app5 _ _ _ _ _ _ _ _ _ | with_reducible apply Junk.alloc | with_reducible apply Junk.junk | with_reducible apply Junk.drew | with_reducible apply Junk.drewN)))))
  obtain ⟨p, hp⟩ : ∃ p, aboutIp xs l = p := ⟨_, rfl⟩
  have HAB := Lib.hid (fun w1 (hb : Bts w1 oa l c xs) => show Calls Try.prog 33 #[.agg #[.int .i64 kind, .int .i64 code, .int .u32 rest, .slice oa l c]] w1 fun e w' => ∃ (oo ob : Option Addr) (oc bc : Nat), e = .returned (.tuple #[.agg #[.int .i64 p.tos, .int .i64 p.id, .bool p.df, .bool p.mf, .int .i64 p.off, .int .i64 p.ttl, .int .i64 p.proto, .int .u32 p.src, .int .u32 p.dst, .slice oo p.ol oc, .slice ob p.bl bc], .int .i64 0]) ∧ Junk w1 w' ∧ IpAt w' p oo oc ob bc from (rabout_any kind code rest oa l c xs w1 hl hb).mono fun e w' hq => by
    obtain ⟨p', oo, ob, oc, bc, rfl, hj, hI, ⟨_, rfl⟩ | ⟨h1, _⟩⟩ := hq
    · rw [hp] at hI ⊢
      exact ⟨oo, ob, oc, bc, by rw [h0], hj, hI⟩
    · exact absurd h0 h1)
  have HE := Lib.hid (show nmErr kind xs l = if p.off ≠ 0 then 7 else if p.bl < 8 then 2 else if p.proto = 6 ∨ p.proto = 17 then 0 else if p.proto = 1 ∧ (asksB (p.body 0) || answersB (p.body 0)) = true then 0 else 9 by unfold nmErr; rw [if_neg (by rw [h0]; decide), hp])
  have HT := Lib.hid (show nmTup xs l = ⟨p.proto, p.src, nmPort p 0, p.dst, nmPort p 2⟩ by unfold nmTup; rw [hp])
  have HOFF := Lib.hid (show 0 ≤ p.off by rw [← hp]; exact Int.mul_nonneg (Int.emod_nonneg _ (by decide)) (by decide))
  clear h0 hp
  by_cases h7 : p.off = 0
  case neg =>
    have h7' : (0 : Int) < p.off := by have := HOFF.out; omega
    have HE2 := Lib.hid (show nmErr kind xs l = 7 by rw [HE.out, if_pos h7])
    clear h7
    go_enter Try.func12, Try.ntmps12
    go_wp2_with (first | (go_at_call 33; refine (HAB.out _ (HB.out.on (by (first | ((repeat (first | with_reducible exact Junk.refl _ | with_reducible exact Junk.app _ _ _ _ _ | with_reducible apply Junk.alloc | with_reducible apply Junk.junk | with_reducible apply Junk.drew | with_reducible apply Junk.drewN)); done) | ((try simp only [World.junk_junk, Array.append_assoc]); (repeat (first | with_reducible exact Junk.refl _ | with_reducible exact Junk.app _ _ _ _ _ | with_reducible exact Junk.app2 _ _ _ _ _ _ | with_reducible exact Junk.app3 _ _ _ _ _ _ _ | with_reducible exact Junk.app4 _ _ _ _ _ _ _ _ | with_reducible exact Junk.app5 _ _ _ _ _ _ _ _ _ | with_reducible apply Junk.alloc | with_reducible apply Junk.junk | with_reducible apply Junk.drew | with_reducible apply Junk.drewN))))))).mono ?_; rintro e w' ⟨oo, ob, oc, bc, rfl, ⟨osA, dA, rfl⟩, hI⟩; clear hI))
    go_returns
    exact nm_bad HE2.out (by decide) (by (first | ((repeat (first | with_reducible exact Junk.refl _ | with_reducible exact Junk.app _ _ _ _ _ | with_reducible apply Junk.alloc | with_reducible apply Junk.junk | with_reducible apply Junk.drew | with_reducible apply Junk.drewN)); done) | ((try simp only [World.junk_junk, Array.append_assoc]); (repeat (first | with_reducible exact Junk.refl _ | with_reducible exact Junk.app _ _ _ _ _ | with_reducible exact Junk.app2 _ _ _ _ _ _ | with_reducible exact Junk.app3 _ _ _ _ _ _ _ | with_reducible exact Junk.app4 _ _ _ _ _ _ _ _ | with_reducible exact Junk.app5 _ _ _ _ _ _ _ _ _ | with_reducible apply Junk.alloc | with_reducible apply Junk.junk | with_reducible apply Junk.drew | with_reducible apply Junk.drewN)))))
  have h7' : ¬ (0 : Int) < p.off := by omega
  by_cases h8 : p.bl < 8
  case pos =>
    have h8' : (p.bl : Int) < 8 := by omega
    have HE2 := Lib.hid (show nmErr kind xs l = 2 by rw [HE.out, if_neg (by simpa using h7), if_pos h8])
    clear h7 h8
    go_enter Try.func12, Try.ntmps12
    go_wp2_with (first | (go_at_call 33; refine (HAB.out _ (HB.out.on (by (first | ((repeat (first | with_reducible exact Junk.refl _ | with_reducible exact Junk.app _ _ _ _ _ | with_reducible apply Junk.alloc | with_reducible apply Junk.junk | with_reducible apply Junk.drew | with_reducible apply Junk.drewN)); done) | ((try simp only [World.junk_junk, Array.append_assoc]); (repeat (first | with_reducible exact Junk.refl _ | with_reducible exact Junk.app _ _ _ _ _ | with_reducible exact Junk.app2 _ _ _ _ _ _ | with_reducible exact Junk.app3 _ _ _ _ _ _ _ | with_reducible exact Junk.app4 _ _ _ _ _ _ _ _ | with_reducible exact Junk.app5 _ _ _ _ _ _ _ _ _ | with_reducible apply Junk.alloc | with_reducible apply Junk.junk | with_reducible apply Junk.drew | with_reducible apply Junk.drewN))))))).mono ?_; rintro e w' ⟨oo, ob, oc, bc, rfl, ⟨osA, dA, rfl⟩, hI⟩; clear hI))
    go_returns
    exact nm_bad HE2.out (by decide) (by (first | ((repeat (first | with_reducible exact Junk.refl _ | with_reducible exact Junk.app _ _ _ _ _ | with_reducible apply Junk.alloc | with_reducible apply Junk.junk | with_reducible apply Junk.drew | with_reducible apply Junk.drewN)); done) | ((try simp only [World.junk_junk, Array.append_assoc]); (repeat (first | with_reducible exact Junk.refl _ | with_reducible exact Junk.app _ _ _ _ _ | with_reducible exact Junk.app2 _ _ _ _ _ _ | with_reducible exact Junk.app3 _ _ _ _ _ _ _ | with_reducible exact Junk.app4 _ _ _ _ _ _ _ _ | with_reducible exact Junk.app5 _ _ _ _ _ _ _ _ _ | with_reducible apply Junk.alloc | with_reducible apply Junk.junk | with_reducible apply Junk.drew | with_reducible apply Junk.drewN)))))
  have h8' : ¬ (p.bl : Int) < 8 := by omega
  have HE3 := Lib.hid (show nmErr kind xs l = if p.proto = 6 ∨ p.proto = 17 then 0 else if p.proto = 1 ∧ (asksB (p.body 0) || answersB (p.body 0)) = true then 0 else 9 by rw [HE.out, if_neg (by simpa using h7), if_neg h8])
  have k2 : (2 : Int) ≤ (p.bl : Int) := by omega
  have k4 : (4 : Int) ≤ (p.bl : Int) := by omega
  have k0 : (0 : Int) < (p.bl : Int) := by omega
  have k0' : 0 < p.bl := by omega
  have hb8 : 8 ≤ p.bl := by omega
  clear h7 h8 HE
  by_cases h6 : p.proto = 6 ∨ p.proto = 17
  case pos =>
    have HE2 := Lib.hid (show nmErr kind xs l = 0 by rw [HE3.out, if_pos h6])
    obtain ⟨S, hS⟩ : ∃ s, wd p.body 0 = s := ⟨_, rfl⟩
    obtain ⟨D, hD⟩ : ∃ s, wd p.body 2 = s := ⟨_, rfl⟩
    have HS := Lib.hid hS
    have HD := Lib.hid hD
    have HT2 := Lib.hid (show nmTup xs l = ⟨p.proto, p.src, S, p.dst, D⟩ by rw [HT.out]; unfold nmPort; rw [if_neg (by omega), if_neg (by omega), hS, hD])
    clear hS hD HE3 HT
    have h6' : (p.proto == 6) = true ∨ ((p.proto == 6) = false ∧ (p.proto == 17) = true) := by
      rcases h6 with h | h
      · left; simpa using h
      · right; simp [h]
    clear h6
    rcases h6' with h6a | ⟨h6a, h6b⟩
    all_goals
      go_enter Try.func12, Try.ntmps12
      go_wp2_with (first | (go_at_call 33; refine (HAB.out _ (HB.out.on (by (first | ((repeat (first | with_reducible exact Junk.refl _ | with_reducible exact Junk.app _ _ _ _ _ | with_reducible apply Junk.alloc | with_reducible apply Junk.junk | with_reducible apply Junk.drew | with_reducible apply Junk.drewN)); done) | ((try simp only [World.junk_junk, Array.append_assoc]); (repeat (first | with_reducible exact Junk.refl _ | with_reducible exact Junk.app _ _ _ _ _ | with_reducible exact Junk.app2 _ _ _ _ _ _ | with_reducible exact Junk.app3 _ _ _ _ _ _ _ | with_reducible exact Junk.app4 _ _ _ _ _ _ _ _ | with_reducible exact Junk.app5 _ _ _ _ _ _ _ _ _ | with_reducible apply Junk.alloc | with_reducible apply Junk.junk | with_reducible apply Junk.drew | with_reducible apply Junk.drewN))))))).mono ?_; rintro e w' ⟨oo, ob, oc, bc, rfl, ⟨osA, dA, rfl⟩, hI⟩; obtain ⟨bb, boff, hob, hbblt, hcell0⟩ := hI.body.at_ 0 (by omega); subst hob; rw [Nat.add_zero] at hcell0; have hbb2 := hbblt; simp only [World.size_junk, World.size_alloc] at hbb2; have HBD := Lib.hid hI.body; have hbc := hI.body.le; have n2 : ¬ bc = 2 := (by omega); have n4 : ¬ bc = 4 := (by omega); have hKb := hI.body.byte 0 (by omega); (try rw [HK.out] at hcell0 hKb); clear hI))
      refine wp_region_mixg ((fun cs => (((((w.alloc (.cells #[.int .i64 kind, .int .i64 code, .int .u32 rest, .slice oa l c] 25)).alloc (.cells #[.int .i64 0, .int .u32 0, .int .i64 0, .int .u32 0, .int .i64 0] 28)).junk osA dA).alloc (.cells #[.int .i64 p.tos, .int .i64 p.id, .bool p.df, .bool p.mf, .int .i64 p.off, .int .i64 p.ttl, .int .i64 p.proto, .int .u32 p.src, .int .u32 p.dst, .slice oo p.ol oc, .slice (some ⟨bb, boff, none⟩) p.bl bc] 43))).alloc (.cells cs 28))) _ [(0, true), (1, true), (2, true), (3, true), (4, true), (5, true), (6, true), (7, false), (8, true), (9, false)] (by kernel_rfl) (by kernel_rfl) (by (repeat (first | with_reducible exact Junk.refl _ | with_reducible exact Junk.app _ _ _ _ _ | with_reducible apply Junk.alloc | with_reducible apply Junk.junk | with_reducible apply Junk.drew | with_reducible apply Junk.drewN))) ?_; (iterate 7 (refine wpMix_q rfl (fun K hK => ?_); (go_simp; try go_bits); first | (refine hK _ ?_; clear hK K) | (apply Exists.intro; refine ⟨fun _ => ?_, hK _ ?_⟩; (first | (go_at_call 34; first | with_reducible exact rpair_k (HBD.out.on (by (first | ((repeat (first | with_reducible exact Junk.refl _ | with_reducible exact Junk.app _ _ _ _ _ | with_reducible apply Junk.alloc | with_reducible apply Junk.junk | with_reducible apply Junk.drew | with_reducible apply Junk.drewN)); done) | ((try simp only [World.junk_junk, Array.append_assoc]); (repeat (first | with_reducible exact Junk.refl _ | with_reducible exact Junk.app _ _ _ _ _ | with_reducible exact Junk.app2 _ _ _ _ _ _ | with_reducible exact Junk.app3 _ _ _ _ _ _ _ | with_reducible exact Junk.app4 _ _ _ _ _ _ _ _ | with_reducible exact Junk.app5 _ _ _ _ _ _ _ _ _ | with_reducible apply Junk.alloc | with_reducible apply Junk.junk | with_reducible apply Junk.drew | with_reducible apply Junk.drewN)))))) 0 _ S HS.out (by omega) (by omega) | with_reducible exact rpair_k (HBD.out.on (by (first | ((repeat (first | with_reducible exact Junk.refl _ | with_reducible exact Junk.app _ _ _ _ _ | with_reducible apply Junk.alloc | with_reducible apply Junk.junk | with_reducible apply Junk.drew | with_reducible apply Junk.drewN)); done) | ((try simp only [World.junk_junk, Array.append_assoc]); (repeat (first | with_reducible exact Junk.refl _ | with_reducible exact Junk.app _ _ _ _ _ | with_reducible exact Junk.app2 _ _ _ _ _ _ | with_reducible exact Junk.app3 _ _ _ _ _ _ _ | with_reducible exact Junk.app4 _ _ _ _ _ _ _ _ | with_reducible exact Junk.app5 _ _ _ _ _ _ _ _ _ | with_reducible apply Junk.alloc | with_reducible apply Junk.junk | with_reducible apply Junk.drew | with_reducible apply Junk.drewN)))))) 2 _ D HD.out (by omega) (by omega))); clear hK K))); refine wpMix_e rfl (fun osm10_0 dm10_0 K hK => ?_); (go_simp; try go_bits); refine hK _ _ (in_gen (G := (fun cs => (((((w.alloc (.cells #[.int .i64 kind, .int .i64 code, .int .u32 rest, .slice oa l c] 25)).alloc (.cells #[.int .i64 0, .int .u32 0, .int .i64 0, .int .u32 0, .int .i64 0] 28)).junk osA dA).alloc (.cells #[.int .i64 p.tos, .int .i64 p.id, .bool p.df, .bool p.mf, .int .i64 p.off, .int .i64 p.ttl, .int .i64 p.proto, .int .u32 p.src, .int .u32 p.dst, .slice oo p.ol oc, .slice (some ⟨bb, boff, none⟩) p.bl bc] 43))).alloc (.cells cs 28))) _ (by (repeat (first | with_reducible exact Junk.refl _ | with_reducible exact Junk.app _ _ _ _ _ | with_reducible apply Junk.alloc | with_reducible apply Junk.junk | with_reducible apply Junk.drew | with_reducible apply Junk.drewN)))) ?_; clear hK K; (iterate 1 (refine wpMix_q rfl (fun K hK => ?_); (go_simp; try go_bits); first | (refine hK _ ?_; clear hK K) | (apply Exists.intro; refine ⟨fun _ => ?_, hK _ ?_⟩; (first | (go_at_call 34; first | with_reducible exact rpair_k (HBD.out.on (by (first | ((repeat (first | with_reducible exact Junk.refl _ | with_reducible exact Junk.app _ _ _ _ _ | with_reducible apply Junk.alloc | with_reducible apply Junk.junk | with_reducible apply Junk.drew | with_reducible apply Junk.drewN)); done) | ((try simp only [World.junk_junk, Array.append_assoc]); (repeat (first | with_reducible exact Junk.refl _ | with_reducible exact Junk.app _ _ _ _ _ | with_reducible exact Junk.app2 _ _ _ _ _ _ | with_reducible exact Junk.app3 _ _ _ _ _ _ _ | with_reducible exact Junk.app4 _ _ _ _ _ _ _ _ | with_reducible exact Junk.app5 _ _ _ _ _ _ _ _ _ | with_reducible apply Junk.alloc | with_reducible apply Junk.junk | with_reducible apply Junk.drew | with_reducible apply Junk.drewN)))))) 0 _ S HS.out (by omega) (by omega) | with_reducible exact rpair_k (HBD.out.on (by (first | ((repeat (first | with_reducible exact Junk.refl _ | with_reducible exact Junk.app _ _ _ _ _ | with_reducible apply Junk.alloc | with_reducible apply Junk.junk | with_reducible apply Junk.drew | with_reducible apply Junk.drewN)); done) | ((try simp only [World.junk_junk, Array.append_assoc]); (repeat (first | with_reducible exact Junk.refl _ | with_reducible exact Junk.app _ _ _ _ _ | with_reducible exact Junk.app2 _ _ _ _ _ _ | with_reducible exact Junk.app3 _ _ _ _ _ _ _ | with_reducible exact Junk.app4 _ _ _ _ _ _ _ _ | with_reducible exact Junk.app5 _ _ _ _ _ _ _ _ _ | with_reducible apply Junk.alloc | with_reducible apply Junk.junk | with_reducible apply Junk.drew | with_reducible apply Junk.drewN)))))) 2 _ D HD.out (by omega) (by omega))); clear hK K))); refine wpMix_e rfl (fun osm10_1 dm10_1 K hK => ?_); (go_simp; try go_bits); refine hK _ _ (in_gen (G := (fun cs => (((((w.alloc (.cells #[.int .i64 kind, .int .i64 code, .int .u32 rest, .slice oa l c] 25)).alloc (.cells #[.int .i64 0, .int .u32 0, .int .i64 0, .int .u32 0, .int .i64 0] 28)).junk osA dA).alloc (.cells #[.int .i64 p.tos, .int .i64 p.id, .bool p.df, .bool p.mf, .int .i64 p.off, .int .i64 p.ttl, .int .i64 p.proto, .int .u32 p.src, .int .u32 p.dst, .slice oo p.ol oc, .slice (some ⟨bb, boff, none⟩) p.bl bc] 43))).alloc (.cells cs 28))) _ (by (repeat (first | with_reducible exact Junk.refl _ | with_reducible exact Junk.app _ _ _ _ _ | with_reducible apply Junk.alloc | with_reducible apply Junk.junk | with_reducible apply Junk.drew | with_reducible apply Junk.drewN)))) ?_; clear hK K; refine wpMix_nil (fun osm dm => ?_)
      go_wp2
      go_returns
      exact nm_ok HE2.out HT2.out (by (first | ((repeat (first | with_reducible exact Junk.refl _ | with_reducible exact Junk.app _ _ _ _ _ | with_reducible apply Junk.alloc | with_reducible apply Junk.junk | with_reducible apply Junk.drew | with_reducible apply Junk.drewN)); done) | ((try simp only [World.junk_junk, Array.append_assoc]); (repeat (first | with_reducible exact Junk.refl _ | with_reducible exact Junk.app _ _ _ _ _ | with_reducible exact Junk.app2 _ _ _ _ _ _ | with_reducible exact Junk.app3 _ _ _ _ _ _ _ | with_reducible exact Junk.app4 _ _ _ _ _ _ _ _ | with_reducible exact Junk.app5 _ _ _ _ _ _ _ _ _ | with_reducible apply Junk.alloc | with_reducible apply Junk.junk | with_reducible apply Junk.drew | with_reducible apply Junk.drewN)))))
  have h6a : (p.proto == 6) = false := by simp; omega
  have h6b : (p.proto == 17) = false := by simp; omega
  by_cases h1 : p.proto = 1
  case neg =>
    have h1a : (p.proto != 1) = true := by simpa using h1
    have HE2 := Lib.hid (show nmErr kind xs l = 9 by rw [HE3.out, if_neg h6, if_neg (fun h => h1 h.1)])
    clear h6 h1
    go_enter Try.func12, Try.ntmps12
    go_wp2_with (first | (go_at_call 33; refine (HAB.out _ (HB.out.on (by (first | ((repeat (first | with_reducible exact Junk.refl _ | with_reducible exact Junk.app _ _ _ _ _ | with_reducible apply Junk.alloc | with_reducible apply Junk.junk | with_reducible apply Junk.drew | with_reducible apply Junk.drewN)); done) | ((try simp only [World.junk_junk, Array.append_assoc]); (repeat (first | with_reducible exact Junk.refl _ | with_reducible exact Junk.app _ _ _ _ _ | with_reducible exact Junk.app2 _ _ _ _ _ _ | with_reducible exact Junk.app3 _ _ _ _ _ _ _ | with_reducible exact Junk.app4 _ _ _ _ _ _ _ _ | with_reducible exact Junk.app5 _ _ _ _ _ _ _ _ _ | with_reducible apply Junk.alloc | with_reducible apply Junk.junk | with_reducible apply Junk.drew | with_reducible apply Junk.drewN))))))).mono ?_; rintro e w' ⟨oo, ob, oc, bc, rfl, ⟨osA, dA, rfl⟩, hI⟩; obtain ⟨bb, boff, hob, hbblt, hcell0⟩ := hI.body.at_ 0 (by omega); subst hob; rw [Nat.add_zero] at hcell0; have hbb2 := hbblt; simp only [World.size_junk, World.size_alloc] at hbb2; have HBD := Lib.hid hI.body; have hbc := hI.body.le; have n2 : ¬ bc = 2 := (by omega); have n4 : ¬ bc = 4 := (by omega); have hKb := hI.body.byte 0 (by omega); (try rw [HK.out] at hcell0 hKb); clear hI))
    go_returns
    exact nm_bad HE2.out (by decide) (by (first | ((repeat (first | with_reducible exact Junk.refl _ | with_reducible exact Junk.app _ _ _ _ _ | with_reducible apply Junk.alloc | with_reducible apply Junk.junk | with_reducible apply Junk.drew | with_reducible apply Junk.drewN)); done) | ((try simp only [World.junk_junk, Array.append_assoc]); (repeat (first | with_reducible exact Junk.refl _ | with_reducible exact Junk.app _ _ _ _ _ | with_reducible exact Junk.app2 _ _ _ _ _ _ | with_reducible exact Junk.app3 _ _ _ _ _ _ _ | with_reducible exact Junk.app4 _ _ _ _ _ _ _ _ | with_reducible exact Junk.app5 _ _ _ _ _ _ _ _ _ | with_reducible apply Junk.alloc | with_reducible apply Junk.junk | with_reducible apply Junk.drew | with_reducible apply Junk.drewN)))))
  have h1a : (p.proto != 1) = false := by simpa using h1
  obtain ⟨K, hK⟩ : ∃ K, p.body 0 = K := ⟨_, rfl⟩
  have HK := Lib.hid hK
  by_cases ht : K = 0 ∨ K = 8 ∨ K = 13 ∨ K = 14
  case neg =>
    have HE2 := Lib.hid (show nmErr kind xs l = 9 by rw [HE3.out, if_neg h6, if_neg (fun h => by rw [hK] at h; have := h.2; simp [asksB, answersB] at this; omega)])
    have t0 : (K != 0) = true := by simp; omega
    have t8 : (K != 8) = true := by simp; omega
    have t13 : (K != 13) = true := by simp; omega
    have t14 : (K != 14) = true := by simp; omega
    clear h6 h1 hK ht
    go_enter Try.func12, Try.ntmps12
    go_wp2_with (first | (go_at_call 33; refine (HAB.out _ (HB.out.on (by (first | ((repeat (first | with_reducible exact Junk.refl _ | with_reducible exact Junk.app _ _ _ _ _ | with_reducible apply Junk.alloc | with_reducible apply Junk.junk | with_reducible apply Junk.drew | with_reducible apply Junk.drewN)); done) | ((try simp only [World.junk_junk, Array.append_assoc]); (repeat (first | with_reducible exact Junk.refl _ | with_reducible exact Junk.app _ _ _ _ _ | with_reducible exact Junk.app2 _ _ _ _ _ _ | with_reducible exact Junk.app3 _ _ _ _ _ _ _ | with_reducible exact Junk.app4 _ _ _ _ _ _ _ _ | with_reducible exact Junk.app5 _ _ _ _ _ _ _ _ _ | with_reducible apply Junk.alloc | with_reducible apply Junk.junk | with_reducible apply Junk.drew | with_reducible apply Junk.drewN))))))).mono ?_; rintro e w' ⟨oo, ob, oc, bc, rfl, ⟨osA, dA, rfl⟩, hI⟩; obtain ⟨bb, boff, hob, hbblt, hcell0⟩ := hI.body.at_ 0 (by omega); subst hob; rw [Nat.add_zero] at hcell0; have hbb2 := hbblt; simp only [World.size_junk, World.size_alloc] at hbb2; have HBD := Lib.hid hI.body; have hbc := hI.body.le; have n2 : ¬ bc = 2 := (by omega); have n4 : ¬ bc = 4 := (by omega); have hKb := hI.body.byte 0 (by omega); (try rw [HK.out] at hcell0 hKb); clear hI))
    go_returns
    exact nm_bad HE2.out (by decide) (by (first | ((repeat (first | with_reducible exact Junk.refl _ | with_reducible exact Junk.app _ _ _ _ _ | with_reducible apply Junk.alloc | with_reducible apply Junk.junk | with_reducible apply Junk.drew | with_reducible apply Junk.drewN)); done) | ((try simp only [World.junk_junk, Array.append_assoc]); (repeat (first | with_reducible exact Junk.refl _ | with_reducible exact Junk.app _ _ _ _ _ | with_reducible exact Junk.app2 _ _ _ _ _ _ | with_reducible exact Junk.app3 _ _ _ _ _ _ _ | with_reducible exact Junk.app4 _ _ _ _ _ _ _ _ | with_reducible exact Junk.app5 _ _ _ _ _ _ _ _ _ | with_reducible apply Junk.alloc | with_reducible apply Junk.junk | with_reducible apply Junk.drew | with_reducible apply Junk.drewN)))))
  have HE2 := Lib.hid (show nmErr kind xs l = 0 by rw [HE3.out, if_neg h6, if_pos ⟨h1, by rw [hK]; rcases ht with rfl | rfl | rfl | rfl <;> rfl⟩])
  obtain ⟨S, hS⟩ : ∃ s, wd p.body 4 = s := ⟨_, rfl⟩
  have HS := Lib.hid hS
  have HT2 := Lib.hid (show nmTup xs l = ⟨p.proto, p.src, S, p.dst, S⟩ by rw [HT.out]; unfold nmPort; rw [if_pos h1, if_pos h1, hS])
  clear h6 h1 hS HT
  rcases ht with rfl | rfl | rfl | rfl
  all_goals
    clear hK
    go_enter Try.func12, Try.ntmps12
    go_wp2_with (first | (go_at_call 33; refine (HAB.out _ (HB.out.on (by (first | ((repeat (first | with_reducible exact Junk.refl _ | with_reducible exact Junk.app _ _ _ _ _ | with_reducible apply Junk.alloc | with_reducible apply Junk.junk | with_reducible apply Junk.drew | with_reducible apply Junk.drewN)); done) | ((try simp only [World.junk_junk, Array.append_assoc]); (repeat (first | with_reducible exact Junk.refl _ | with_reducible exact Junk.app _ _ _ _ _ | with_reducible exact Junk.app2 _ _ _ _ _ _ | with_reducible exact Junk.app3 _ _ _ _ _ _ _ | with_reducible exact Junk.app4 _ _ _ _ _ _ _ _ | with_reducible exact Junk.app5 _ _ _ _ _ _ _ _ _ | with_reducible apply Junk.alloc | with_reducible apply Junk.junk | with_reducible apply Junk.drew | with_reducible apply Junk.drewN))))))).mono ?_; rintro e w' ⟨oo, ob, oc, bc, rfl, ⟨osA, dA, rfl⟩, hI⟩; obtain ⟨bb, boff, hob, hbblt, hcell0⟩ := hI.body.at_ 0 (by omega); subst hob; rw [Nat.add_zero] at hcell0; have hbb2 := hbblt; simp only [World.size_junk, World.size_alloc] at hbb2; have HBD := Lib.hid hI.body; have hbc := hI.body.le; have n2 : ¬ bc = 2 := (by omega); have n4 : ¬ bc = 4 := (by omega); have hKb := hI.body.byte 0 (by omega); (try rw [HK.out] at hcell0 hKb); clear hI) | (go_at_call 34; (with_reducible refine (rpair_k (HBD.out.on (by (first | ((repeat (first | with_reducible exact Junk.refl _ | with_reducible exact Junk.app _ _ _ _ _ | with_reducible apply Junk.alloc | with_reducible apply Junk.junk | with_reducible apply Junk.drew | with_reducible apply Junk.drewN)); done) | ((try simp only [World.junk_junk, Array.append_assoc]); (repeat (first | with_reducible exact Junk.refl _ | with_reducible exact Junk.app _ _ _ _ _ | with_reducible exact Junk.app2 _ _ _ _ _ _ | with_reducible exact Junk.app3 _ _ _ _ _ _ _ | with_reducible exact Junk.app4 _ _ _ _ _ _ _ _ | with_reducible exact Junk.app5 _ _ _ _ _ _ _ _ _ | with_reducible apply Junk.alloc | with_reducible apply Junk.junk | with_reducible apply Junk.drew | with_reducible apply Junk.drewN)))))) 4 _ S HS.out (by omega) (by omega)).mono ?_); rintro e w' ⟨rfl, ⟨osj, dj, rfl⟩⟩))
    go_returns
    exact nm_ok HE2.out HT2.out (by (first | ((repeat (first | with_reducible exact Junk.refl _ | with_reducible exact Junk.app _ _ _ _ _ | with_reducible apply Junk.alloc | with_reducible apply Junk.junk | with_reducible apply Junk.drew | with_reducible apply Junk.drewN)); done) | ((try simp only [World.junk_junk, Array.append_assoc]); (repeat (first | with_reducible exact Junk.refl _ | with_reducible exact Junk.app _ _ _ _ _ | with_reducible exact Junk.app2 _ _ _ _ _ _ | with_reducible exact Junk.app3 _ _ _ _ _ _ _ | with_reducible exact Junk.app4 _ _ _ _ _ _ _ _ | with_reducible exact Junk.app5 _ _ _ _ _ _ _ _ _ | with_reducible apply Junk.alloc | with_reducible apply Junk.junk | with_reducible apply Junk.drew | with_reducible apply Junk.drewN)))))
end Go.Proofs.Ytnefphinmjeacaa
