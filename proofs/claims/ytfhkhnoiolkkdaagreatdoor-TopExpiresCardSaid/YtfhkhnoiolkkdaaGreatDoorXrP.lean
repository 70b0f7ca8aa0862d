/- Plain: a datagram with a sum that is turned at a side is one, with the port that was asked. -/
import Derived.Test.YtfhkhnoiolkkdaaGreatDoorTcpA
import Derived.Deep.DeepCutAuto
import Derived.Deep.CutBlock
import Derived.Test.YtfhkhnoiolkkdaaGreatDoorMixP
set_option linter.unusedVariables false
set_option maxRecDepth 100000
set_option linter.unusedSimpArgs false
namespace Go.Proofs.YtfhkhnoiolkkdaaGreatDoor
open Go.RowKit
def bmI (plain : Bool) (k : Nat) (xs : Nat → Int) (o n : Int) : Nat → Int := if plain = true then xs else w2 xs k (mendI (wd xs k) o n)
set_option maxHeartbeats 4000000 in
theorem bmend_st {L : List (Nat × Nat × Value)} {W0 V : World} {bb g l cap : Nat} {sum : Int} {plain : Bool} {xs : Nat → Int} (h : BSt L W0 V bb g l cap sum plain xs) (k : Nat) (hk : sum = (k : Int)) (hkl : k + 2 ≤ l) (hl : l ≤ 100000000) (o n : Int) (ho : 0 ≤ o ∧ o ≤ 65535) (hn : 0 ≤ n ∧ n ≤ 65535) :
    Calls Tryz.prog 319 #[.pointer (some ⟨bb, 0, none⟩), .int .u16 o, .int .u16 n] V fun e w' => e = .returned (.tuple #[]) ∧ BSt L W0 w' bb g l cap sum plain (bmI plain k xs o n) := by
  obtain ⟨hs, k0⟩ := h.c0
  have k1 := h.c1
  have k2 := h.c2
  have HB := Lib.hid h
  have HJ := Lib.hid h.st.j
  cases plain with
  | true =>
    rw [show bmI true k xs o n = xs from rfl]
    clear h
    go_enter Tryz.func319, Tryz.ntmps319
    go_wp2
    go_returns
    exact ⟨rfl, HB.out.on (by (exact jkc))⟩
  | false =>
    obtain ⟨c, hc⟩ : ∃ c, wd xs k = c := ⟨_, rfl⟩
    have hcb : 0 ≤ c ∧ c ≤ 65535 := by rw [← hc]; exact wd_bd (h.st.b.byte k (by omega)) (h.st.b.byte (k + 1) (by omega))
    obtain ⟨v, hv⟩ : ∃ v, mendI c o n = v := ⟨_, rfl⟩
    have hvb : 0 ≤ v ∧ v ≤ 65535 := by rw [← hv]; exact mendI_bd hcb ho hn
    rw [show bmI false k xs o n = w2 xs k v by rw [← hv, ← hc]; rfl]
    have HC := Lib.hid hc
    have HK := Lib.hid hk
    have HM := Lib.hid (fun w1 => show Calls Tryz.prog 301 #[.int .u16 c, .int .u16 o, .int .u16 n] w1 fun e w' => e = .returned (.int .u16 v) ∧ Junk w1 w' by rw [← hv]; exact (cmend_any c o n w1 hcb ho hn).mono fun e w' q => ⟨q.1, q.2 ▸ Junk.refl _⟩)
    clear h hc hv hk
    go_enter Tryz.func319, Tryz.ntmps319
    go_upto_region 1 with (fail)
    refine wp_region_mixn (V) 14 [(0, true), (1, true), (2, true), (3, true), (4, true), (5, true), (6, true), (7, true), (8, true), (9, true), (10, true), (11, true), (12, true), (13, true), (14, false)] (by kernel_rfl) (by kernel_rfl) (by (exact jkc)) ?_; (iterate 14 (refine wpMixL_q rfl (fun K hK => ?_); (go_simp; try go_bits); first | (refine hK _ ?_; clear hK K) | (apply Exists.intro; refine ⟨fun _ => ?_, hK _ ?_⟩; (first | (first | (go_at_call 315; with_reducible exact bget_st (HB.out.on (by (exact jkc))) k _ c HC.out HK.out hkl hl) | (go_at_call 301; with_reducible exact HM.out _))); clear hK K))); refine wpMixL_last rfl (fun osm1_0 dm1_0 K hK => ?_); (go_simp; try go_bits); (go_at_call 316; refine (bset_st (HB.out.on (by (exact jkc))) k _ v HK.out hkl hl hvb).mono ?_; rintro e V5 ⟨rfl, hS5⟩; have HS5 := Lib.hid hS5; clear hS5); refine hK _ _ ?_; clear hK K; refine wpMixL_nil (fun osm dm => ?_)
    go_wp2
    go_returns
    exact ⟨rfl, HS5.out.on (by (exact jkc))⟩
set_option maxHeartbeats 4000000 in
theorem bword_st {L : List (Nat × Nat × Value)} {W0 V : World} {bb g l cap : Nat} {sum : Int} {plain : Bool} {xs : Nat → Int} (h : BSt L W0 V bb g l cap sum plain xs) (k : Nat) (hk : sum = (k : Int)) (hkl : k + 2 ≤ l) (hl : l ≤ 100000000) (i : Nat) (j : Int) (hj : j = (i : Int)) (hi : i + 2 ≤ l) (n : Int) (hn : 0 ≤ n ∧ n ≤ 65535) :
    Calls Tryz.prog 313 #[.pointer (some ⟨bb, 0, none⟩), .int .i64 j, .int .u16 n] V fun e w' => e = .returned (.tuple #[]) ∧ BSt L W0 w' bb g l cap sum plain (w2 (bmI plain k xs (wd xs i) n) i n) := by
  have HB := Lib.hid h
  obtain ⟨c, hc⟩ : ∃ c, wd xs i = c := ⟨_, rfl⟩
  have hcb : 0 ≤ c ∧ c ≤ 65535 := by rw [← hc]; exact wd_bd (h.st.b.byte i (by omega)) (h.st.b.byte (i + 1) (by omega))
  have HC := Lib.hid hc
  have HJJ := Lib.hid hj
  have HKK := Lib.hid hk
  rw [hc]
  clear h hc hj hk
  go_enter Tryz.func313, Tryz.ntmps313
  go_wp2_with (first
    | (go_at_call 315; (with_reducible refine (bget_st (HB.out.on (by (exact jkc))) i _ c HC.out HJJ.out hi hl).mono ?_); rintro e w' ⟨rfl, ⟨osj, dj, rfl⟩⟩)
    | (go_at_call 319; refine (bmend_st (HB.out.on (by (exact jkc))) k HKK.out hkl hl c n hcb hn).mono ?_; rintro e V5 ⟨rfl, hS5⟩; have HS5 := Lib.hid hS5; clear hS5)
    | (go_at_call 316; refine (bset_st (HS5.out.on (by (exact jkc))) i _ n HJJ.out hi hl hn).mono ?_; rintro e V6 ⟨rfl, hS6⟩; have HS6 := Lib.hid hS6; clear hS6))
  go_returns
  exact ⟨rfl, HS6.out⟩
set_option maxHeartbeats 4000000 in
theorem baddr_st {L : List (Nat × Nat × Value)} {W0 V : World} {bb g l cap : Nat} {sum : Int} {plain : Bool} {xs : Nat → Int} (h : BSt L W0 V bb g l cap sum plain xs) (k : Nat) (hk : sum = (k : Int)) (hkl : k + 2 ≤ l) (hl : l ≤ 100000000) (o n : Int) (ho : 0 ≤ o ∧ o ≤ 4294967295) (hn : 0 ≤ n ∧ n ≤ 4294967295) :
    Calls Tryz.prog 314 #[.pointer (some ⟨bb, 0, none⟩), .int .u32 o, .int .u32 n] V fun e w' => e = .returned (.tuple #[]) ∧ BSt L W0 w' bb g l cap sum plain (bmI plain k (bmI plain k xs (o / 65536) (n / 65536)) (o % 65536) (n % 65536)) := by
  have HB := Lib.hid h
  have HKK := Lib.hid hk
  have q1 := wrapk_u16 (o / 65536) (by omega) (by omega)
  have q2 := wrapk_u16 (n / 65536) (by omega) (by omega)
  have q3 : IntKind.u16.wrap o = o % 65536 := IntKind.wrap_u16 _
  have q4 : IntKind.u16.wrap n = n % 65536 := IntKind.wrap_u16 _
  clear h hk
  go_enter Tryz.func314, Tryz.ntmps314
  go_wp2_with (first
    | (go_at_call 319; refine (bmend_st (HS5.out.on (by (exact jkc))) k HKK.out hkl hl (o % 65536) (n % 65536) (by omega) (by omega)).mono ?_; rintro e V6 ⟨rfl, hS6⟩; have HS6 := Lib.hid hS6; clear hS6)
    | (go_at_call 319; refine (bmend_st (HB.out.on (by (exact jkc))) k HKK.out hkl hl (o / 65536) (n / 65536) (by omega) (by omega)).mono ?_; rintro e V5 ⟨rfl, hS5⟩; have HS5 := Lib.hid hS5; clear hS5))
  go_returns
  exact ⟨rfl, HS6.out⟩
end Go.Proofs.YtfhkhnoiolkkdaaGreatDoor
set_option linter.unusedVariables false
set_option maxRecDepth 100000
set_option linter.unusedSimpArgs false
namespace Go.Proofs.YtfhkhnoiolkkdaaGreatDoor
open Go.RowKit
def rwSum (pr : Int) : Nat := if pr = 17 then 6 else if pr = 1 then 2 else 16
def rwPlain (pr : Int) (xs : Nat → Int) : Bool := decide (pr = 17 ∧ wd xs 6 = 0)
set_option maxHeartbeats 4000000 in
theorem rof_any (c0 c1 c2 c3 c4 c5 c7 c8 c9 : Value) (pr : Int) (oa : Option Addr) (l c : Nat) (xs : Nat → Int) (w : World) (hl8 : 8 ≤ l) (hl : l ≤ 100000000) (hB : Bts w oa l c xs) (h17 : pr = 17) (hz : ¬ wd xs 6 = 0) :
    Calls Tryz.prog 312 #[.agg #[c0, c1, c2, c3, c4, c5, .int .i64 pr, c7, c8, c9, .slice oa l c]] w fun e w' => ∃ (bb g cap : Nat), e = .returned (.pointer (some ⟨bb, 0, none⟩)) ∧ BSt [] w w' bb g l cap (rwSum pr : Nat) (rwPlain pr xs) xs := by
  have H17 := Lib.hid h17
  have HZ9 := Lib.hid hz
  clear h17 hz
  obtain ⟨ad, rfl⟩ : ∃ ad, oa = some ad := by
    obtain ⟨b, off, he, _⟩ := hB.at_ 0 (by omega)
    exact ⟨_, he⟩
  have HB := Lib.hid hB
  have HX := Lib.hid hB.byte
  clear hB
  obtain ⟨C, hC⟩ : ∃ v, wd xs 6 = v := ⟨_, rfl⟩
  have HC := Lib.hid hC
  clear hC
  go_enter Tryz.func312, Tryz.ntmps312
  go_upto_block 0 with (first | (go_at_call 44; refine (clone_own ad l c xs _ hl (HB.out.on (by (exact jkc)))).mono ?_; rintro e w' ⟨oc, cap, rfl, ⟨osC, dC, rfl⟩, hown⟩; have HOWN := Lib.hid hown; clear hown))
  obtain ⟨g, rfl, hgB, hgS, hcells⟩ := own_some HOWN.out (by omega)
  have hg1 : w.heap.size + 1 ≤ g := by simpa using hgB
  have hg2 : g < w.heap.size + 1 + osC.size := by simpa using hgS
  have HBS := Lib.hid (fun (s : Int) (b : Bool) => show BSt [] w ((fun (s : Int) (b : Bool) => (((w.alloc (.cells #[c0, c1, c2, c3, c4, c5, .int .i64 pr, c7, c8, c9, .slice (some ad) l c] 36)).junk osC dC).alloc (.cells #[.slice (some ⟨g, 0, none⟩) l cap, .int .i64 s, .bool b] 442))) s b) (w.heap.size + 1 + osC.size) g l cap s b xs from
    ⟨⟨by (exact jkc), by omega, by simp; omega, (own_bts HOWN.out HX.out).on (by (exact jkc)), fun i hi => by
      have := (hcells i (.int .u8 (xs i)) (by rw [bytesL, List.getElem?_map, List.getElem?_range hi]; rfl)).2
      rw [World.frozen?_alloc_old _ _ _ (by simp; omega)]
      exact this, by
      show CsH (bodyL _ _ _ _ _ _ ++ []) _
      rw [List.append_nil]
      unfold bodyL
      repeat (refine CsH.cons.2 ⟨⟨(by simp), (by go_simp), (by go_simp)⟩, ?_⟩)
      exact CsH.nil _⟩, by
      show ∀ q ∈ bodyL _ _ _ _ _ _ ++ [], q.1 ≠ g
      rw [List.append_nil]
      unfold bodyL
      simp
      omega⟩)
  clear hcells HOWN hgB hgS
  have h17 := H17.out
  have hz := HZ9.out
  clear H17 HZ9
  subst h17
  rw [HC.out] at hz
  have hz1 : (C == 0) = false := by simpa using hz
  have HP := Lib.hid (show rwPlain 17 xs = false by unfold rwPlain; rw [HC.out]; simp [hz])
  clear hz
  go_wp2_with (first | (go_at_call 315; (with_reducible refine (bget_st (HBS.out 6 false) 6 _ C HC.out (by omega) (by omega) hl).mono ?_); rintro e w' ⟨rfl, ⟨osG, dG, rfl⟩⟩))
  go_returns
  first | exact ⟨w.heap.size + 1 + osC.size, g, cap, rfl, by rw [HP.out]; exact (HBS.out 6 false).on (by (exact jkc))⟩ | exact ⟨w.heap.size + 1 + osC.size, rfl, g, cap, by rw [HP.out]; exact (HBS.out 6 false).on (by (exact jkc))⟩
end Go.Proofs.YtfhkhnoiolkkdaaGreatDoor
set_option linter.unusedVariables false
set_option maxRecDepth 100000
set_option linter.unusedSimpArgs false
namespace Go.Proofs.YtfhkhnoiolkkdaaGreatDoor
open Go.RowKit
theorem u_get_any (b off l c : Nat) (x0 x1 : Int) (w : World) (hl : 2 ≤ l) (hb : b < w.heap.size) (h0 : w.cell? ⟨b, off, none⟩ = some (.int .u8 x0)) (h1 : w.cell? ⟨b, off + 1, none⟩ = some (.int .u8 x1)) (b0 : 0 ≤ x0 ∧ x0 ≤ 255) (b1 : 0 ≤ x1 ∧ x1 ≤ 255) :
    Calls Tryz.prog 238 #[.slice (some ⟨b, off, none⟩) l c] w fun e w' => e = .returned (.int .i64 (x0 * 256 + x1)) ∧ Junk w w' := by
  have q0 := or_i64 8 (x0 * 256) x1 (by omega) (by omega) (by omega) (by omega) (by omega) (by omega)
  have q1 := wrapk_i64 x0 (by omega) (by omega)
  have q2 := wrapk_i64 x1 (by omega) (by omega)
  have q3 := wrapk_i64 (x0 * 256) (by omega) (by omega)
  have j1 : (1 : Int) < (l : Int) := by omega
  have j0 : (0 : Int) < (l : Int) := by omega
  have i1 : 1 < l := by omega
  have i0 : 0 < l := by omega
  go_enter Tryz.func238, Tryz.ntmps238
  go_wp2
  refine wp_region_junk (by kernel_rfl) (by kernel_rfl) ?_; (repeat (go_big_quiet_step (first | fail))); refine wpQuiet_nil ?_; rintro _ ⟨⟨osq, dq⟩, rfl⟩
  go_wp2
  go_ret
  exact ⟨rfl, by (exact jkc)⟩
theorem u_get_at {b off l c : Nat} {xs : Nat → Int} {w : World} (h : Bts w (some ⟨b, off, none⟩) l c xs) (i : Nat) (v : Int) (hv : xs i * 256 + xs (i + 1) = v) (l' c' : Nat) (hi : i + 2 ≤ l) (hl : 2 ≤ l') :
    Calls Tryz.prog 238 #[.slice (some ⟨b, off + i, none⟩) l' c'] w fun e w' => e = .returned (.int .i64 v) ∧ Junk w w' := by
  rw [← hv]
  exact u_get_any b (off + i) l' c' (xs i) (xs (i + 1)) w hl (t_bts_cell h i (by omega)).1 (t_bts_cell h i (by omega)).2 (t_bts_cell h (i + 1) (by omega)).2 (h.byte _ (by omega)) (h.byte _ (by omega))
theorem u_get_0 {b off l c : Nat} {xs : Nat → Int} {w : World} (h : Bts w (some ⟨b, off, none⟩) l c xs) (l' c' : Nat) (hi : 2 ≤ l) (hl : 2 ≤ l') :
    Calls Tryz.prog 238 #[.slice (some ⟨b, off, none⟩) l' c'] w fun e w' => e = .returned (.int .i64 (xs 0 * 256 + xs 1)) ∧ Junk w w' := by
  have := u_get_at h 0 _ rfl l' c' (by omega) hl
  simpa using this
def usumN (src dst : Int) (xs : Nat → Int) (l : Nat) : Int := foldI (pseudoN src dst 17 l + rawN xs l)
set_option maxHeartbeats 400000 in
theorem usum_any (src dst : Int) (oa : Option Addr) (l c : Nat) (xs : Nat → Int) (w : World) (h1 : 0 ≤ src ∧ src ≤ 4294967295) (h2 : 0 ≤ dst ∧ dst ≤ 4294967295) (hl : l ≤ 65535) (hI : IntsAt w oa l .u8 xs) (hx : ∀ i, i < l → 0 ≤ xs i ∧ xs i ≤ 255) :
    Calls Tryz.prog 56 #[.int .u32 src, .int .u32 dst, .slice oa l c] w fun e w' => e = .returned (.int .u16 (usumN src dst xs l)) ∧ Junk w w' := by
  have hp := pseudoN_bd (proto := 17) (size := (l : Int)) h1 h2 (by omega) (by omega)
  have hr := (rawN_bd xs l hx).1
  have hb := sumN_bd xs l hx
  have hb2 := foldI_bd _ hp
  have HI := Lib.hid hI
  have HX := Lib.hid hx
  have HE := Lib.hid (show foldI (foldI (pseudoN src dst 17 l) + sumN xs l) = usumN src dst xs l from foldI_add hp hr)
  clear hI hx
  go_enter Tryz.func56, Tryz.ntmps56
  go_wp2_with (first | (go_at_call 92; refine (cpseudo_any src dst 17 l _ h1 h2 (by omega) (by omega)).mono ?_; rintro e w' ⟨rfl, rfl⟩) | (go_at_call 93; refine (sum_any _ _ _ _ _ (by omega) (HI.out.at_.on (by (exact jkc))) HX.out).mono ?_; rintro e w' ⟨rfl, rfl⟩) | (go_at_call 93; refine (sum_any _ _ _ _ _ (by omega) (HI.out.on (by (exact jkc))) HX.out).mono ?_; rintro e w' ⟨rfl, rfl⟩) | (go_at_call 91; refine (cjoin_any _ _ _ hb2 hb).mono ?_; rintro e w' ⟨rfl, rfl⟩))
  go_ret
  exact ⟨ret_int HE.out, by (exact jkc)⟩
def uSize (xs : Nat → Int) : Nat := (xs 4 * 256 + xs 5).toNat
def uChk (xs : Nat → Int) : Int := xs 6 * 256 + xs 7
def udpErr (src dst : Int) (xs : Nat → Int) (l : Nat) : Int :=
  if l < 8 then 2 else if uSize xs < 8 ∨ l < uSize xs then 4 else if uChk xs ≠ 0 ∧ usumN src dst xs (uSize xs) ≠ 65535 then 5 else 0
def UdpM (w : World) (E : Int) (xs : Nat → Int) (e : Ending) (w' : World) : Prop :=
  Junk w w' ∧ ((E ≠ 0 ∧ e = .returned (.tuple #[.agg #[.int .i64 0, .int .i64 0, .bool false, .slice none 0 0], .int .i64 E])) ∨
    (E = 0 ∧ ∃ (ob : Option Addr) (cb : Nat), Bts w' ob (uSize xs - 8) cb (fun i => xs (8 + i)) ∧ e = .returned (.tuple #[.agg #[.int .i64 (xs 0 * 256 + xs 1), .int .i64 (xs 2 * 256 + xs 3), .bool (uChk xs == 0), .slice ob (uSize xs - 8) cb], .int .i64 0])))
theorem udpM_bad {w w' : World} {E n : Int} {xs : Nat → Int} (h : E = n) (h0 : n ≠ 0) (hj : Junk w w') : UdpM w E xs (.returned (.tuple #[.agg #[.int .i64 0, .int .i64 0, .bool false, .slice none 0 0], .int .i64 n])) w' := ⟨hj, .inl ⟨by rw [h]; exact h0, by rw [h]⟩⟩
set_option maxHeartbeats 4000000 in
theorem uparse_any (src dst : Int) (ob : Option Addr) (l c : Nat) (xs : Nat → Int) (w : World) (h1 : 0 ≤ src ∧ src ≤ 4294967295) (h2 : 0 ≤ dst ∧ dst ≤ 4294967295) (hl : l ≤ 100000000) (hB : Bts w ob l c xs) :
    Calls Tryz.prog 151 #[.int .u32 src, .int .u32 dst, .slice ob l c] w (UdpM w (udpErr src dst xs l) xs) := by
  have HB := Lib.hid hB
  by_cases h8 : l < 8
  · have h8' : (l : Int) < 8 := by omega
    have HE := Lib.hid (show udpErr src dst xs l = 2 by unfold udpErr; rw [if_pos h8])
    clear hB
    go_enter Tryz.func151, Tryz.ntmps151
    go_wp2
    go_returns
    exact udpM_bad HE.out (by decide) (by (exact jkc))
  have h8' : ¬ (l : Int) < 8 := by omega
  obtain ⟨b, off, rfl, hblk, hc0⟩ := hB.at_ 0 (by omega)
  have hcl : l ≤ c := hB.le
  have hx4 := hB.byte 4 (by omega)
  have hx5 := hB.byte 5 (by omega)
  obtain ⟨S, hS⟩ : ∃ S, S = uSize xs := ⟨_, rfl⟩
  have ES := Lib.hid (show xs 4 * 256 + xs (4 + 1) = (S : Int) by show xs 4 * 256 + xs 5 = (S : Int); rw [hS]; unfold uSize; omega)
  obtain ⟨C, hC⟩ : ∃ C, C = uChk xs := ⟨_, rfl⟩
  have EC := Lib.hid (show xs 6 * 256 + xs (6 + 1) = C by rw [hC]; rfl)
  have hS9 : S ≤ 65535 := by rw [hS]; unfold uSize; omega
  have HSZ := Lib.hid hS
  have HCZ := Lib.hid hC
  have n2 : ¬ c = 2 := by omega
  have n4 : ¬ c = 4 := by omega
  have n6 : ¬ c = 6 := by omega
  have p2 : (2 : Int) ≤ (l : Int) := by omega
  have p4 : (4 : Int) ≤ (l : Int) := by omega
  have p6 : (6 : Int) ≤ (l : Int) := by omega
  clear hB hc0 hS hC hx4 hx5
  by_cases h5 : 8 ≤ S ∧ S ≤ l
  case neg =>
    have HE := Lib.hid (show udpErr src dst xs l = 4 by unfold udpErr; rw [if_neg h8, ← HSZ.out, if_pos (by omega)])
    by_cases h6 : S < 8
    · have h6' : (S : Int) < 8 := by omega
      clear h5 h6
      go_enter Tryz.func151, Tryz.ntmps151
      go_wp2
      refine wp_region_junk (by kernel_rfl) (by kernel_rfl) ?_; (repeat (go_big_quiet_step (first | (go_at_call 238; first | with_reducible exact Calls.junk_of (u_get_at (HB.out.on (by (exact jkc))) 4 (S : Int) ES.out _ _ (by omega) (by omega)) | exact Calls.junk_of (u_get_at (HB.out.on (by (exact jkc))) 6 C EC.out _ _ (by omega) (by omega)))))); refine wpQuiet_nil ?_; rintro _ ⟨⟨osq3, dq3⟩, rfl⟩
      go_wp2
      go_returns
      exact udpM_bad HE.out (by decide) (by (exact jkc))
    · have h6' : ¬ (S : Int) < 8 := by omega
      have h7' : (l : Int) < (S : Int) := by omega
      clear h5 h6
      go_enter Tryz.func151, Tryz.ntmps151
      go_wp2
      refine wp_region_junk (by kernel_rfl) (by kernel_rfl) ?_; (repeat (go_big_quiet_step (first | (go_at_call 238; first | with_reducible exact Calls.junk_of (u_get_at (HB.out.on (by (exact jkc))) 4 (S : Int) ES.out _ _ (by omega) (by omega)) | exact Calls.junk_of (u_get_at (HB.out.on (by (exact jkc))) 6 C EC.out _ _ (by omega) (by omega)))))); refine wpQuiet_nil ?_; rintro _ ⟨⟨osq3, dq3⟩, rfl⟩
      go_wp2
      go_returns
      exact udpM_bad HE.out (by decide) (by (exact jkc))
  obtain ⟨h5, h6⟩ := h5
  have h5' : ¬ (S : Int) < 8 := by omega
  have h6' : ¬ (l : Int) < (S : Int) := by omega
  have h56 : (S : Int) ≤ (l : Int) := by omega
  have h57 : (S : Int) ≤ (c : Int) := by omega
  have h58 : (8 : Int) ≤ (S : Int) := by omega
  have h59 : (0 : Int) ≤ (S : Int) := by omega
  have HS := Lib.hid (show Bts w (some ⟨b, off, none⟩) S c xs from ⟨fun i hi => HB.out.at_ i (by omega), fun i hi => HB.out.byte i (by omega), (fun h => by cases h), by omega, HB.out.cap⟩)
  have HSB2 := Lib.hid (bts_sub HB.out 8 S h5 h6)
  have hc8 : 8 ≤ c := by omega
  have hSc : S ≤ c := by omega
  generalize hadr2 : (if c = 8 then (some (⟨b, off, none⟩ : Addr)) else some ⟨b, off + 8, none⟩) = adr2 at HSB2
  by_cases hC0 : C = 0
  · have HE := Lib.hid (show udpErr src dst xs l = 0 by unfold udpErr; rw [if_neg h8, ← HSZ.out, if_neg (by omega), if_neg (by rw [← HCZ.out]; simp [hC0])])
    have hC1 : (C != 0) = false := by simpa using hC0
    have hC2 : (C == 0) = true := by simpa using hC0
    clear hC0
    go_enter Tryz.func151, Tryz.ntmps151
    go_wp2
    refine wp_region_junk (by kernel_rfl) (by kernel_rfl) ?_; (repeat (go_big_quiet_step (first | (go_at_call 238; first | with_reducible exact Calls.junk_of (u_get_at (HB.out.on (by (exact jkc))) 4 (S : Int) ES.out _ _ (by omega) (by omega)) | exact Calls.junk_of (u_get_at (HB.out.on (by (exact jkc))) 6 C EC.out _ _ (by omega) (by omega)))))); refine wpQuiet_nil ?_; rintro _ ⟨⟨osq3, dq3⟩, rfl⟩
    go_wp2
    refine wp_region_mixj (w) [(0, true), (1, true), (2, true), (3, true), (4, true), (5, true), (6, true), (7, true), (8, true), (9, true), (10, false), (11, true), (12, false), (13, true)] (by kernel_rfl) (by kernel_rfl) (by (exact jkc)) ?_; (iterate 10 (refine wpMix_q rfl (fun K hK => ?_); (go_simp; try go_bits); first | (refine hK _ ?_; clear hK K) | (apply Exists.intro; refine ⟨fun _ => ?_, hK _ ?_⟩; (first | (go_at_call 238; first | with_reducible exact (u_get_0 (HB.out.on (by (exact jkc))) _ _ (by omega) (by omega)) | with_reducible exact (u_get_at (HB.out.on (by (exact jkc))) 2 _ rfl _ _ (by omega) (by omega)))); clear hK K))); refine wpMix_e rfl (fun osm8_0 dm8_0 K hK => ?_); (go_simp; try go_bits); (go_at_call 44; refine (clone_any adr2 (S - 8) (c - 8) (fun i => xs (8 + i)) _ (by omega) (HSB2.out.on (by (exact jkc)))).mono ?_; rintro e w' ⟨ocb, ccb, rfl, ⟨osj, dj, rfl⟩, hcb, hcn, hcf⟩; rw [World.junk_junk] at hcb; have Hcb := Lib.hid hcb; have Hcf := Lib.hid hcf; clear hcb hcn hcf); refine hK _ _ (Junk.pair (by (first | exact jkc | repeat (first | with_reducible exact Junk.refl _ | with_reducible exact Junk.app _ _ _ _ _ | with_reducible apply Junk.alloc | with_reducible apply Junk.junk | with_reducible apply Junk.drew | with_reducible apply Junk.drewN | (with_reducible refine Junk.setCell ?_ (by simp) _))))) ?_; clear hK K; (iterate 1 (refine wpMix_q rfl (fun K hK => ?_); (go_simp; try go_bits); first | (refine hK _ ?_; clear hK K) | (apply Exists.intro; refine ⟨fun _ => ?_, hK _ ?_⟩; (first | (go_at_call 238; first | with_reducible exact (u_get_0 (HB.out.on (by (exact jkc))) _ _ (by omega) (by omega)) | with_reducible exact (u_get_at (HB.out.on (by (exact jkc))) 2 _ rfl _ _ (by omega) (by omega)))); clear hK K))); refine wpMix_e rfl (fun osm8_1 dm8_1 K hK => ?_); (go_simp; try go_bits); refine hK _ _ (Junk.pair (by (first | exact jkc | repeat (first | with_reducible exact Junk.refl _ | with_reducible exact Junk.app _ _ _ _ _ | with_reducible apply Junk.alloc | with_reducible apply Junk.junk | with_reducible apply Junk.drew | with_reducible apply Junk.drewN | (with_reducible refine Junk.setCell ?_ (by simp) _))))) ?_; clear hK K; (iterate 1 (refine wpMix_q rfl (fun K hK => ?_); (go_simp; try go_bits); first | (refine hK _ ?_; clear hK K) | (apply Exists.intro; refine ⟨fun _ => ?_, hK _ ?_⟩; (first | (go_at_call 238; first | with_reducible exact (u_get_0 (HB.out.on (by (exact jkc))) _ _ (by omega) (by omega)) | with_reducible exact (u_get_at (HB.out.on (by (exact jkc))) 2 _ rfl _ _ (by omega) (by omega)))); clear hK K))); refine wpMix_nil (fun osm dm => ?_)
    go_wp2
    all_goals (go_returns; simp only [World.junk_junk, Array.append_assoc]; rw [HE.out]; exact ⟨by (exact jkc), .inr ⟨rfl, ocb, ccb, by rw [← HSZ.out]; exact bts_over Hcb.out (Hcf.out.lower (by simp; try omega)) ⟨_, by repeat rw [Array.append_assoc]⟩, by rw [← HSZ.out, ← HCZ.out, hC2]⟩⟩)
  · have hC1 : (C != 0) = true := by simpa using hC0
    have hC2 : (C == 0) = false := by simpa using hC0
    by_cases hs : usumN src dst xs S = 65535
    · have HE := Lib.hid (show udpErr src dst xs l = 0 by unfold udpErr; rw [if_neg h8, ← HSZ.out, if_neg (by omega), if_neg (by rw [hs]; simp)])
      have hs2 : (usumN src dst xs S != 65535) = false := by simpa using hs
      clear hC0 hs
      go_enter Tryz.func151, Tryz.ntmps151
      go_wp2
      refine wp_region_junk (by kernel_rfl) (by kernel_rfl) ?_; (repeat (go_big_quiet_step (first | (go_at_call 238; first | with_reducible exact Calls.junk_of (u_get_at (HB.out.on (by (exact jkc))) 4 (S : Int) ES.out _ _ (by omega) (by omega)) | exact Calls.junk_of (u_get_at (HB.out.on (by (exact jkc))) 6 C EC.out _ _ (by omega) (by omega)))))); refine wpQuiet_nil ?_; rintro _ ⟨⟨osq3, dq3⟩, rfl⟩
      go_wp2_with (first | (go_at_call 56; refine (usum_any src dst _ S c xs _ h1 h2 (by omega) (HS.out.at_.on (by (exact jkc))) HS.out.byte).mono ?_; rintro e w' ⟨rfl, ⟨oss, ds, rfl⟩⟩))
      refine wp_region_mixj (w) [(0, true), (1, true), (2, true), (3, true), (4, true), (5, true), (6, true), (7, true), (8, true), (9, true), (10, false), (11, true), (12, false), (13, true)] (by kernel_rfl) (by kernel_rfl) (by (exact jkc)) ?_; (iterate 10 (refine wpMix_q rfl (fun K hK => ?_); (go_simp; try go_bits); first | (refine hK _ ?_; clear hK K) | (apply Exists.intro; refine ⟨fun _ => ?_, hK _ ?_⟩; (first | (go_at_call 238; first | with_reducible exact (u_get_0 (HB.out.on (by (exact jkc))) _ _ (by omega) (by omega)) | with_reducible exact (u_get_at (HB.out.on (by (exact jkc))) 2 _ rfl _ _ (by omega) (by omega)))); clear hK K))); refine wpMix_e rfl (fun osm8_0 dm8_0 K hK => ?_); (go_simp; try go_bits); (go_at_call 44; refine (clone_any adr2 (S - 8) (c - 8) (fun i => xs (8 + i)) _ (by omega) (HSB2.out.on (by (exact jkc)))).mono ?_; rintro e w' ⟨ocb, ccb, rfl, ⟨osj, dj, rfl⟩, hcb, hcn, hcf⟩; rw [World.junk_junk] at hcb; have Hcb := Lib.hid hcb; have Hcf := Lib.hid hcf; clear hcb hcn hcf); refine hK _ _ (Junk.pair (by (first | exact jkc | repeat (first | with_reducible exact Junk.refl _ | with_reducible exact Junk.app _ _ _ _ _ | with_reducible apply Junk.alloc | with_reducible apply Junk.junk | with_reducible apply Junk.drew | with_reducible apply Junk.drewN | (with_reducible refine Junk.setCell ?_ (by simp) _))))) ?_; clear hK K; (iterate 1 (refine wpMix_q rfl (fun K hK => ?_); (go_simp; try go_bits); first | (refine hK _ ?_; clear hK K) | (apply Exists.intro; refine ⟨fun _ => ?_, hK _ ?_⟩; (first | (go_at_call 238; first | with_reducible exact (u_get_0 (HB.out.on (by (exact jkc))) _ _ (by omega) (by omega)) | with_reducible exact (u_get_at (HB.out.on (by (exact jkc))) 2 _ rfl _ _ (by omega) (by omega)))); clear hK K))); refine wpMix_e rfl (fun osm8_1 dm8_1 K hK => ?_); (go_simp; try go_bits); refine hK _ _ (Junk.pair (by (first | exact jkc | repeat (first | with_reducible exact Junk.refl _ | with_reducible exact Junk.app _ _ _ _ _ | with_reducible apply Junk.alloc | with_reducible apply Junk.junk | with_reducible apply Junk.drew | with_reducible apply Junk.drewN | (with_reducible refine Junk.setCell ?_ (by simp) _))))) ?_; clear hK K; (iterate 1 (refine wpMix_q rfl (fun K hK => ?_); (go_simp; try go_bits); first | (refine hK _ ?_; clear hK K) | (apply Exists.intro; refine ⟨fun _ => ?_, hK _ ?_⟩; (first | (go_at_call 238; first | with_reducible exact (u_get_0 (HB.out.on (by (exact jkc))) _ _ (by omega) (by omega)) | with_reducible exact (u_get_at (HB.out.on (by (exact jkc))) 2 _ rfl _ _ (by omega) (by omega)))); clear hK K))); refine wpMix_nil (fun osm dm => ?_)
      go_wp2
      all_goals (go_returns; simp only [World.junk_junk, Array.append_assoc]; rw [HE.out]; exact ⟨by (exact jkc), .inr ⟨rfl, ocb, ccb, by rw [← HSZ.out]; exact bts_over Hcb.out (Hcf.out.lower (by simp; try omega)) ⟨_, by repeat rw [Array.append_assoc]⟩, by rw [← HSZ.out, ← HCZ.out, hC2]⟩⟩)
    · have HE := Lib.hid (show udpErr src dst xs l = 5 by unfold udpErr; rw [if_neg h8, ← HSZ.out, if_neg (by omega), if_pos ⟨by rw [← HCZ.out]; exact hC0, hs⟩])
      have hs2 : (usumN src dst xs S != 65535) = true := by simpa using hs
      clear hC0 hs
      go_enter Tryz.func151, Tryz.ntmps151
      go_wp2
      refine wp_region_junk (by kernel_rfl) (by kernel_rfl) ?_; (repeat (go_big_quiet_step (first | (go_at_call 238; first | with_reducible exact Calls.junk_of (u_get_at (HB.out.on (by (exact jkc))) 4 (S : Int) ES.out _ _ (by omega) (by omega)) | exact Calls.junk_of (u_get_at (HB.out.on (by (exact jkc))) 6 C EC.out _ _ (by omega) (by omega)))))); refine wpQuiet_nil ?_; rintro _ ⟨⟨osq3, dq3⟩, rfl⟩
      go_wp2_with (first | (go_at_call 56; refine (usum_any src dst _ S c xs _ h1 h2 (by omega) (HS.out.at_.on (by (exact jkc))) HS.out.byte).mono ?_; rintro e w' ⟨rfl, ⟨oss, ds, rfl⟩⟩))
      go_returns
      exact udpM_bad HE.out (by decide) (by (exact jkc))
end Go.Proofs.YtfhkhnoiolkkdaaGreatDoor
set_option linter.unusedVariables false
set_option maxRecDepth 100000
set_option linter.unusedSimpArgs false
namespace Go.Proofs.YtfhkhnoiolkkdaaGreatDoor
open Go.RowKit
abbrev Tup.val (t : Tup) : Value := .agg #[.int .i64 t.proto, .int .u32 t.src, .int .i64 t.sport, .int .u32 t.dst, .int .i64 t.dport]
theorem udp_parse_ok {w w' : World} {E : Int} {xs : Nat → Int} {e : Ending} (h : UdpM w E xs e w') (h0 : E = 0) :
    ∃ (ob : Option Addr) (cb : Nat), e = .returned (.tuple #[.agg #[.int .i64 (xs 0 * 256 + xs 1), .int .i64 (xs 2 * 256 + xs 3), .bool (uChk xs == 0), .slice ob (uSize xs - 8) cb], .int .i64 0]) ∧ Junk w w' ∧ Bts w' ob (uSize xs - 8) cb (fun i => xs (8 + i)) := by
  obtain ⟨hj, ⟨h1, _⟩ | ⟨_, ob, cb, hb, rfl⟩⟩ := h
  · exact absurd h0 h1
  · exact ⟨ob, cb, rfl, hj, hb⟩
def prErr (pr src dst : Int) (xs : Nat → Int) (l : Nat) : Int := if pr = 17 then udpErr src dst xs l else 9
def prS (pr : Int) (xs : Nat → Int) : Int := xs 0 * 256 + xs 1
def prD (pr : Int) (xs : Nat → Int) : Int := xs 2 * 256 + xs 3
def ofErr (m : Bool) (off pr src dst : Int) (xs : Nat → Int) (l : Nat) : Int := if (m || (off != 0)) = true then 7 else prErr pr src dst xs l
def ofTup (m : Bool) (off pr src dst : Int) (xs : Nat → Int) (l : Nat) : Tup := ⟨pr, src, prS pr xs, dst, prD pr xs⟩
theorem ofErr_iff {m : Bool} {off pr src dst : Int} {xs : Nat → Int} {l : Nat} : ofErr m off pr src dst xs l = 0 ↔ m = false ∧ off = 0 ∧ pr = 17 ∧ udpErr src dst xs l = 0 := by
  unfold ofErr prErr
  cases m with
  | true => simp
  | false =>
    by_cases h1 : off = 0
    · subst h1
      by_cases h2 : pr = 17
      · simp [h2]
      · simp [h2]
    · simp [h1]
set_option maxHeartbeats 1000000 in
theorem tup_ports_udp (c0 c1 c2 c5 c9 : Value) (m : Bool) (off pr src dst : Int) (ob : Option Addr) (l bc : Nat) (xs : Nat → Int) (w : World) (h1 : 0 ≤ src ∧ src ≤ 4294967295) (h2 : 0 ≤ dst ∧ dst ≤ 4294967295) (hl : l ≤ 100000000) (hB : Bts w ob l bc xs) (h0 : udpErr src dst xs l = 0) (hpr : pr = 17) : Calls Tryz.prog 82 #[.agg #[c0, c1, c2, .bool m, .int .i64 off, c5, .int .i64 pr, .int .u32 src, .int .u32 dst, c9, .slice ob l bc]] w fun e w' => e = .returned (.tuple #[.int .i64 (xs 0 * 256 + xs 1), .int .i64 (xs 2 * 256 + xs 3), .int .i64 0]) ∧ Junk w w' := by
  have HB := Lib.hid hB
  have H0 := Lib.hid h0
  subst hpr
  clear hB h0
  go_enter Tryz.func82, Tryz.ntmps82
  go_wp2_with (first | (go_at_call 151; refine (uparse_any src dst ob l bc xs _ h1 h2 hl (HB.out.on (by (exact jkc)))).mono ?_; intro e w' hp; obtain ⟨ob2, cb2, rfl, ⟨osj, dj, rfl⟩, _⟩ := udp_parse_ok hp H0.out; clear hp))
  refine wp_region_junk (by kernel_rfl) (by kernel_rfl) ?_; (repeat (go_big_quiet_step (first | fail))); refine wpQuiet_nil ?_; rintro _ ⟨⟨osq, dq⟩, rfl⟩
  go_wp2
  go_returns
  exact ⟨rfl, by (exact jkc)⟩
theorem tup_piece_no (c0 c1 c2 c5 c6 c7 c8 c9 c10 : Value) (w : World) : Calls Tryz.prog 67 #[.agg #[c0, c1, c2, .bool false, .int .i64 0, c5, c6, c7, c8, c9, c10]] w fun e w' => e = .returned (.bool false) ∧ Junk w w' := by
  go_enter Tryz.func67, Tryz.ntmps67
  go_wp2
  go_ret
  exact ⟨rfl, by (exact jkc)⟩
set_option maxHeartbeats 1000000 in
theorem tup_of_any (c0 c1 c2 c5 c9 : Value) (m : Bool) (off pr src dst : Int) (ob : Option Addr) (l bc : Nat) (xs : Nat → Int) (w : World) (h1 : 0 ≤ src ∧ src ≤ 4294967295) (h2 : 0 ≤ dst ∧ dst ≤ 4294967295) (hl : l ≤ 100000000) (hB : Bts w ob l bc xs) (h0 : ofErr m off pr src dst xs l = 0) : Calls Tryz.prog 32 #[.agg #[c0, c1, c2, .bool m, .int .i64 off, c5, .int .i64 pr, .int .u32 src, .int .u32 dst, c9, .slice ob l bc]] w fun e w' => e = .returned (.tuple #[(ofTup m off pr src dst xs l).val, .int .i64 (ofErr m off pr src dst xs l)]) ∧ Junk w w' := by
  have HB := Lib.hid hB
  rw [h0]
  obtain ⟨rfl, rfl, rfl, hu⟩ := ofErr_iff.1 h0
  have HPR := Lib.hid (fun w1 (hb : Bts w1 ob l bc xs) => tup_ports_udp c0 c1 c2 c5 c9 false 0 17 src dst ob l bc xs w1 h1 h2 hl hb hu rfl)
  clear hB h0 hu
  go_enter Tryz.func32, Tryz.ntmps32
  go_wp2_with (first | (go_at_call 67; (with_reducible refine (tup_piece_no _ _ _ _ _ _ _ _ _ _).mono ?_); rintro e w' ⟨rfl, ⟨osj, dj, rfl⟩⟩) | (go_at_call 82; (with_reducible refine (HPR.out _ (HB.out.on (by (exact jkc)))).mono ?_); rintro e w' ⟨rfl, ⟨osj, dj, rfl⟩⟩))
  go_returns
  exact ⟨rfl, by (exact jkc)⟩
end Go.Proofs.YtfhkhnoiolkkdaaGreatDoor
set_option linter.unusedVariables false
set_option maxRecDepth 100000
set_option linter.unusedSimpArgs false
namespace Go.Proofs.YtfhkhnoiolkkdaaGreatDoor
open Go.RowKit
theorem clos_src (b : Nat) (w : World) : Calls Tryz.prog 303 #[.pointer (some ⟨b, 0, none⟩)] w fun e w' => e = .returned (.pointer (some ⟨b, 7, none⟩)) ∧ Junk w w' := by
  go_enter Tryz.func303, Tryz.ntmps303
  go_wp2
  go_ret
  exact ⟨rfl, by (exact jkc)⟩
theorem clos_dst (b : Nat) (w : World) : Calls Tryz.prog 305 #[.pointer (some ⟨b, 0, none⟩)] w fun e w' => e = .returned (.pointer (some ⟨b, 8, none⟩)) ∧ Junk w w' := by
  go_enter Tryz.func305, Tryz.ntmps305
  go_wp2
  go_ret
  exact ⟨rfl, by (exact jkc)⟩
theorem swap_cell {A : World} {cur cur' : Array Value} {t : TypeId} {o2 o3 : Obj} {os1 os : Array Obj} {d1 d : Nat} {b i : Nat} {v : Value}
    (h : (((((A.alloc (.cells cur t)).alloc o2).junk os1 d1).alloc o3).junk os d).cell? ⟨b, i, none⟩ = some v) (hs : b < (((((A.alloc (.cells cur t)).alloc o2).junk os1 d1).alloc o3).junk os d).heap.size) (hne : cur[i]? ≠ some v) :
    b < (((((A.alloc (.cells cur' t)).alloc o2).junk os1 d1).alloc o3).junk os d).heap.size ∧ (((((A.alloc (.cells cur' t)).alloc o2).junk os1 d1).alloc o3).junk os d).cell? ⟨b, i, none⟩ = some v := by
  by_cases hb : b = A.heap.size
  · subst hb
    have e1 : (⟨A.heap.size, i, none⟩ : Addr).block ≠ (((A.alloc (.cells cur t)).alloc o2).junk os1 d1).heap.size := by simp; omega
    have e2 : (⟨A.heap.size, i, none⟩ : Addr).block ≠ (A.alloc (.cells cur t)).heap.size := by simp
    rw [World.cell?_junk _ _ _ _ _ (by simp; omega), World.cell?_alloc_old (h := e1), World.cell?_junk _ _ _ _ _ (by simp; omega), World.cell?_alloc_old (h := e2), World.cell?_alloc_new] at h
    exact absurd h hne
  · refine ⟨by simpa using hs, ?_⟩
    rw [← h]
    apply World.cell?_of_block
    simp only [World.junk, World.alloc]
    simp [Array.getElem?_append, Array.getElem?_push, hb]
theorem bts_swap {A : World} {cur cur' : Array Value} {t : TypeId} {o2 o3 : Obj} {os1 os : Array Obj} {d1 d : Nat} {oa : Option Addr} {l c : Nat} {xs : Nat → Int}
    (h : Bts (((((A.alloc (.cells cur t)).alloc o2).junk os1 d1).alloc o3).junk os d) oa l c xs) (hn : ∀ (i : Nat) (v : Int), cur[i]? ≠ some (.int .u8 v)) :
    Bts (((((A.alloc (.cells cur' t)).alloc o2).junk os1 d1).alloc o3).junk os d) oa l c xs :=
  ⟨fun i hi => by
    obtain ⟨b, off, he, hlt, hc⟩ := h.at_ i hi
    obtain ⟨q1, q2⟩ := swap_cell (cur' := cur') hc hlt (hn _ _)
    exact ⟨b, off, he, q1, q2⟩, h.byte, h.nil, h.le, h.cap⟩
theorem bts_swap2 {A : World} {cur cur' : Array Value} {t : TypeId} {o3 : Obj} {os1 os : Array Obj} {d1 d : Nat} {oa : Option Addr} {l c : Nat} {xs : Nat → Int}
    (h : Bts ((((A.alloc (.cells cur t)).junk os1 d1).alloc o3).junk os d) oa l c xs) (hn : ∀ (i : Nat) (v : Int), cur[i]? ≠ some (.int .u8 v)) :
    Bts ((((A.alloc (.cells cur' t)).junk os1 d1).alloc o3).junk os d) oa l c xs := by
  refine ⟨fun i hi => ?_, h.byte, h.nil, h.le, h.cap⟩
  obtain ⟨b, off, he, hlt, hc⟩ := h.at_ i hi
  by_cases hb : b = A.heap.size
  · subst hb
    have e1 : (⟨A.heap.size, off + i, none⟩ : Addr).block ≠ ((A.alloc (.cells cur t)).junk os1 d1).heap.size := by simp; omega
    rw [World.cell?_junk _ _ _ _ _ (by simp; omega), World.cell?_alloc_old (h := e1), World.cell?_junk _ _ _ _ _ (by simp), World.cell?_alloc_new] at hc
    exact absurd hc (hn _ _)
  · refine ⟨b, off, he, by simpa using hlt, ?_⟩
    rw [← hc]
    apply World.cell?_of_block
    simp only [World.junk, World.alloc]
    simp [Array.getElem?_append, Array.getElem?_push, hb]
theorem ip_nb (a0 a1 a4 a5 a6 a7 a8 : Int) (a2 a3 : Bool) (oo ob : Option Addr) (l1 c1 l2 c2 : Nat) : ∀ (i : Nat) (v : Int), (#[.int .i64 a0, .int .i64 a1, .bool a2, .bool a3, .int .i64 a4, .int .i64 a5, .int .i64 a6, .int .u32 a7, .int .u32 a8, .slice oo l1 c1, .slice ob l2 c2] : Array Value)[i]? ≠ some (.int .u8 v) := by
  intro i v h
  rcases i with _ | _ | _ | _ | _ | _ | _ | _ | _ | _ | _ | i <;> simp at h
end Go.Proofs.YtfhkhnoiolkkdaaGreatDoor
set_option linter.unusedVariables false
set_option maxRecDepth 100000
set_option linter.unusedSimpArgs false
namespace Go.Proofs.YtfhkhnoiolkkdaaGreatDoor
open Go.RowKit
def RtM (w : World) (p : Ip) (e : Ending) (w' : World) : Prop := ∃ (oo ob : Option Addr) (oc bc : Nat), e = .returned (.tuple #[.agg #[.int .i64 p.tos, .int .i64 p.id, .bool p.df, .bool p.mf, .int .i64 p.off, .int .i64 p.ttl, .int .i64 p.proto, .int .u32 p.src, .int .u32 p.dst, .slice oo p.ol oc, .slice ob p.bl bc], .int .i64 0]) ∧ Junk w w' ∧ IpAt w' p oo oc ob bc
def rwFin (pl : Bool) (k : Nat) (xs : Nat → Int) : Nat → Int := if pl = true then xs else if wd xs k = 0 then w2 xs k 65535 else xs
set_option maxHeartbeats 4000000 in
theorem rturnS_ok (p : Ip) (oo ob : Option Addr) (oc bc : Nat) (addr port : Int) (w : World) (hP : IpAt w p oo oc ob bc) (hl : p.bl ≤ 100000000) (hol : p.ol ≤ 100000000) (haddr : 0 ≤ addr ∧ addr ≤ 4294967295) (hport : 0 ≤ port ∧ port ≤ 65535)
    (h0 : ofErr p.mf p.off p.proto p.src p.dst p.body p.bl = 0) (h8 : 8 ≤ p.bl) (k : Nat) (hk : rwSum p.proto = k) (hkl : k + 2 ≤ p.bl) (pl : Bool) (hpl : rwPlain p.proto p.body = pl) (hp0 : pl = false) (hz6 : ¬ wd p.body 6 = 0) (h1 : p.proto ≠ 1) (P : Nat) (hPP : P = 0) :
    Calls Tryz.prog 304 #[.agg #[.int .i64 (P : Int), .func (.func 303) #[] #[]], .agg #[.int .i64 p.tos, .int .i64 p.id, .bool p.df, .bool p.mf, .int .i64 p.off, .int .i64 p.ttl, .int .i64 p.proto, .int .u32 p.src, .int .u32 p.dst, .slice oo p.ol oc, .slice ob p.bl bc], .int .u32 addr, .int .i64 port] w (RtM w ⟨p.tos, p.id, p.df, p.mf, p.off, p.ttl, p.proto, addr, p.dst, p.ol, p.opts, p.bl, rwFin pl k (bmI pl k (bmI pl k (w2 (bmI pl k p.body (wd p.body P) port) P port) (p.src / 65536) (addr / 65536)) (p.src % 65536) (addr % 65536))⟩) := by
  have HPL := Lib.hid hp0
  have HP := Lib.hid hP
  obtain ⟨p0, p1⟩ := hport
  have p0' : ¬ port < 0 := by omega
  have p1' : ¬ 65535 < port := by omega
  obtain ⟨⟨t0, t1, t2, t3, t4⟩, hT⟩ : ∃ t, ofTup p.mf p.off p.proto p.src p.dst p.body p.bl = t := ⟨_, rfl⟩
  have HTO := Lib.hid (fun w1 (hp : IpAt w1 p oo oc ob bc) => show Calls Tryz.prog 32 #[.agg #[.int .i64 p.tos, .int .i64 p.id, .bool p.df, .bool p.mf, .int .i64 p.off, .int .i64 p.ttl, .int .i64 p.proto, .int .u32 p.src, .int .u32 p.dst, .slice oo p.ol oc, .slice ob p.bl bc]] w1 fun e w' => e = .returned (.tuple #[.agg #[.int .i64 t0, .int .u32 t1, .int .i64 t2, .int .u32 t3, .int .i64 t4], .int .i64 0]) ∧ Junk w1 w' by
    have := tup_of_any (.int .i64 p.tos) (.int .i64 p.id) (.bool p.df) (.int .i64 p.ttl) (.slice oo p.ol oc) p.mf p.off p.proto p.src p.dst ob p.bl bc p.body w1 hp.src hp.dst hl hp.body h0
    rw [hT, h0] at this
    exact this)
  have HOF := Lib.hid (fun w1 hb => rof_any (.int .i64 p.tos) (.int .i64 p.id) (.bool p.df) (.bool p.mf) (.int .i64 p.off) (.int .i64 p.ttl) (.int .u32 p.src) (.int .u32 p.dst) (.slice oo p.ol oc) p.proto ob p.bl bc p.body w1 h8 hl hb (ofErr_iff.1 h0).2.2.1 hz6)
  rw [hk, hpl] at HOF
  have hsrc := hP.src
  have HDST := Lib.hid hP.dst
  have q1 : (p.proto == 1) = false := by simpa using h1
  have pw := wrapk_u16 port (by omega) (by omega)
  have hPl : P + 2 ≤ p.bl := by omega
  have n0 : (0 : Int) ≤ (k : Int) := by omega
  obtain ⟨C, hC⟩ : ∃ v, wd (bmI pl k (bmI pl k (w2 (bmI pl k p.body (wd p.body P) port) P port) (p.src / 65536) (addr / 65536)) (p.src % 65536) (addr % 65536)) k = v := ⟨_, rfl⟩
  have HC := Lib.hid hC
  have HPP := Lib.hid hPP
  clear h0 hT hP hk hpl h1 hC hPP hp0 hz6
  go_enter Tryz.func304, Tryz.ntmps304
  go_upto_region 12 with (first | (go_at_call 32; (with_reducible refine (HTO.out _ (HP.out.on (by (exact jkc)))).mono ?_); rintro e w' ⟨rfl, ⟨osT, dT, rfl⟩⟩) | (go_at_call 312; (with_reducible refine (HOF.out _ (HP.out.body.on (by (exact jkc)))).mono ?_); rintro e w' ⟨bb, g, cap, rfl, hS⟩; obtain ⟨osO, dO, hv⟩ := hS.st.j; subst hv; have HS0 := Lib.hid hS; clear hS) | (go_at_call 303; refine (clos_src _ _).mono ?_; rintro e w' ⟨rfl, ⟨osL, dL, rfl⟩⟩) | (go_at_call 313; (with_reducible refine (bword_st (HS0.out.on (by (exact jkc))) k rfl hkl hl P _ (by omega) (by omega) port ⟨p0, p1⟩).mono ?_); rintro e V1 ⟨rfl, hS⟩; obtain ⟨os1, d1, hv⟩ := hS.st.j; subst hv; have HS1 := Lib.hid hS; clear hS) | (go_at_call 314; (with_reducible refine (baddr_st (HS1.out.on (by (exact jkc))) k rfl hkl hl p.src addr hsrc haddr).mono ?_); rintro e V2 ⟨rfl, hS⟩; obtain ⟨os2, d2, hv⟩ := hS.st.j; subst hv; obtain ⟨z0, z1⟩ := hS.c0; have z2 := hS.c1; have z3 := hS.c2; have HS2 := Lib.hid hS; clear hS))
  obtain ⟨X, hX⟩ : ∃ X, bmI pl k (bmI pl k (w2 (bmI pl k p.body (wd p.body P) port) P port) (p.src / 65536) (addr / 65536)) (p.src % 65536) (addr % 65536) = X := ⟨_, rfl⟩
  rw [hX] at HS2 HC
  have HXX := Lib.hid hX
  clear hX HS0 HS1
  have HFIN : (pl = false ∧ (C == 0) = false ∧ rwFin pl k X = X) ∨ (pl = false ∧ (C == 0) = true ∧ rwFin pl k X = w2 X k 65535) := by
    cases pl with
    | true => exact absurd HPL.out (by decide)
    | false =>
      by_cases hc : C = 0
      · exact .inr ⟨rfl, by simpa using hc, by unfold rwFin; rw [if_neg (by decide), if_pos (by rw [HC.out]; exact hc)]⟩
      · exact .inl ⟨rfl, by simpa using hc, by unfold rwFin; rw [if_neg (by decide), if_neg (by rw [HC.out]; exact hc)]⟩
  rcases HFIN with ⟨rfl, hc, hf⟩ | ⟨rfl, hc, hf⟩
  · go_upto_region 14 with (first | (go_at_call 315; (with_reducible refine (bget_st (HS2.out.on (by (exact jkc))) k _ C HC.out (by omega) hkl hl).mono ?_); rintro e w' ⟨rfl, ⟨os3, d3, rfl⟩⟩; have HSg := Lib.hid (HS2.out.on (V' := ((((((w.alloc (.cells #[.int .i64 (P : Int), .func (.func 303) #[] #[]] 427)).alloc (.cells #[.int .i64 p.tos, .int .i64 p.id, .bool p.df, .bool p.mf, .int .i64 p.off, .int .i64 p.ttl, .int .i64 p.proto, .int .u32 p.src, .int .u32 p.dst, .slice oo p.ol oc, .slice ob p.bl bc] 36)).alloc (.cells #[.int .i64 0, .int .i64 0, .bool false, .bool false, .int .i64 0, .int .i64 0, .int .i64 0, .int .u32 0, .int .u32 0, .slice none 0 0, .slice none 0 0] 36)).junk osT dT).alloc (.cells #[.int .i64 t0, .int .u32 t1, .int .i64 t2, .int .u32 t3, .int .i64 t4] 38))).junk (os2 ++ os3) d3) (by (exact jkc))); obtain ⟨y0, y1⟩ := HSg.out.c0; have y2 := HSg.out.c1; have y3 := HSg.out.c2))
    have HS5 := Lib.hid (show BSt [] ((((((w.alloc (.cells #[.int .i64 (P : Int), .func (.func 303) #[] #[]] 427)).alloc (.cells #[.int .i64 p.tos, .int .i64 p.id, .bool p.df, .bool p.mf, .int .i64 p.off, .int .i64 p.ttl, .int .i64 p.proto, .int .u32 p.src, .int .u32 p.dst, .slice oo p.ol oc, .slice ob p.bl bc] 36)).alloc (.cells #[.int .i64 0, .int .i64 0, .bool false, .bool false, .int .i64 0, .int .i64 0, .int .i64 0, .int .u32 0, .int .u32 0, .slice none 0 0, .slice none 0 0] 36)).junk osT dT).alloc (.cells #[.int .i64 t0, .int .u32 t1, .int .i64 t2, .int .u32 t3, .int .i64 t4] 38))) (((((((w.alloc (.cells #[.int .i64 (P : Int), .func (.func 303) #[] #[]] 427)).alloc (.cells #[.int .i64 p.tos, .int .i64 p.id, .bool p.df, .bool p.mf, .int .i64 p.off, .int .i64 p.ttl, .int .i64 p.proto, .int .u32 p.src, .int .u32 p.dst, .slice oo p.ol oc, .slice ob p.bl bc] 36)).alloc (.cells #[.int .i64 0, .int .i64 0, .bool false, .bool false, .int .i64 0, .int .i64 0, .int .i64 0, .int .u32 0, .int .u32 0, .slice none 0 0, .slice none 0 0] 36)).junk osT dT).alloc (.cells #[.int .i64 t0, .int .u32 t1, .int .i64 t2, .int .u32 t3, .int .i64 t4] 38))).junk (os2 ++ os3) d3) bb g p.bl cap k false (rwFin false k X) by rw [hf]; exact HS2.out.on (by (exact jkc)))
    generalize os2 ++ os3 = osF at HS5 y0 y1 y2 y3 ⊢
    have hcs : ∀ (os : Array Obj) (d : Nat), bb < ((((((((w.alloc (.cells #[.int .i64 (P : Int), .func (.func 303) #[] #[]] 427)).alloc (.cells #[.int .i64 p.tos, .int .i64 p.id, .bool p.df, .bool p.mf, .int .i64 p.off, .int .i64 p.ttl, .int .i64 p.proto, .int .u32 addr, .int .u32 p.dst, .slice oo p.ol oc, .slice ob p.bl bc] 36)).alloc (.cells #[.int .i64 0, .int .i64 0, .bool false, .bool false, .int .i64 0, .int .i64 0, .int .i64 0, .int .u32 0, .int .u32 0, .slice none 0 0, .slice none 0 0] 36)).junk osT dT).alloc (.cells #[.int .i64 t0, .int .u32 t1, .int .i64 t2, .int .u32 t3, .int .i64 t4] 38)))).junk (osF ++ os) d).heap.size ∧ ((((((((w.alloc (.cells #[.int .i64 (P : Int), .func (.func 303) #[] #[]] 427)).alloc (.cells #[.int .i64 p.tos, .int .i64 p.id, .bool p.df, .bool p.mf, .int .i64 p.off, .int .i64 p.ttl, .int .i64 p.proto, .int .u32 addr, .int .u32 p.dst, .slice oo p.ol oc, .slice ob p.bl bc] 36)).alloc (.cells #[.int .i64 0, .int .i64 0, .bool false, .bool false, .int .i64 0, .int .i64 0, .int .i64 0, .int .u32 0, .int .u32 0, .slice none 0 0, .slice none 0 0] 36)).junk osT dT).alloc (.cells #[.int .i64 t0, .int .u32 t1, .int .i64 t2, .int .u32 t3, .int .i64 t4] 38)))).junk (osF ++ os) d).cell? ⟨bb, 0, none⟩ = some (.slice (some ⟨g, 0, none⟩) p.bl cap) := fun os d =>
      have hz := (HS5.out.on (V' := ((((((w.alloc (.cells #[.int .i64 (P : Int), .func (.func 303) #[] #[]] 427)).alloc (.cells #[.int .i64 p.tos, .int .i64 p.id, .bool p.df, .bool p.mf, .int .i64 p.off, .int .i64 p.ttl, .int .i64 p.proto, .int .u32 p.src, .int .u32 p.dst, .slice oo p.ol oc, .slice ob p.bl bc] 36)).alloc (.cells #[.int .i64 0, .int .i64 0, .bool false, .bool false, .int .i64 0, .int .i64 0, .int .i64 0, .int .u32 0, .int .u32 0, .slice none 0 0, .slice none 0 0] 36)).junk osT dT).alloc (.cells #[.int .i64 t0, .int .u32 t1, .int .i64 t2, .int .u32 t3, .int .i64 t4] 38))).junk (osF ++ os) d) (by (exact jkc))).c0
      swap_cell hz.2 hz.1 (by simp)
    have hc1 := fun os d => (hcs os d).1
    have hc2 := fun os d => (hcs os d).2
    clear hcs
    clear z0 z1 z2 z3 y0 y1 y2 y3 hc
    go_upto_region 15 with (fail)
    refine wp_region_mixm ((((((((w.alloc (.cells #[.int .i64 (P : Int), .func (.func 303) #[] #[]] 427)).alloc (.cells #[.int .i64 p.tos, .int .i64 p.id, .bool p.df, .bool p.mf, .int .i64 p.off, .int .i64 p.ttl, .int .i64 p.proto, .int .u32 addr, .int .u32 p.dst, .slice oo p.ol oc, .slice ob p.bl bc] 36)).alloc (.cells #[.int .i64 0, .int .i64 0, .bool false, .bool false, .int .i64 0, .int .i64 0, .int .i64 0, .int .u32 0, .int .u32 0, .slice none 0 0, .slice none 0 0] 36)).junk osT dT).alloc (.cells #[.int .i64 t0, .int .u32 t1, .int .i64 t2, .int .u32 t3, .int .i64 t4] 38)))).junk osF d3) [8, 9, 10] [(0, true), (1, true), (3, true), (4, true), (5, true), (6, true), (2, false), (7, true), (8, false), (9, false), (10, false)] (by kernel_rfl) (by kernel_rfl) (by (first | exact jkc | repeat (first | with_reducible exact Junk.refl _ | with_reducible exact Junk.app _ _ _ _ _ | with_reducible apply Junk.alloc | with_reducible apply Junk.junk | with_reducible apply Junk.drew | with_reducible apply Junk.drewN | (with_reducible refine Junk.setCell ?_ (by simp) _)))) ?_; (iterate 6 (refine wpMixM_q rfl (fun K hK => ?_); (go_simp; try go_bits); (refine hK _ ?_; clear hK K))); refine wpMixM_e rfl (fun osm15_0 dm15_0 K hK => ?_); (go_simp; try go_bits); (go_at_call 44; refine (clone_any oo p.ol oc p.opts _ hol (HP.out.opts.on (by (exact jkc)))).mono ?_; rintro e w' ⟨oq, cq, rfl, ⟨osQ, dQ, rfl⟩, hbq, _, hfq⟩; (try simp only [World.junk_junk, Array.append_assoc] at hbq); have HBQ := Lib.hid hbq; have HFQ := Lib.hid hfq; clear hbq hfq); refine hK _ _ (Junk.pair (by (first | exact jkc | repeat (first | with_reducible exact Junk.refl _ | with_reducible exact Junk.app _ _ _ _ _ | with_reducible apply Junk.alloc | with_reducible apply Junk.junk | with_reducible apply Junk.drew | with_reducible apply Junk.drewN | (with_reducible refine Junk.setCell ?_ (by simp) _))))) ?_; clear hK K; (iterate 1 (refine wpMixM_q rfl (fun K hK => ?_); (go_simp; try go_bits); (refine hK _ ?_; clear hK K))); refine wpMixM_late (by decide) rfl (fun osm15_1 dm15_1 K hK => ?_); (go_simp; try go_bits); refine hK _ _ ?_; clear hK K; refine wpMixM_late (by decide) rfl (fun osm15_2 dm15_2 K hK => ?_); (go_simp; try go_bits); refine hK _ _ ?_; clear hK K; refine wpMixM_late (by decide) rfl (fun osm15_3 dm15_3 K hK => ?_); (go_simp; try go_bits); refine hK _ _ ?_; clear hK K; refine wpMixM_nil (fun osm dm => ?_)
    (try simp only [World.junk_junk, Array.append_assoc])
    go_upto_region 16 with (fail)
    repeat (first | go_values | go_skip | go_guarded | go_step)
    refine bodyPost_ret (by simp [results, Tryz.results304, go_sem]; try rfl) rfl ?_
    refine ⟨oq, some ⟨g, 0, none⟩, cq, cap, rfl, by (exact jkc), ⟨?_, ?_, haddr, HDST.out⟩⟩
    · exact bts_swap2 (bts_swap (cur' := #[.int .i64 p.tos, .int .i64 p.id, .bool p.df, .bool p.mf, .int .i64 p.off, .int .i64 p.ttl, .int .i64 p.proto, .int .u32 addr, .int .u32 p.dst, .slice oq p.ol cq, .slice (some ⟨g, 0, none⟩) p.bl cap]) (HBQ.out.on (W' := (((((((w.alloc (.cells #[.int .i64 (P : Int), .func (.func 303) #[] #[]] 427)).alloc (.cells #[.int .i64 p.tos, .int .i64 p.id, .bool p.df, .bool p.mf, .int .i64 p.off, .int .i64 p.ttl, .int .i64 p.proto, .int .u32 addr, .int .u32 p.dst, .slice oo p.ol oc, .slice ob p.bl bc] 36)).alloc (.cells #[.int .i64 0, .int .i64 0, .bool false, .bool false, .int .i64 0, .int .i64 0, .int .i64 0, .int .u32 0, .int .u32 0, .slice none 0 0, .slice none 0 0] 36)).junk osT dT).alloc (.cells #[.int .i64 t0, .int .u32 t1, .int .i64 t2, .int .u32 t3, .int .i64 t4] 38)))).junk _ _) (by (exact jkc))) (ip_nb _ _ _ _ _ _ _ _ _ _ _ _ _ _ _)) (ip_nb _ _ _ _ _ _ _ _ _ _ _ _ _ _ _)
    · dsimp only
      rw [HXX.out]
      exact bts_swap2 (bts_swap (cur' := #[.int .i64 p.tos, .int .i64 p.id, .bool p.df, .bool p.mf, .int .i64 p.off, .int .i64 p.ttl, .int .i64 p.proto, .int .u32 addr, .int .u32 p.dst, .slice oq p.ol cq, .slice (some ⟨g, 0, none⟩) p.bl cap]) (HS5.out.st.b.on (W' := ((((((w.alloc (.cells #[.int .i64 (P : Int), .func (.func 303) #[] #[]] 427)).alloc (.cells #[.int .i64 p.tos, .int .i64 p.id, .bool p.df, .bool p.mf, .int .i64 p.off, .int .i64 p.ttl, .int .i64 p.proto, .int .u32 p.src, .int .u32 p.dst, .slice oo p.ol oc, .slice ob p.bl bc] 36)).alloc (.cells #[.int .i64 0, .int .i64 0, .bool false, .bool false, .int .i64 0, .int .i64 0, .int .i64 0, .int .u32 0, .int .u32 0, .slice none 0 0, .slice none 0 0] 36)).junk osT dT).alloc (.cells #[.int .i64 t0, .int .u32 t1, .int .i64 t2, .int .u32 t3, .int .i64 t4] 38))).junk _ _) (by (exact jkc))) (ip_nb _ _ _ _ _ _ _ _ _ _ _ _ _ _ _)) (ip_nb _ _ _ _ _ _ _ _ _ _ _ _ _ _ _)
  · go_upto_region 14 with (first | (go_at_call 315; (with_reducible refine (bget_st (HS2.out.on (by (exact jkc))) k _ C HC.out (by omega) hkl hl).mono ?_); rintro e w' ⟨rfl, ⟨os3, d3, rfl⟩⟩; have HSg := Lib.hid (HS2.out.on (V' := ((((((w.alloc (.cells #[.int .i64 (P : Int), .func (.func 303) #[] #[]] 427)).alloc (.cells #[.int .i64 p.tos, .int .i64 p.id, .bool p.df, .bool p.mf, .int .i64 p.off, .int .i64 p.ttl, .int .i64 p.proto, .int .u32 p.src, .int .u32 p.dst, .slice oo p.ol oc, .slice ob p.bl bc] 36)).alloc (.cells #[.int .i64 0, .int .i64 0, .bool false, .bool false, .int .i64 0, .int .i64 0, .int .i64 0, .int .u32 0, .int .u32 0, .slice none 0 0, .slice none 0 0] 36)).junk osT dT).alloc (.cells #[.int .i64 t0, .int .u32 t1, .int .i64 t2, .int .u32 t3, .int .i64 t4] 38))).junk (os2 ++ os3) d3) (by (exact jkc))); obtain ⟨y0, y1⟩ := HSg.out.c0; have y2 := HSg.out.c1; have y3 := HSg.out.c2) | (go_at_call 316; (with_reducible refine (bset_st (HS2.out.on (by (exact jkc))) k _ 65535 (by omega) hkl hl ⟨by decide, by decide⟩).mono ?_); rintro e V3 ⟨rfl, hS⟩; obtain ⟨os4, d4, hv⟩ := hS.st.j; subst hv; have HS3 := Lib.hid hS; clear hS))
    have HS5 := Lib.hid (show BSt [] ((((((w.alloc (.cells #[.int .i64 (P : Int), .func (.func 303) #[] #[]] 427)).alloc (.cells #[.int .i64 p.tos, .int .i64 p.id, .bool p.df, .bool p.mf, .int .i64 p.off, .int .i64 p.ttl, .int .i64 p.proto, .int .u32 p.src, .int .u32 p.dst, .slice oo p.ol oc, .slice ob p.bl bc] 36)).alloc (.cells #[.int .i64 0, .int .i64 0, .bool false, .bool false, .int .i64 0, .int .i64 0, .int .i64 0, .int .u32 0, .int .u32 0, .slice none 0 0, .slice none 0 0] 36)).junk osT dT).alloc (.cells #[.int .i64 t0, .int .u32 t1, .int .i64 t2, .int .u32 t3, .int .i64 t4] 38))) (((((((w.alloc (.cells #[.int .i64 (P : Int), .func (.func 303) #[] #[]] 427)).alloc (.cells #[.int .i64 p.tos, .int .i64 p.id, .bool p.df, .bool p.mf, .int .i64 p.off, .int .i64 p.ttl, .int .i64 p.proto, .int .u32 p.src, .int .u32 p.dst, .slice oo p.ol oc, .slice ob p.bl bc] 36)).alloc (.cells #[.int .i64 0, .int .i64 0, .bool false, .bool false, .int .i64 0, .int .i64 0, .int .i64 0, .int .u32 0, .int .u32 0, .slice none 0 0, .slice none 0 0] 36)).junk osT dT).alloc (.cells #[.int .i64 t0, .int .u32 t1, .int .i64 t2, .int .u32 t3, .int .i64 t4] 38))).junk os4 d4) bb g p.bl cap k false (rwFin false k X) by rw [hf]; exact HS3.out)
    have hcs : ∀ (os : Array Obj) (d : Nat), bb < ((((((((w.alloc (.cells #[.int .i64 (P : Int), .func (.func 303) #[] #[]] 427)).alloc (.cells #[.int .i64 p.tos, .int .i64 p.id, .bool p.df, .bool p.mf, .int .i64 p.off, .int .i64 p.ttl, .int .i64 p.proto, .int .u32 addr, .int .u32 p.dst, .slice oo p.ol oc, .slice ob p.bl bc] 36)).alloc (.cells #[.int .i64 0, .int .i64 0, .bool false, .bool false, .int .i64 0, .int .i64 0, .int .i64 0, .int .u32 0, .int .u32 0, .slice none 0 0, .slice none 0 0] 36)).junk osT dT).alloc (.cells #[.int .i64 t0, .int .u32 t1, .int .i64 t2, .int .u32 t3, .int .i64 t4] 38)))).junk (os4 ++ os) d).heap.size ∧ ((((((((w.alloc (.cells #[.int .i64 (P : Int), .func (.func 303) #[] #[]] 427)).alloc (.cells #[.int .i64 p.tos, .int .i64 p.id, .bool p.df, .bool p.mf, .int .i64 p.off, .int .i64 p.ttl, .int .i64 p.proto, .int .u32 addr, .int .u32 p.dst, .slice oo p.ol oc, .slice ob p.bl bc] 36)).alloc (.cells #[.int .i64 0, .int .i64 0, .bool false, .bool false, .int .i64 0, .int .i64 0, .int .i64 0, .int .u32 0, .int .u32 0, .slice none 0 0, .slice none 0 0] 36)).junk osT dT).alloc (.cells #[.int .i64 t0, .int .u32 t1, .int .i64 t2, .int .u32 t3, .int .i64 t4] 38)))).junk (os4 ++ os) d).cell? ⟨bb, 0, none⟩ = some (.slice (some ⟨g, 0, none⟩) p.bl cap) := fun os d =>
      have hz := (HS5.out.on (V' := ((((((w.alloc (.cells #[.int .i64 (P : Int), .func (.func 303) #[] #[]] 427)).alloc (.cells #[.int .i64 p.tos, .int .i64 p.id, .bool p.df, .bool p.mf, .int .i64 p.off, .int .i64 p.ttl, .int .i64 p.proto, .int .u32 p.src, .int .u32 p.dst, .slice oo p.ol oc, .slice ob p.bl bc] 36)).alloc (.cells #[.int .i64 0, .int .i64 0, .bool false, .bool false, .int .i64 0, .int .i64 0, .int .i64 0, .int .u32 0, .int .u32 0, .slice none 0 0, .slice none 0 0] 36)).junk osT dT).alloc (.cells #[.int .i64 t0, .int .u32 t1, .int .i64 t2, .int .u32 t3, .int .i64 t4] 38))).junk (os4 ++ os) d) (by (exact jkc))).c0
      swap_cell hz.2 hz.1 (by simp)
    have hc1 := fun os d => (hcs os d).1
    have hc2 := fun os d => (hcs os d).2
    clear hcs
    clear z0 z1 z2 z3 y0 y1 y2 y3 hc
    go_upto_region 15 with (fail)
    refine wp_region_mixm ((((((((w.alloc (.cells #[.int .i64 (P : Int), .func (.func 303) #[] #[]] 427)).alloc (.cells #[.int .i64 p.tos, .int .i64 p.id, .bool p.df, .bool p.mf, .int .i64 p.off, .int .i64 p.ttl, .int .i64 p.proto, .int .u32 addr, .int .u32 p.dst, .slice oo p.ol oc, .slice ob p.bl bc] 36)).alloc (.cells #[.int .i64 0, .int .i64 0, .bool false, .bool false, .int .i64 0, .int .i64 0, .int .i64 0, .int .u32 0, .int .u32 0, .slice none 0 0, .slice none 0 0] 36)).junk osT dT).alloc (.cells #[.int .i64 t0, .int .u32 t1, .int .i64 t2, .int .u32 t3, .int .i64 t4] 38)))).junk os4 d4) [8, 9, 10] [(0, true), (1, true), (3, true), (4, true), (5, true), (6, true), (2, false), (7, true), (8, false), (9, false), (10, false)] (by kernel_rfl) (by kernel_rfl) (by (first | exact jkc | repeat (first | with_reducible exact Junk.refl _ | with_reducible exact Junk.app _ _ _ _ _ | with_reducible apply Junk.alloc | with_reducible apply Junk.junk | with_reducible apply Junk.drew | with_reducible apply Junk.drewN | (with_reducible refine Junk.setCell ?_ (by simp) _)))) ?_; (iterate 6 (refine wpMixM_q rfl (fun K hK => ?_); (go_simp; try go_bits); (refine hK _ ?_; clear hK K))); refine wpMixM_e rfl (fun osm15_0 dm15_0 K hK => ?_); (go_simp; try go_bits); (go_at_call 44; refine (clone_any oo p.ol oc p.opts _ hol (HP.out.opts.on (by (exact jkc)))).mono ?_; rintro e w' ⟨oq, cq, rfl, ⟨osQ, dQ, rfl⟩, hbq, _, hfq⟩; (try simp only [World.junk_junk, Array.append_assoc] at hbq); have HBQ := Lib.hid hbq; have HFQ := Lib.hid hfq; clear hbq hfq); refine hK _ _ (Junk.pair (by (first | exact jkc | repeat (first | with_reducible exact Junk.refl _ | with_reducible exact Junk.app _ _ _ _ _ | with_reducible apply Junk.alloc | with_reducible apply Junk.junk | with_reducible apply Junk.drew | with_reducible apply Junk.drewN | (with_reducible refine Junk.setCell ?_ (by simp) _))))) ?_; clear hK K; (iterate 1 (refine wpMixM_q rfl (fun K hK => ?_); (go_simp; try go_bits); (refine hK _ ?_; clear hK K))); refine wpMixM_late (by decide) rfl (fun osm15_1 dm15_1 K hK => ?_); (go_simp; try go_bits); refine hK _ _ ?_; clear hK K; refine wpMixM_late (by decide) rfl (fun osm15_2 dm15_2 K hK => ?_); (go_simp; try go_bits); refine hK _ _ ?_; clear hK K; refine wpMixM_late (by decide) rfl (fun osm15_3 dm15_3 K hK => ?_); (go_simp; try go_bits); refine hK _ _ ?_; clear hK K; refine wpMixM_nil (fun osm dm => ?_)
    (try simp only [World.junk_junk, Array.append_assoc])
    go_upto_region 16 with (fail)
    repeat (first | go_values | go_skip | go_guarded | go_step)
    refine bodyPost_ret (by simp [results, Tryz.results304, go_sem]; try rfl) rfl ?_
    refine ⟨oq, some ⟨g, 0, none⟩, cq, cap, rfl, by (exact jkc), ⟨?_, ?_, haddr, HDST.out⟩⟩
    · exact bts_swap2 (bts_swap (cur' := #[.int .i64 p.tos, .int .i64 p.id, .bool p.df, .bool p.mf, .int .i64 p.off, .int .i64 p.ttl, .int .i64 p.proto, .int .u32 addr, .int .u32 p.dst, .slice oq p.ol cq, .slice (some ⟨g, 0, none⟩) p.bl cap]) (HBQ.out.on (W' := (((((((w.alloc (.cells #[.int .i64 (P : Int), .func (.func 303) #[] #[]] 427)).alloc (.cells #[.int .i64 p.tos, .int .i64 p.id, .bool p.df, .bool p.mf, .int .i64 p.off, .int .i64 p.ttl, .int .i64 p.proto, .int .u32 addr, .int .u32 p.dst, .slice oo p.ol oc, .slice ob p.bl bc] 36)).alloc (.cells #[.int .i64 0, .int .i64 0, .bool false, .bool false, .int .i64 0, .int .i64 0, .int .i64 0, .int .u32 0, .int .u32 0, .slice none 0 0, .slice none 0 0] 36)).junk osT dT).alloc (.cells #[.int .i64 t0, .int .u32 t1, .int .i64 t2, .int .u32 t3, .int .i64 t4] 38)))).junk _ _) (by (exact jkc))) (ip_nb _ _ _ _ _ _ _ _ _ _ _ _ _ _ _)) (ip_nb _ _ _ _ _ _ _ _ _ _ _ _ _ _ _)
    · dsimp only
      rw [HXX.out]
      exact bts_swap2 (bts_swap (cur' := #[.int .i64 p.tos, .int .i64 p.id, .bool p.df, .bool p.mf, .int .i64 p.off, .int .i64 p.ttl, .int .i64 p.proto, .int .u32 addr, .int .u32 p.dst, .slice oq p.ol cq, .slice (some ⟨g, 0, none⟩) p.bl cap]) (HS5.out.st.b.on (W' := ((((((w.alloc (.cells #[.int .i64 (P : Int), .func (.func 303) #[] #[]] 427)).alloc (.cells #[.int .i64 p.tos, .int .i64 p.id, .bool p.df, .bool p.mf, .int .i64 p.off, .int .i64 p.ttl, .int .i64 p.proto, .int .u32 p.src, .int .u32 p.dst, .slice oo p.ol oc, .slice ob p.bl bc] 36)).alloc (.cells #[.int .i64 0, .int .i64 0, .bool false, .bool false, .int .i64 0, .int .i64 0, .int .i64 0, .int .u32 0, .int .u32 0, .slice none 0 0, .slice none 0 0] 36)).junk osT dT).alloc (.cells #[.int .i64 t0, .int .u32 t1, .int .i64 t2, .int .u32 t3, .int .i64 t4] 38))).junk _ _) (by (exact jkc))) (ip_nb _ _ _ _ _ _ _ _ _ _ _ _ _ _ _)) (ip_nb _ _ _ _ _ _ _ _ _ _ _ _ _ _ _)
end Go.Proofs.YtfhkhnoiolkkdaaGreatDoor
set_option linter.unusedVariables false
set_option maxRecDepth 100000
set_option linter.unusedSimpArgs false
namespace Go.Proofs.YtfhkhnoiolkkdaaGreatDoor
open Go.RowKit
set_option maxHeartbeats 4000000 in
theorem rturnD_ok (p : Ip) (oo ob : Option Addr) (oc bc : Nat) (addr port : Int) (w : World) (hP : IpAt w p oo oc ob bc) (hl : p.bl ≤ 100000000) (hol : p.ol ≤ 100000000) (haddr : 0 ≤ addr ∧ addr ≤ 4294967295) (hport : 0 ≤ port ∧ port ≤ 65535)
    (h0 : ofErr p.mf p.off p.proto p.src p.dst p.body p.bl = 0) (h8 : 8 ≤ p.bl) (k : Nat) (hk : rwSum p.proto = k) (hkl : k + 2 ≤ p.bl) (pl : Bool) (hpl : rwPlain p.proto p.body = pl) (hp0 : pl = false) (hz6 : ¬ wd p.body 6 = 0) (h1 : p.proto ≠ 1) (P : Nat) (hPP : P = 2) :
    Calls Tryz.prog 304 #[.agg #[.int .i64 (P : Int), .func (.func 305) #[] #[]], .agg #[.int .i64 p.tos, .int .i64 p.id, .bool p.df, .bool p.mf, .int .i64 p.off, .int .i64 p.ttl, .int .i64 p.proto, .int .u32 p.src, .int .u32 p.dst, .slice oo p.ol oc, .slice ob p.bl bc], .int .u32 addr, .int .i64 port] w (RtM w ⟨p.tos, p.id, p.df, p.mf, p.off, p.ttl, p.proto, p.src, addr, p.ol, p.opts, p.bl, rwFin pl k (bmI pl k (bmI pl k (w2 (bmI pl k p.body (wd p.body P) port) P port) (p.dst / 65536) (addr / 65536)) (p.dst % 65536) (addr % 65536))⟩) := by
  have HPL := Lib.hid hp0
  have HP := Lib.hid hP
  obtain ⟨p0, p1⟩ := hport
  have p0' : ¬ port < 0 := by omega
  have p1' : ¬ 65535 < port := by omega
  obtain ⟨⟨t0, t1, t2, t3, t4⟩, hT⟩ : ∃ t, ofTup p.mf p.off p.proto p.src p.dst p.body p.bl = t := ⟨_, rfl⟩
  have HTO := Lib.hid (fun w1 (hp : IpAt w1 p oo oc ob bc) => show Calls Tryz.prog 32 #[.agg #[.int .i64 p.tos, .int .i64 p.id, .bool p.df, .bool p.mf, .int .i64 p.off, .int .i64 p.ttl, .int .i64 p.proto, .int .u32 p.src, .int .u32 p.dst, .slice oo p.ol oc, .slice ob p.bl bc]] w1 fun e w' => e = .returned (.tuple #[.agg #[.int .i64 t0, .int .u32 t1, .int .i64 t2, .int .u32 t3, .int .i64 t4], .int .i64 0]) ∧ Junk w1 w' by
    have := tup_of_any (.int .i64 p.tos) (.int .i64 p.id) (.bool p.df) (.int .i64 p.ttl) (.slice oo p.ol oc) p.mf p.off p.proto p.src p.dst ob p.bl bc p.body w1 hp.src hp.dst hl hp.body h0
    rw [hT, h0] at this
    exact this)
  have HOF := Lib.hid (fun w1 hb => rof_any (.int .i64 p.tos) (.int .i64 p.id) (.bool p.df) (.bool p.mf) (.int .i64 p.off) (.int .i64 p.ttl) (.int .u32 p.src) (.int .u32 p.dst) (.slice oo p.ol oc) p.proto ob p.bl bc p.body w1 h8 hl hb (ofErr_iff.1 h0).2.2.1 hz6)
  rw [hk, hpl] at HOF
  have hdst := hP.dst
  have HSRC := Lib.hid hP.src
  have q1 : (p.proto == 1) = false := by simpa using h1
  have pw := wrapk_u16 port (by omega) (by omega)
  have hPl : P + 2 ≤ p.bl := by omega
  have n0 : (0 : Int) ≤ (k : Int) := by omega
  obtain ⟨C, hC⟩ : ∃ v, wd (bmI pl k (bmI pl k (w2 (bmI pl k p.body (wd p.body P) port) P port) (p.dst / 65536) (addr / 65536)) (p.dst % 65536) (addr % 65536)) k = v := ⟨_, rfl⟩
  have HC := Lib.hid hC
  have HPP := Lib.hid hPP
  clear h0 hT hP hk hpl h1 hC hPP hp0 hz6
  go_enter Tryz.func304, Tryz.ntmps304
  go_upto_region 12 with (first | (go_at_call 32; (with_reducible refine (HTO.out _ (HP.out.on (by (exact jkc)))).mono ?_); rintro e w' ⟨rfl, ⟨osT, dT, rfl⟩⟩) | (go_at_call 312; (with_reducible refine (HOF.out _ (HP.out.body.on (by (exact jkc)))).mono ?_); rintro e w' ⟨bb, g, cap, rfl, hS⟩; obtain ⟨osO, dO, hv⟩ := hS.st.j; subst hv; have HS0 := Lib.hid hS; clear hS) | (go_at_call 305; refine (clos_dst _ _).mono ?_; rintro e w' ⟨rfl, ⟨osL, dL, rfl⟩⟩) | (go_at_call 313; (with_reducible refine (bword_st (HS0.out.on (by (exact jkc))) k rfl hkl hl P _ (by omega) (by omega) port ⟨p0, p1⟩).mono ?_); rintro e V1 ⟨rfl, hS⟩; obtain ⟨os1, d1, hv⟩ := hS.st.j; subst hv; have HS1 := Lib.hid hS; clear hS) | (go_at_call 314; (with_reducible refine (baddr_st (HS1.out.on (by (exact jkc))) k rfl hkl hl p.dst addr hdst haddr).mono ?_); rintro e V2 ⟨rfl, hS⟩; obtain ⟨os2, d2, hv⟩ := hS.st.j; subst hv; obtain ⟨z0, z1⟩ := hS.c0; have z2 := hS.c1; have z3 := hS.c2; have HS2 := Lib.hid hS; clear hS))
  obtain ⟨X, hX⟩ : ∃ X, bmI pl k (bmI pl k (w2 (bmI pl k p.body (wd p.body P) port) P port) (p.dst / 65536) (addr / 65536)) (p.dst % 65536) (addr % 65536) = X := ⟨_, rfl⟩
  rw [hX] at HS2 HC
  have HXX := Lib.hid hX
  clear hX HS0 HS1
  have HFIN : (pl = false ∧ (C == 0) = false ∧ rwFin pl k X = X) ∨ (pl = false ∧ (C == 0) = true ∧ rwFin pl k X = w2 X k 65535) := by
    cases pl with
    | true => exact absurd HPL.out (by decide)
    | false =>
      by_cases hc : C = 0
      · exact .inr ⟨rfl, by simpa using hc, by unfold rwFin; rw [if_neg (by decide), if_pos (by rw [HC.out]; exact hc)]⟩
      · exact .inl ⟨rfl, by simpa using hc, by unfold rwFin; rw [if_neg (by decide), if_neg (by rw [HC.out]; exact hc)]⟩
  rcases HFIN with ⟨rfl, hc, hf⟩ | ⟨rfl, hc, hf⟩
  · go_upto_region 14 with (first | (go_at_call 315; (with_reducible refine (bget_st (HS2.out.on (by (exact jkc))) k _ C HC.out (by omega) hkl hl).mono ?_); rintro e w' ⟨rfl, ⟨os3, d3, rfl⟩⟩; have HSg := Lib.hid (HS2.out.on (V' := ((((((w.alloc (.cells #[.int .i64 (P : Int), .func (.func 305) #[] #[]] 427)).alloc (.cells #[.int .i64 p.tos, .int .i64 p.id, .bool p.df, .bool p.mf, .int .i64 p.off, .int .i64 p.ttl, .int .i64 p.proto, .int .u32 p.src, .int .u32 p.dst, .slice oo p.ol oc, .slice ob p.bl bc] 36)).alloc (.cells #[.int .i64 0, .int .i64 0, .bool false, .bool false, .int .i64 0, .int .i64 0, .int .i64 0, .int .u32 0, .int .u32 0, .slice none 0 0, .slice none 0 0] 36)).junk osT dT).alloc (.cells #[.int .i64 t0, .int .u32 t1, .int .i64 t2, .int .u32 t3, .int .i64 t4] 38))).junk (os2 ++ os3) d3) (by (exact jkc))); obtain ⟨y0, y1⟩ := HSg.out.c0; have y2 := HSg.out.c1; have y3 := HSg.out.c2))
    have HS5 := Lib.hid (show BSt [] ((((((w.alloc (.cells #[.int .i64 (P : Int), .func (.func 305) #[] #[]] 427)).alloc (.cells #[.int .i64 p.tos, .int .i64 p.id, .bool p.df, .bool p.mf, .int .i64 p.off, .int .i64 p.ttl, .int .i64 p.proto, .int .u32 p.src, .int .u32 p.dst, .slice oo p.ol oc, .slice ob p.bl bc] 36)).alloc (.cells #[.int .i64 0, .int .i64 0, .bool false, .bool false, .int .i64 0, .int .i64 0, .int .i64 0, .int .u32 0, .int .u32 0, .slice none 0 0, .slice none 0 0] 36)).junk osT dT).alloc (.cells #[.int .i64 t0, .int .u32 t1, .int .i64 t2, .int .u32 t3, .int .i64 t4] 38))) (((((((w.alloc (.cells #[.int .i64 (P : Int), .func (.func 305) #[] #[]] 427)).alloc (.cells #[.int .i64 p.tos, .int .i64 p.id, .bool p.df, .bool p.mf, .int .i64 p.off, .int .i64 p.ttl, .int .i64 p.proto, .int .u32 p.src, .int .u32 p.dst, .slice oo p.ol oc, .slice ob p.bl bc] 36)).alloc (.cells #[.int .i64 0, .int .i64 0, .bool false, .bool false, .int .i64 0, .int .i64 0, .int .i64 0, .int .u32 0, .int .u32 0, .slice none 0 0, .slice none 0 0] 36)).junk osT dT).alloc (.cells #[.int .i64 t0, .int .u32 t1, .int .i64 t2, .int .u32 t3, .int .i64 t4] 38))).junk (os2 ++ os3) d3) bb g p.bl cap k false (rwFin false k X) by rw [hf]; exact HS2.out.on (by (exact jkc)))
    generalize os2 ++ os3 = osF at HS5 y0 y1 y2 y3 ⊢
    have hcs : ∀ (os : Array Obj) (d : Nat), bb < ((((((((w.alloc (.cells #[.int .i64 (P : Int), .func (.func 305) #[] #[]] 427)).alloc (.cells #[.int .i64 p.tos, .int .i64 p.id, .bool p.df, .bool p.mf, .int .i64 p.off, .int .i64 p.ttl, .int .i64 p.proto, .int .u32 p.src, .int .u32 addr, .slice oo p.ol oc, .slice ob p.bl bc] 36)).alloc (.cells #[.int .i64 0, .int .i64 0, .bool false, .bool false, .int .i64 0, .int .i64 0, .int .i64 0, .int .u32 0, .int .u32 0, .slice none 0 0, .slice none 0 0] 36)).junk osT dT).alloc (.cells #[.int .i64 t0, .int .u32 t1, .int .i64 t2, .int .u32 t3, .int .i64 t4] 38)))).junk (osF ++ os) d).heap.size ∧ ((((((((w.alloc (.cells #[.int .i64 (P : Int), .func (.func 305) #[] #[]] 427)).alloc (.cells #[.int .i64 p.tos, .int .i64 p.id, .bool p.df, .bool p.mf, .int .i64 p.off, .int .i64 p.ttl, .int .i64 p.proto, .int .u32 p.src, .int .u32 addr, .slice oo p.ol oc, .slice ob p.bl bc] 36)).alloc (.cells #[.int .i64 0, .int .i64 0, .bool false, .bool false, .int .i64 0, .int .i64 0, .int .i64 0, .int .u32 0, .int .u32 0, .slice none 0 0, .slice none 0 0] 36)).junk osT dT).alloc (.cells #[.int .i64 t0, .int .u32 t1, .int .i64 t2, .int .u32 t3, .int .i64 t4] 38)))).junk (osF ++ os) d).cell? ⟨bb, 0, none⟩ = some (.slice (some ⟨g, 0, none⟩) p.bl cap) := fun os d =>
      have hz := (HS5.out.on (V' := ((((((w.alloc (.cells #[.int .i64 (P : Int), .func (.func 305) #[] #[]] 427)).alloc (.cells #[.int .i64 p.tos, .int .i64 p.id, .bool p.df, .bool p.mf, .int .i64 p.off, .int .i64 p.ttl, .int .i64 p.proto, .int .u32 p.src, .int .u32 p.dst, .slice oo p.ol oc, .slice ob p.bl bc] 36)).alloc (.cells #[.int .i64 0, .int .i64 0, .bool false, .bool false, .int .i64 0, .int .i64 0, .int .i64 0, .int .u32 0, .int .u32 0, .slice none 0 0, .slice none 0 0] 36)).junk osT dT).alloc (.cells #[.int .i64 t0, .int .u32 t1, .int .i64 t2, .int .u32 t3, .int .i64 t4] 38))).junk (osF ++ os) d) (by (exact jkc))).c0
      swap_cell hz.2 hz.1 (by simp)
    have hc1 := fun os d => (hcs os d).1
    have hc2 := fun os d => (hcs os d).2
    clear hcs
    clear z0 z1 z2 z3 y0 y1 y2 y3 hc
    go_upto_region 15 with (fail)
    refine wp_region_mixm ((((((((w.alloc (.cells #[.int .i64 (P : Int), .func (.func 305) #[] #[]] 427)).alloc (.cells #[.int .i64 p.tos, .int .i64 p.id, .bool p.df, .bool p.mf, .int .i64 p.off, .int .i64 p.ttl, .int .i64 p.proto, .int .u32 p.src, .int .u32 addr, .slice oo p.ol oc, .slice ob p.bl bc] 36)).alloc (.cells #[.int .i64 0, .int .i64 0, .bool false, .bool false, .int .i64 0, .int .i64 0, .int .i64 0, .int .u32 0, .int .u32 0, .slice none 0 0, .slice none 0 0] 36)).junk osT dT).alloc (.cells #[.int .i64 t0, .int .u32 t1, .int .i64 t2, .int .u32 t3, .int .i64 t4] 38)))).junk osF d3) [8, 9, 10] [(0, true), (1, true), (3, true), (4, true), (5, true), (6, true), (2, false), (7, true), (8, false), (9, false), (10, false)] (by kernel_rfl) (by kernel_rfl) (by (first | exact jkc | repeat (first | with_reducible exact Junk.refl _ | with_reducible exact Junk.app _ _ _ _ _ | with_reducible apply Junk.alloc | with_reducible apply Junk.junk | with_reducible apply Junk.drew | with_reducible apply Junk.drewN | (with_reducible refine Junk.setCell ?_ (by simp) _)))) ?_; (iterate 6 (refine wpMixM_q rfl (fun K hK => ?_); (go_simp; try go_bits); (refine hK _ ?_; clear hK K))); refine wpMixM_e rfl (fun osm15_0 dm15_0 K hK => ?_); (go_simp; try go_bits); (go_at_call 44; refine (clone_any oo p.ol oc p.opts _ hol (HP.out.opts.on (by (exact jkc)))).mono ?_; rintro e w' ⟨oq, cq, rfl, ⟨osQ, dQ, rfl⟩, hbq, _, hfq⟩; (try simp only [World.junk_junk, Array.append_assoc] at hbq); have HBQ := Lib.hid hbq; have HFQ := Lib.hid hfq; clear hbq hfq); refine hK _ _ (Junk.pair (by (first | exact jkc | repeat (first | with_reducible exact Junk.refl _ | with_reducible exact Junk.app _ _ _ _ _ | with_reducible apply Junk.alloc | with_reducible apply Junk.junk | with_reducible apply Junk.drew | with_reducible apply Junk.drewN | (with_reducible refine Junk.setCell ?_ (by simp) _))))) ?_; clear hK K; (iterate 1 (refine wpMixM_q rfl (fun K hK => ?_); (go_simp; try go_bits); (refine hK _ ?_; clear hK K))); refine wpMixM_late (by decide) rfl (fun osm15_1 dm15_1 K hK => ?_); (go_simp; try go_bits); refine hK _ _ ?_; clear hK K; refine wpMixM_late (by decide) rfl (fun osm15_2 dm15_2 K hK => ?_); (go_simp; try go_bits); refine hK _ _ ?_; clear hK K; refine wpMixM_late (by decide) rfl (fun osm15_3 dm15_3 K hK => ?_); (go_simp; try go_bits); refine hK _ _ ?_; clear hK K; refine wpMixM_nil (fun osm dm => ?_)
    (try simp only [World.junk_junk, Array.append_assoc])
    go_upto_region 16 with (fail)
    repeat (first | go_values | go_skip | go_guarded | go_step)
    refine bodyPost_ret (by simp [results, Tryz.results304, go_sem]; try rfl) rfl ?_
    refine ⟨oq, some ⟨g, 0, none⟩, cq, cap, rfl, by (exact jkc), ⟨?_, ?_, HSRC.out, haddr⟩⟩
    · exact bts_swap2 (bts_swap (cur' := #[.int .i64 p.tos, .int .i64 p.id, .bool p.df, .bool p.mf, .int .i64 p.off, .int .i64 p.ttl, .int .i64 p.proto, .int .u32 p.src, .int .u32 addr, .slice oq p.ol cq, .slice (some ⟨g, 0, none⟩) p.bl cap]) (HBQ.out.on (W' := (((((((w.alloc (.cells #[.int .i64 (P : Int), .func (.func 305) #[] #[]] 427)).alloc (.cells #[.int .i64 p.tos, .int .i64 p.id, .bool p.df, .bool p.mf, .int .i64 p.off, .int .i64 p.ttl, .int .i64 p.proto, .int .u32 p.src, .int .u32 addr, .slice oo p.ol oc, .slice ob p.bl bc] 36)).alloc (.cells #[.int .i64 0, .int .i64 0, .bool false, .bool false, .int .i64 0, .int .i64 0, .int .i64 0, .int .u32 0, .int .u32 0, .slice none 0 0, .slice none 0 0] 36)).junk osT dT).alloc (.cells #[.int .i64 t0, .int .u32 t1, .int .i64 t2, .int .u32 t3, .int .i64 t4] 38)))).junk _ _) (by (exact jkc))) (ip_nb _ _ _ _ _ _ _ _ _ _ _ _ _ _ _)) (ip_nb _ _ _ _ _ _ _ _ _ _ _ _ _ _ _)
    · dsimp only
      rw [HXX.out]
      exact bts_swap2 (bts_swap (cur' := #[.int .i64 p.tos, .int .i64 p.id, .bool p.df, .bool p.mf, .int .i64 p.off, .int .i64 p.ttl, .int .i64 p.proto, .int .u32 p.src, .int .u32 addr, .slice oq p.ol cq, .slice (some ⟨g, 0, none⟩) p.bl cap]) (HS5.out.st.b.on (W' := ((((((w.alloc (.cells #[.int .i64 (P : Int), .func (.func 305) #[] #[]] 427)).alloc (.cells #[.int .i64 p.tos, .int .i64 p.id, .bool p.df, .bool p.mf, .int .i64 p.off, .int .i64 p.ttl, .int .i64 p.proto, .int .u32 p.src, .int .u32 p.dst, .slice oo p.ol oc, .slice ob p.bl bc] 36)).alloc (.cells #[.int .i64 0, .int .i64 0, .bool false, .bool false, .int .i64 0, .int .i64 0, .int .i64 0, .int .u32 0, .int .u32 0, .slice none 0 0, .slice none 0 0] 36)).junk osT dT).alloc (.cells #[.int .i64 t0, .int .u32 t1, .int .i64 t2, .int .u32 t3, .int .i64 t4] 38))).junk _ _) (by (exact jkc))) (ip_nb _ _ _ _ _ _ _ _ _ _ _ _ _ _ _)) (ip_nb _ _ _ _ _ _ _ _ _ _ _ _ _ _ _)
  · go_upto_region 14 with (first | (go_at_call 315; (with_reducible refine (bget_st (HS2.out.on (by (exact jkc))) k _ C HC.out (by omega) hkl hl).mono ?_); rintro e w' ⟨rfl, ⟨os3, d3, rfl⟩⟩; have HSg := Lib.hid (HS2.out.on (V' := ((((((w.alloc (.cells #[.int .i64 (P : Int), .func (.func 305) #[] #[]] 427)).alloc (.cells #[.int .i64 p.tos, .int .i64 p.id, .bool p.df, .bool p.mf, .int .i64 p.off, .int .i64 p.ttl, .int .i64 p.proto, .int .u32 p.src, .int .u32 p.dst, .slice oo p.ol oc, .slice ob p.bl bc] 36)).alloc (.cells #[.int .i64 0, .int .i64 0, .bool false, .bool false, .int .i64 0, .int .i64 0, .int .i64 0, .int .u32 0, .int .u32 0, .slice none 0 0, .slice none 0 0] 36)).junk osT dT).alloc (.cells #[.int .i64 t0, .int .u32 t1, .int .i64 t2, .int .u32 t3, .int .i64 t4] 38))).junk (os2 ++ os3) d3) (by (exact jkc))); obtain ⟨y0, y1⟩ := HSg.out.c0; have y2 := HSg.out.c1; have y3 := HSg.out.c2) | (go_at_call 316; (with_reducible refine (bset_st (HS2.out.on (by (exact jkc))) k _ 65535 (by omega) hkl hl ⟨by decide, by decide⟩).mono ?_); rintro e V3 ⟨rfl, hS⟩; obtain ⟨os4, d4, hv⟩ := hS.st.j; subst hv; have HS3 := Lib.hid hS; clear hS))
    have HS5 := Lib.hid (show BSt [] ((((((w.alloc (.cells #[.int .i64 (P : Int), .func (.func 305) #[] #[]] 427)).alloc (.cells #[.int .i64 p.tos, .int .i64 p.id, .bool p.df, .bool p.mf, .int .i64 p.off, .int .i64 p.ttl, .int .i64 p.proto, .int .u32 p.src, .int .u32 p.dst, .slice oo p.ol oc, .slice ob p.bl bc] 36)).alloc (.cells #[.int .i64 0, .int .i64 0, .bool false, .bool false, .int .i64 0, .int .i64 0, .int .i64 0, .int .u32 0, .int .u32 0, .slice none 0 0, .slice none 0 0] 36)).junk osT dT).alloc (.cells #[.int .i64 t0, .int .u32 t1, .int .i64 t2, .int .u32 t3, .int .i64 t4] 38))) (((((((w.alloc (.cells #[.int .i64 (P : Int), .func (.func 305) #[] #[]] 427)).alloc (.cells #[.int .i64 p.tos, .int .i64 p.id, .bool p.df, .bool p.mf, .int .i64 p.off, .int .i64 p.ttl, .int .i64 p.proto, .int .u32 p.src, .int .u32 p.dst, .slice oo p.ol oc, .slice ob p.bl bc] 36)).alloc (.cells #[.int .i64 0, .int .i64 0, .bool false, .bool false, .int .i64 0, .int .i64 0, .int .i64 0, .int .u32 0, .int .u32 0, .slice none 0 0, .slice none 0 0] 36)).junk osT dT).alloc (.cells #[.int .i64 t0, .int .u32 t1, .int .i64 t2, .int .u32 t3, .int .i64 t4] 38))).junk os4 d4) bb g p.bl cap k false (rwFin false k X) by rw [hf]; exact HS3.out)
    have hcs : ∀ (os : Array Obj) (d : Nat), bb < ((((((((w.alloc (.cells #[.int .i64 (P : Int), .func (.func 305) #[] #[]] 427)).alloc (.cells #[.int .i64 p.tos, .int .i64 p.id, .bool p.df, .bool p.mf, .int .i64 p.off, .int .i64 p.ttl, .int .i64 p.proto, .int .u32 p.src, .int .u32 addr, .slice oo p.ol oc, .slice ob p.bl bc] 36)).alloc (.cells #[.int .i64 0, .int .i64 0, .bool false, .bool false, .int .i64 0, .int .i64 0, .int .i64 0, .int .u32 0, .int .u32 0, .slice none 0 0, .slice none 0 0] 36)).junk osT dT).alloc (.cells #[.int .i64 t0, .int .u32 t1, .int .i64 t2, .int .u32 t3, .int .i64 t4] 38)))).junk (os4 ++ os) d).heap.size ∧ ((((((((w.alloc (.cells #[.int .i64 (P : Int), .func (.func 305) #[] #[]] 427)).alloc (.cells #[.int .i64 p.tos, .int .i64 p.id, .bool p.df, .bool p.mf, .int .i64 p.off, .int .i64 p.ttl, .int .i64 p.proto, .int .u32 p.src, .int .u32 addr, .slice oo p.ol oc, .slice ob p.bl bc] 36)).alloc (.cells #[.int .i64 0, .int .i64 0, .bool false, .bool false, .int .i64 0, .int .i64 0, .int .i64 0, .int .u32 0, .int .u32 0, .slice none 0 0, .slice none 0 0] 36)).junk osT dT).alloc (.cells #[.int .i64 t0, .int .u32 t1, .int .i64 t2, .int .u32 t3, .int .i64 t4] 38)))).junk (os4 ++ os) d).cell? ⟨bb, 0, none⟩ = some (.slice (some ⟨g, 0, none⟩) p.bl cap) := fun os d =>
      have hz := (HS5.out.on (V' := ((((((w.alloc (.cells #[.int .i64 (P : Int), .func (.func 305) #[] #[]] 427)).alloc (.cells #[.int .i64 p.tos, .int .i64 p.id, .bool p.df, .bool p.mf, .int .i64 p.off, .int .i64 p.ttl, .int .i64 p.proto, .int .u32 p.src, .int .u32 p.dst, .slice oo p.ol oc, .slice ob p.bl bc] 36)).alloc (.cells #[.int .i64 0, .int .i64 0, .bool false, .bool false, .int .i64 0, .int .i64 0, .int .i64 0, .int .u32 0, .int .u32 0, .slice none 0 0, .slice none 0 0] 36)).junk osT dT).alloc (.cells #[.int .i64 t0, .int .u32 t1, .int .i64 t2, .int .u32 t3, .int .i64 t4] 38))).junk (os4 ++ os) d) (by (exact jkc))).c0
      swap_cell hz.2 hz.1 (by simp)
    have hc1 := fun os d => (hcs os d).1
    have hc2 := fun os d => (hcs os d).2
    clear hcs
    clear z0 z1 z2 z3 y0 y1 y2 y3 hc
    go_upto_region 15 with (fail)
    refine wp_region_mixm ((((((((w.alloc (.cells #[.int .i64 (P : Int), .func (.func 305) #[] #[]] 427)).alloc (.cells #[.int .i64 p.tos, .int .i64 p.id, .bool p.df, .bool p.mf, .int .i64 p.off, .int .i64 p.ttl, .int .i64 p.proto, .int .u32 p.src, .int .u32 addr, .slice oo p.ol oc, .slice ob p.bl bc] 36)).alloc (.cells #[.int .i64 0, .int .i64 0, .bool false, .bool false, .int .i64 0, .int .i64 0, .int .i64 0, .int .u32 0, .int .u32 0, .slice none 0 0, .slice none 0 0] 36)).junk osT dT).alloc (.cells #[.int .i64 t0, .int .u32 t1, .int .i64 t2, .int .u32 t3, .int .i64 t4] 38)))).junk os4 d4) [8, 9, 10] [(0, true), (1, true), (3, true), (4, true), (5, true), (6, true), (2, false), (7, true), (8, false), (9, false), (10, false)] (by kernel_rfl) (by kernel_rfl) (by (first | exact jkc | repeat (first | with_reducible exact Junk.refl _ | with_reducible exact Junk.app _ _ _ _ _ | with_reducible apply Junk.alloc | with_reducible apply Junk.junk | with_reducible apply Junk.drew | with_reducible apply Junk.drewN | (with_reducible refine Junk.setCell ?_ (by simp) _)))) ?_; (iterate 6 (refine wpMixM_q rfl (fun K hK => ?_); (go_simp; try go_bits); (refine hK _ ?_; clear hK K))); refine wpMixM_e rfl (fun osm15_0 dm15_0 K hK => ?_); (go_simp; try go_bits); (go_at_call 44; refine (clone_any oo p.ol oc p.opts _ hol (HP.out.opts.on (by (exact jkc)))).mono ?_; rintro e w' ⟨oq, cq, rfl, ⟨osQ, dQ, rfl⟩, hbq, _, hfq⟩; (try simp only [World.junk_junk, Array.append_assoc] at hbq); have HBQ := Lib.hid hbq; have HFQ := Lib.hid hfq; clear hbq hfq); refine hK _ _ (Junk.pair (by (first | exact jkc | repeat (first | with_reducible exact Junk.refl _ | with_reducible exact Junk.app _ _ _ _ _ | with_reducible apply Junk.alloc | with_reducible apply Junk.junk | with_reducible apply Junk.drew | with_reducible apply Junk.drewN | (with_reducible refine Junk.setCell ?_ (by simp) _))))) ?_; clear hK K; (iterate 1 (refine wpMixM_q rfl (fun K hK => ?_); (go_simp; try go_bits); (refine hK _ ?_; clear hK K))); refine wpMixM_late (by decide) rfl (fun osm15_1 dm15_1 K hK => ?_); (go_simp; try go_bits); refine hK _ _ ?_; clear hK K; refine wpMixM_late (by decide) rfl (fun osm15_2 dm15_2 K hK => ?_); (go_simp; try go_bits); refine hK _ _ ?_; clear hK K; refine wpMixM_late (by decide) rfl (fun osm15_3 dm15_3 K hK => ?_); (go_simp; try go_bits); refine hK _ _ ?_; clear hK K; refine wpMixM_nil (fun osm dm => ?_)
    (try simp only [World.junk_junk, Array.append_assoc])
    go_upto_region 16 with (fail)
    repeat (first | go_values | go_skip | go_guarded | go_step)
    refine bodyPost_ret (by simp [results, Tryz.results304, go_sem]; try rfl) rfl ?_
    refine ⟨oq, some ⟨g, 0, none⟩, cq, cap, rfl, by (exact jkc), ⟨?_, ?_, HSRC.out, haddr⟩⟩
    · exact bts_swap2 (bts_swap (cur' := #[.int .i64 p.tos, .int .i64 p.id, .bool p.df, .bool p.mf, .int .i64 p.off, .int .i64 p.ttl, .int .i64 p.proto, .int .u32 p.src, .int .u32 addr, .slice oq p.ol cq, .slice (some ⟨g, 0, none⟩) p.bl cap]) (HBQ.out.on (W' := (((((((w.alloc (.cells #[.int .i64 (P : Int), .func (.func 305) #[] #[]] 427)).alloc (.cells #[.int .i64 p.tos, .int .i64 p.id, .bool p.df, .bool p.mf, .int .i64 p.off, .int .i64 p.ttl, .int .i64 p.proto, .int .u32 p.src, .int .u32 addr, .slice oo p.ol oc, .slice ob p.bl bc] 36)).alloc (.cells #[.int .i64 0, .int .i64 0, .bool false, .bool false, .int .i64 0, .int .i64 0, .int .i64 0, .int .u32 0, .int .u32 0, .slice none 0 0, .slice none 0 0] 36)).junk osT dT).alloc (.cells #[.int .i64 t0, .int .u32 t1, .int .i64 t2, .int .u32 t3, .int .i64 t4] 38)))).junk _ _) (by (exact jkc))) (ip_nb _ _ _ _ _ _ _ _ _ _ _ _ _ _ _)) (ip_nb _ _ _ _ _ _ _ _ _ _ _ _ _ _ _)
    · dsimp only
      rw [HXX.out]
      exact bts_swap2 (bts_swap (cur' := #[.int .i64 p.tos, .int .i64 p.id, .bool p.df, .bool p.mf, .int .i64 p.off, .int .i64 p.ttl, .int .i64 p.proto, .int .u32 p.src, .int .u32 addr, .slice oq p.ol cq, .slice (some ⟨g, 0, none⟩) p.bl cap]) (HS5.out.st.b.on (W' := ((((((w.alloc (.cells #[.int .i64 (P : Int), .func (.func 305) #[] #[]] 427)).alloc (.cells #[.int .i64 p.tos, .int .i64 p.id, .bool p.df, .bool p.mf, .int .i64 p.off, .int .i64 p.ttl, .int .i64 p.proto, .int .u32 p.src, .int .u32 p.dst, .slice oo p.ol oc, .slice ob p.bl bc] 36)).alloc (.cells #[.int .i64 0, .int .i64 0, .bool false, .bool false, .int .i64 0, .int .i64 0, .int .i64 0, .int .u32 0, .int .u32 0, .slice none 0 0, .slice none 0 0] 36)).junk osT dT).alloc (.cells #[.int .i64 t0, .int .u32 t1, .int .i64 t2, .int .u32 t3, .int .i64 t4] 38))).junk _ _) (by (exact jkc))) (ip_nb _ _ _ _ _ _ _ _ _ _ _ _ _ _ _)) (ip_nb _ _ _ _ _ _ _ _ _ _ _ _ _ _ _)
end Go.Proofs.YtfhkhnoiolkkdaaGreatDoor
set_option linter.unusedVariables false
set_option maxRecDepth 100000
set_option linter.unusedSimpArgs false
namespace Go.Proofs.YtfhkhnoiolkkdaaGreatDoor
open Go.RowKit
structure IpW (p : Ip) : Prop where
  src : 0 ≤ p.src ∧ p.src ≤ 4294967295
  dst : 0 ≤ p.dst ∧ p.dst ≤ 4294967295
  body : ∀ i, i < p.bl → 0 ≤ p.body i ∧ p.body i ≤ 255
theorem IpAt.w {w : World} {p : Ip} {oo ob : Option Addr} {oc bc : Nat} (h : IpAt w p oo oc ob bc) : IpW p := ⟨h.src, h.dst, h.body.byte⟩
structure UdP (p : Ip) (s d : Int) : Prop where
  mf : p.mf = false
  off : p.off = 0
  pr : p.proto = 17
  err : udpErr p.src p.dst p.body p.bl = 0
  sum : ¬ wd p.body 6 = 0
  w : IpW p
  sp : wd p.body 0 = s
  dp : wd p.body 2 = d
theorem UdP.of {p : Ip} {s d : Int} (h : UdP p s d) : ofErr p.mf p.off p.proto p.src p.dst p.body p.bl = 0 := ofErr_iff.2 ⟨h.mf, h.off, h.pr, h.err⟩
theorem UdP.len {p : Ip} {s d : Int} (h : UdP p s d) : 8 ≤ p.bl := by
  have := h.err
  unfold udpErr at this
  split at this
  · cases this
  · omega
theorem UdP.ports {p : Ip} {s d : Int} (h : UdP p s d) : (0 ≤ s ∧ s ≤ 65535) ∧ 0 ≤ d ∧ d ≤ 65535 := by
  have h8 := h.len
  rw [← h.sp, ← h.dp]
  exact ⟨wd_bd (h.w.body 0 (by omega)) (h.w.body 1 (by omega)), wd_bd (h.w.body 2 (by omega)) (h.w.body 3 (by omega))⟩
theorem UdP.tup {p : Ip} {s d : Int} (h : UdP p s d) : ofTup p.mf p.off p.proto p.src p.dst p.body p.bl = ⟨17, p.src, s, p.dst, d⟩ := by
  have h1 := h.sp
  have h2 := h.dp
  unfold ofTup prS prD
  unfold wd at h1 h2
  rw [h.pr, h1, h2]
theorem wd_w2_same (xs : Nat → Int) (i : Nat) (v : Int) : wd (w2 xs i v) i = v := by
  unfold wd; rw [w2_hi, w2_lo]; omega
def tnB (xs : Nat → Int) (own addr port : Int) (P : Nat) : Nat → Int :=
  rwFin false 6 (bmI false 6 (bmI false 6 (w2 (bmI false 6 xs (wd xs P) port) P port) (own / 65536) (addr / 65536)) (own % 65536) (addr % 65536))
def tnS (p : Ip) (addr port : Int) : Ip := ⟨p.tos, p.id, p.df, p.mf, p.off, p.ttl, p.proto, addr, p.dst, p.ol, p.opts, p.bl, tnB p.body p.src addr port 0⟩
def tnD (p : Ip) (addr port : Int) : Ip := ⟨p.tos, p.id, p.df, p.mf, p.off, p.ttl, p.proto, p.src, addr, p.ol, p.opts, p.bl, tnB p.body p.dst addr port 2⟩
def adW (a : Int) : Int := a / 65536 + a % 65536
structure TnB (xs ys : Nat → Int) (a : Nat) (port D : Int) : Prop where
  same : ∀ i, i ≠ a → i ≠ a + 1 → i ≠ 6 → i ≠ 6 + 1 → ys i = xs i
  prt : wd ys a = port
  sum : 0 < wd ys 6 ∧ (wd ys 6 - (wd xs 6 + wd xs a - port + D)) % 65535 = 0
theorem rwFin_false (k : Nat) (xs : Nat → Int) : rwFin false k xs = w2 xs k (if wd xs k = 0 then 65535 else wd xs k) ∨ (rwFin false k xs = xs ∧ wd xs k ≠ 0) := by
  unfold rwFin
  rw [if_neg (by decide)]
  split
  · exact .inl rfl
  · exact .inr ⟨rfl, ‹_›⟩
theorem rwFin_at {k i : Nat} {xs : Nat → Int} (h1 : i ≠ k) (h2 : i ≠ k + 1) : rwFin false k xs i = xs i := by
  rcases rwFin_false k xs with h | ⟨h, _⟩
  · rw [h, w2_ne h1 h2]
  · rw [h]
theorem rwFin_sum {k : Nat} {xs : Nat → Int} (hb : 0 ≤ wd xs k) : 0 < wd (rwFin false k xs) k ∧ (wd (rwFin false k xs) k - wd xs k) % 65535 = 0 := by
  rcases rwFin_false k xs with h | ⟨h, h0⟩
  · rw [h, wd_w2_same]
    split <;> omega
  · rw [h]; omega
theorem bmI_at {k i : Nat} {xs : Nat → Int} {o n : Int} (h1 : i ≠ k) (h2 : i ≠ k + 1) : bmI false k xs o n i = xs i := by
  unfold bmI; rw [if_neg (by decide), w2_ne h1 h2]
theorem bmI_sum (k : Nat) (xs : Nat → Int) (o n : Int) : wd (bmI false k xs o n) k = mendI (wd xs k) o n := by
  unfold bmI; rw [if_neg (by decide), wd_w2_same]
theorem wd_at {xs ys : Nat → Int} {i : Nat} (h1 : ys i = xs i) (h2 : ys (i + 1) = xs (i + 1)) : wd ys i = wd xs i := by unfold wd; rw [h1, h2]
theorem tnB_plain {xs : Nat → Int} {own addr port : Int} {P l : Nat} (hP : P = 0 ∨ P = 2) (hx : ∀ i, i < l → 0 ≤ xs i ∧ xs i ≤ 255) (hl8 : 8 ≤ l)
    (ho : 0 ≤ own ∧ own ≤ 4294967295) (ha : 0 ≤ addr ∧ addr ≤ 4294967295) (hp : 0 ≤ port ∧ port ≤ 65535) :
    TnB xs (tnB xs own addr port P) P port (adW own - adW addr) := by
  have hkb := wd_bd (hx 6 (by omega)) (hx (6 + 1) (by omega))
  have hPb := wd_bd (hx P (by omega)) (hx (P + 1) (by omega))
  unfold tnB
  obtain ⟨k, hk⟩ : ∃ k, 6 = k := ⟨_, rfl⟩
  simp only [hk] at hkb ⊢
  obtain ⟨X1, hX1⟩ : ∃ X, bmI false k xs (wd xs P) port = X := ⟨_, rfl⟩
  have e1 : wd X1 k = mendI (wd xs k) (wd xs P) port := by rw [← hX1]; exact bmI_sum _ _ _ _
  have m1 := mendI_bd hkb hPb hp
  have n1 := mendI_mod hkb hPb hp
  rw [hX1]
  obtain ⟨X2, hX2⟩ : ∃ X, w2 X1 P port = X := ⟨_, rfl⟩
  have e2 : wd X2 k = wd X1 k := by rw [← hX2]; exact wd_w2_ne (by omega)
  rw [hX2]
  have b2 : 0 ≤ wd X2 k ∧ wd X2 k ≤ 65535 := by rw [e2, e1]; exact m1
  obtain ⟨X3, hX3⟩ : ∃ X, bmI false k X2 (own / 65536) (addr / 65536) = X := ⟨_, rfl⟩
  have e3 : wd X3 k = mendI (wd X2 k) (own / 65536) (addr / 65536) := by rw [← hX3]; exact bmI_sum _ _ _ _
  have m3 := mendI_bd (c := wd X2 k) (o := own / 65536) (n := addr / 65536) b2 (by omega) (by omega)
  have n3 := mendI_mod (c := wd X2 k) (o := own / 65536) (n := addr / 65536) b2 (by omega) (by omega)
  rw [hX3]
  have b3 : 0 ≤ wd X3 k ∧ wd X3 k ≤ 65535 := by rw [e3]; exact m3
  obtain ⟨X4, hX4⟩ : ∃ X, bmI false k X3 (own % 65536) (addr % 65536) = X := ⟨_, rfl⟩
  have e4 : wd X4 k = mendI (wd X3 k) (own % 65536) (addr % 65536) := by rw [← hX4]; exact bmI_sum _ _ _ _
  have m4 := mendI_bd (c := wd X3 k) (o := own % 65536) (n := addr % 65536) b3 (by omega) (by omega)
  have n4 := mendI_mod (c := wd X3 k) (o := own % 65536) (n := addr % 65536) b3 (by omega) (by omega)
  rw [hX4]
  have f4 := rwFin_sum (k := k) (xs := X4) (by rw [e4]; exact m4.1)
  have at4 : ∀ i, i ≠ k → i ≠ k + 1 → rwFin false k X4 i = X2 i := fun i q1 q2 => by
    rw [rwFin_at q1 q2, ← hX4, bmI_at q1 q2, ← hX3, bmI_at q1 q2]
  subst hk
  refine ⟨fun i q1 q2 q3 q4 => ?_, ?_, ?_⟩
  · rw [at4 i q3 q4, ← hX2, w2_ne q1 q2, ← hX1, bmI_at q3 q4]
  · rw [wd_at (at4 P (by omega) (by omega)) (at4 (P + 1) (by omega) (by omega)), ← hX2, wd_w2_same]
  · rw [← e1, ← e2] at n1
    rw [← e3] at n3
    rw [← e4] at n4
    unfold adW
    omega
theorem rawN_two {xs ys : Nat → Int} {a k n : Nat} (hak : a + 1 < k ∨ k + 1 < a) (ea : a % 2 = 0) (ek : k % 2 = 0) (han : a + 2 ≤ n) (hkn : k + 2 ≤ n)
    (h : ∀ i, i ≠ a → i ≠ a + 1 → i ≠ k → i ≠ k + 1 → ys i = xs i) (hy : ∀ i, i < n → 0 ≤ ys i ∧ ys i ≤ 255) :
    rawN ys n = rawN xs n + (wd ys a - wd xs a) + (wd ys k - wd xs k) := by
  have e : rawN ys n = rawN (w2 (w2 xs a (wd ys a)) k (wd ys k)) n := rawN_congr n fun i hi => by
    have hya := hy a (by omega); have hya1 := hy (a + 1) (by omega); have hyk := hy k (by omega); have hyk1 := hy (k + 1) (by omega)
    by_cases h1 : i = k
    · subst h1; rw [w2_hi]; unfold wd; omega
    · by_cases h2 : i = k + 1
      · subst h2; rw [w2_lo]; unfold wd; omega
      · rw [w2_ne h1 h2]
        by_cases h3 : i = a
        · subst h3; rw [w2_hi]; unfold wd; omega
        · by_cases h4 : i = a + 1
          · subst h4; rw [w2_lo]; unfold wd; omega
          · rw [w2_ne h3 h4]; exact h i h3 h4 h1 h2
  rw [e, rawN_w2 _ _ _ _ ek hkn, rawN_w2 _ _ _ _ ea han, wd_w2_ne (by omega)]
  omega
theorem rawN_word {xs : Nat → Int} {k n : Nat} (ek : k % 2 = 0) (hkn : k + 2 ≤ n) (hx : ∀ i, i < n → 0 ≤ xs i ∧ xs i ≤ 255) : wd xs k ≤ rawN xs n := by
  have h1 := rawN_w2 xs k 0 n ek hkn
  have h2 := (rawN_bd (w2 xs k 0) n (fun i hi => by
    by_cases h1 : i = k
    · subst h1; rw [w2_hi]; omega
    · by_cases h2 : i = k + 1
      · subst h2; rw [w2_lo]; omega
      · rw [w2_ne h1 h2]; exact hx i hi)).1
  omega
end Go.Proofs.YtfhkhnoiolkkdaaGreatDoor
