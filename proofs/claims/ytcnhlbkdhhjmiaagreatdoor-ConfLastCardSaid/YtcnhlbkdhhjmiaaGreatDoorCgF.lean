/- Parse and Show as the laws call them; the law's own fixed answer. -/
import Derived.Test.YtcnhlbkdhhjmiaaGreatDoorCgE
import Derived.Test.YtcnhlbkdhhjmiaaGreatDoorCfZ
import Derived.Test.YtcnhlbkdhhjmiaaGreatDoorCfW2
set_option linter.unusedVariables false
set_option maxRecDepth 100000
set_option linter.unusedSimpArgs false
namespace Go.Proofs.YtcnhlbkdhhjmiaaGreatDoor
open Go.RowKit
variable {L L' : Nat → Prop} {w w' w'' : World}
theorem CfIn.on {f : Cf} {o0 o1 o6 : Option Addr} {c0 c1 c6 : Nat} (h : CfIn w f o0 c0 o1 c1 o6 c6) (hj : Junk w w') : CfIn w' f o0 c0 o1 c1 o6 c6 := ⟨h.s0.on hj, h.s1.on hj, h.s6.on hj, h.l0, h.l1, h.l6⟩
theorem show_len (c : Cf) (hr : rightC c) (ht : tyC c) : (showT c).length ≤ 60000 := by
  obtain ⟨h1, h2, h3, h4, h5, h6, h7, h8⟩ := hr
  have l1 := lines_len routeL c.routes (fun y hy => by
    obtain ⟨j, hj⟩ := List.mem_iff_getElem?.1 hy
    exact route_len y (h1.2 j y hj).1 (ht.1 y hy))
  have l2 := lines_len ruleL c.rules (fun y hy => rule_len y (h2.2 y hy) (ht.2.1 y hy))
  have l3 := lines_len fwdL c.fwds (fun y hy => by
    obtain ⟨j, hj⟩ := List.mem_iff_getElem?.1 hy
    exact fwd_len c.lo c.hi y (h5.2 j y hj).1 (ht.2.2.2 y hy))
  have i1 := itoa_len c.outside 18 (by omega)
  have i2 := itoa_len c.lo 18 (by omega)
  have i3 := itoa_len c.hi 18 (by omega)
  have i4 := itoa_len c.tcp 18 (by omega)
  have i5 := itoa_len c.other 18 (by omega)
  have i6 := itoa_len c.budget 18 (by omega)
  have i7 := dotW_len c.pub ht.2.2.1
  have j1 : (lineT (outL c)).length ≤ 200 := by
    have := jn_len (outL c)
    simp only [outL, lensW, List.map_cons, List.map_nil, List.sum_cons, List.sum_nil, show wOutside.length = 7 from rfl] at this
    unfold lineT
    rw [List.length_append, List.length_singleton]
    unfold outL
    omega
  have j2 : (lineT (pubL c)).length ≤ 200 := by
    have := jn_len (pubL c)
    simp only [pubL, lensW, List.map_cons, List.map_nil, List.sum_cons, List.sum_nil, show wPublic.length = 6 from rfl] at this
    unfold lineT
    rw [List.length_append, List.length_singleton]
    unfold pubL
    omega
  have j3 : (lineT (lifeL c)).length ≤ 200 := by
    have := jn_len (lifeL c)
    simp only [lifeL, lensW, List.map_cons, List.map_nil, List.sum_cons, List.sum_nil, show wLife.length = 4 from rfl] at this
    unfold lineT
    rw [List.length_append, List.length_singleton]
    unfold lifeL
    omega
  have j4 : (lineT (budL c.budget)).length ≤ 200 := by
    have := jn_len (budL c.budget)
    simp only [budL, lensW, List.map_cons, List.map_nil, List.sum_cons, List.sum_nil, show wBudget.length = 6 from rfl] at this
    unfold lineT
    rw [List.length_append, List.length_singleton]
    unfold budL
    omega
  have k1 := h1.1
  have k2 := h2.1
  have k5 := h5.1
  unfold showT showL
  simp only [List.flatMap_append, List.length_append, List.flatMap_cons, List.flatMap_nil, List.length_nil]
  omega
set_option maxHeartbeats 1000000 in
theorem show_bad (X : List Ro) (Y : List Ru) (Z : List Fo) (o0 : Option Addr) (n0 c0 : Nat) (o1 : Option Addr) (n1 c1 : Nat) (ou : Int) (pu : Nat) (lo hi : Int) (o6 : Option Addr) (n6 c6 : Nat) (tc ot bu : Int) (w : World)
    (hX : X.length = n0) (hY : Y.length = n1) (hZ : Z.length = n6) (h : CfIn w ⟨X, Y, ou, pu, lo, hi, Z, tc, ot, bu⟩ o0 c0 o1 c1 o6 c6) (hr : ¬ rightC ⟨X, Y, ou, pu, lo, hi, Z, tc, ot, bu⟩) :
    Calls Tryz.prog 7 #[.agg #[.slice o0 n0 c0, .slice o1 n1 c1, .int .i64 ou, .int .u32 pu, .int .i64 lo, .int .i64 hi, .slice o6 n6 c6, .int .i64 tc, .int .i64 ot, .int .i64 bu]] w fun e w' => e = .returned (.tuple #[.string ⟨#[]⟩, .int .i64 1]) ∧ Junk w w' := by
  have hcr := fun w1 (hj : Junk w w1) => cright_any X Y Z o0 n0 c0 o1 n1 c1 ou pu lo hi o6 n6 c6 tc ot bu w1 hX hY hZ (h.on hj)
  rw [propB_false hr] at hcr
  have HCR := Lib.hid hcr
  clear hcr h hr hX hY hZ
  go_enter Tryz.func7, Tryz.ntmps7
  go_wp2_with (go_at_call 10; (refine (HCR.out _ ((Junk.refl w).alloc _)).mono ?_); rintro e w1 ⟨rfl, ⟨os1, d1, rfl⟩⟩)
  go_ret2
  exact ⟨rfl, by (exact jkc)⟩
/-- A text that is read, and may be. -/
theorem parse_good (X : List Ro) (Y : List Ru) (Z : List Fo) (n0 n1 n6 : Nat) (ou : Int) (pu : Nat) (lo hi : Int) (tc ot bu : Int) (w : World) (hX : X.length = n0) (hY : Y.length = n1) (hZ : Z.length = n6)
    (hE : Env w) (s : ByteArray) (hs : s.size ≤ 1000000) (h : readsT s = some ⟨X, Y, ou, pu, lo, hi, Z, tc, ot, bu⟩) (hr : rightC ⟨X, Y, ou, pu, lo, hi, Z, tc, ot, bu⟩) :
    Calls Tryz.prog 8 #[.string s] w fun e w' => ∃ o0 c0 o1 c1 o6 c6, e = .returned (.tuple #[.agg #[.slice o0 n0 c0, .slice o1 n1 c1, .int .i64 ou, .int .u32 pu, .int .i64 lo, .int .i64 hi, .slice o6 n6 c6, .int .i64 tc, .int .i64 ot, .int .i64 bu], .int .i64 0, .int .i64 0]) ∧ CfIn w' ⟨X, Y, ou, pu, lo, hi, Z, tc, ot, bu⟩ o0 c0 o1 c1 o6 c6 ∧ Junk w w' := by
  refine (parse_walk hE s hs).mono ?_
  rintro e w' ⟨hj, h1 | h1⟩
  · unfold POk at h1
    obtain ⟨f, hf, _, o0, c0, o1, c1, o6, c6, he, hc⟩ := h1
    rw [h] at hf
    cases hf
    subst hX hY hZ
    exact ⟨o0, c0, o1, c1, o6, c6, he, hc, hj⟩
  · unfold PBad at h1
    exact absurd hr (h1.1 _ h)
theorem parse_bad (w : World) (hE : Env w) (s : ByteArray) (hs : s.size ≤ 1000000) (h : ∀ f, readsT s = some f → ¬ rightC f) :
    Calls Tryz.prog 8 #[.string s] w fun e w' => ∃ k t : Int, k ≠ 0 ∧ e = .returned (.tuple #[.agg #[.slice none 0 0, .slice none 0 0, .int .i64 0, .int .u32 0, .int .i64 0, .int .i64 0, .slice none 0 0, .int .i64 0, .int .i64 0, .int .i64 0], .int .i64 k, .int .i64 t]) ∧ Junk w w' := by
  refine (parse_walk hE s hs).mono ?_
  rintro e w' ⟨hj, h1 | h1⟩
  · unfold POk at h1
    obtain ⟨f, hf, hr, _⟩ := h1
    exact absurd hr (h f hf)
  · unfold PBad at h1
    obtain ⟨_, k, t, hk, he⟩ := h1
    exact ⟨k, t, hk, he, hj⟩
set_option maxHeartbeats 2000000 in
theorem awake15_any (w : World) (hE : Env w) : Calls Tryz.prog 5 #[] w fun e w' => e = .returned (.bool true) ∧ Junk w w' := by
  have hty : tyC cfA := reads_ty reads0
  have HP := Lib.hid (parse_good [rt0] [] [fw0] 1 0 1 0 0 1024 65535 7 8 10 w rfl rfl rfl hE (mkS txt0) (by rw [mkS_size]; decide) reads0 cfA_right)
  have HE := Lib.hid (fun w1 (hj : Junk w w1) => hE.junk hj)
  have HS := Lib.hid (fun o0 c0 o1 c1 o6 c6 w1 (hj : Junk w w1) (hc : CfIn w1 cfA o0 c0 o1 c1 o6 c6) => show_good [rt0] [] [fw0] o0 1 c0 o1 0 c1 0 0 1024 65535 o6 1 c6 7 8 10 w1 rfl rfl rfl hc (hE.junk hj) cfA_right hty)
  have hsz : 80 < (mkS (showT cfA)).size := by rw [mkS_size]; exact show0
  clear hE hty
  go_enter Tryz.func5, Tryz.ntmps5
  go_upto_region 2 with (go_at_call 8; refine HP.out.mono ?_; rintro e w1 ⟨o0, c0, o1, c1, o6, c6, rfl, hc, hj⟩)
  obtain ⟨b, off, rfl, hbl, f0, f1, f2, f3, f4⟩ := hc.s6 0 fw0 rfl
  have HC := Lib.hid hc
  have HJ := Lib.hid hj
  have hl6 := hc.l6
  have hs2 : (80 : Int) < ((mkS (showT cfA)).size : Int) := by omega
  have HS2 := Lib.hid (HS.out o0 c0 o1 c1 _ c6 _ (hj.alloc _) (hc.on ((Junk.refl w1).alloc (.cells #[.slice o0 1 c0, .slice o1 0 c1, .int .i64 0, .int .u32 0, .int .i64 1024, .int .i64 65535, .slice (some ⟨b, off, none⟩) 1 c6, .int .i64 7, .int .i64 8, .int .i64 10] 27))))
  clear hc hj HS HP
  change Hid (Calls _ _ _ _ (fun e w' => e = .returned (.tuple #[.string (mkS (showT cfA)), .int .i64 0]) ∧ Junk _ w')) at HS2
  generalize mkS (showT cfA) = S at *
  go_wp2_with (go_at_call 7; (refine HS2.out.mono ?_); rintro e w2 ⟨rfl, ⟨os2, d2, rfl⟩⟩)
  go_ret
  exact ⟨ret_bool rfl, HJ.out.trans (by (exact jkc))⟩
end Go.Proofs.YtcnhlbkdhhjmiaaGreatDoor
