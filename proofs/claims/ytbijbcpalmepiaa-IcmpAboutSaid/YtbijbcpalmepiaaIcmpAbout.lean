/- The law IcmpAbout: any message is about the packet that the document says, or has its first error; of any packet an error is told as it says. -/
import Derived.Test.YtbijbcpalmepiaaIcmpRAbout
import Derived.Test.YtbijbcpalmepiaaIcmpRTell
import Derived.Test.YtbijbcpalmepiaaIcmpBackP
import Derived.Test.YtbijbcpalmepiaaIpRSame
import Derived.Test.YtbijbcpalmepiaaLift2
set_option linter.unusedVariables false
set_option maxRecDepth 100000
set_option linter.unusedSimpArgs false
namespace Go.Proofs.Ytbijbcpalmepiaa
open Go.RowKit
def aboutRes (kind : Int) (xs : Nat → Int) (l : Nat) : Ip := if aboutErr kind xs l = 0 then aboutIp xs l else zeroIp
theorem AboutM.any {w w' : World} {kind : Int} {xs : Nat → Int} {l : Nat} {e : Ending} (h : AboutM w kind xs l e w') {E : Int} {p : Ip} (hE : E = aboutErr kind xs l) (hp : p = aboutRes kind xs l) :
    ∃ (oo ob : Option Addr) (oc bc : Nat), e = .returned (.tuple #[.agg #[.int .i64 p.tos, .int .i64 p.id, .bool p.df, .bool p.mf, .int .i64 p.off, .int .i64 p.ttl, .int .i64 p.proto, .int .u32 p.src, .int .u32 p.dst, .slice oo p.ol oc, .slice ob p.bl bc], .int .i64 E]) ∧ Junk w w' ∧ IpAt w' p oo oc ob bc := by
  subst hE hp
  obtain ⟨p, oo, ob, oc, bc, rfl, hj, ha, ⟨h1, rfl⟩ | ⟨h1, rfl, rfl, rfl, rfl, rfl⟩⟩ := h
  · have hr : aboutRes kind xs l = aboutIp xs l := by unfold aboutRes; rw [if_pos h1]
    rw [hr]
    exact ⟨oo, ob, oc, bc, rfl, hj, ha⟩
  · have hr : aboutRes kind xs l = zeroIp := by unfold aboutRes; rw [if_neg h1]
    rw [hr]
    exact ⟨none, none, 0, 0, rfl, hj, ha⟩
theorem aboutRes_head {w : World} {oa : Option Addr} {l c : Nat} {kind : Int} {xs : Nat → Int} (hB : Bts w oa l c xs) : HeadP (aboutRes kind xs l) := by
  unfold aboutRes
  split
  case isFalse => exact zeroIp_head
  rename_i h
  have hz : wholeErr xs l = 0 := by
    unfold aboutErr at h
    split at h
    · cases h
    · exact h
  obtain ⟨k1, k0, k2, k3, k4, _, _⟩ := wholeErr_zero hz
  have x0 := hB.byte 0 (by omega); have x1 := hB.byte 1 (by omega); have x2 := hB.byte 2 (by omega); have x3 := hB.byte 3 (by omega); have x4 := hB.byte 4 (by omega); have x5 := hB.byte 5 (by omega)
  have x6 := hB.byte 6 (by omega); have x7 := hB.byte 7 (by omega); have x8 := hB.byte 8 (by omega); have x9 := hB.byte 9 (by omega)
  unfold ipSize at k2 k3 k4
  unfold ipTotal at k4
  refine ⟨?_, ?_, ?_, ?_, ?_, ?_, ?_⟩
  all_goals simp only [aboutIp, mkIp, ipFlags, ipSize, ipTotal]
  all_goals omega
/-- What is told. -/
def toldB (kind code : Int) (xs : Nat → Int) (l : Nat) : Bool := decide (tellErr kind code xs l = 0)
set_option maxHeartbeats 2000000 in
theorem icmpAbout_walk (t c r kind code rest : Int) (oa ob : Option Addr) (l ca m cb : Nat) (xs ys : Nat → Int) (w : World) (hB : Bts w oa l ca xs) (hC : Bts w ob m cb ys) :
    Calls Try.prog 6 #[.agg #[.int .i64 t, .int .i64 c, .int .u32 r, .slice oa l ca], .int .i64 kind, .int .i64 code, .int .u32 rest, .slice ob m cb] w fun e w' => e = .returned (.bool true) ∧ Junk w w' := by
  have HB := Lib.hid hB
  have HC := Lib.hid hC
  by_cases hl : l ≤ 3000
  case neg =>
    go_enter Try.func6, Try.ntmps6
    go_wp2_with (first | (go_at_call 22; refine (awake06_any _).mono ?_; rintro e w' ⟨rfl, ⟨osj, dj, rfl⟩⟩))
    go_ret
    exact ⟨ret_bool rfl, by ((try simp only [World.junk_junk, Array.append_assoc]); (repeat (first | with_reducible exact Junk.refl _ | with_reducible exact Junk.app _ _ _ _ _ | with_reducible exact Junk.app2 _ _ _ _ _ _ | with_reducible exact Junk.app3 _ _ _ _ _ _ _ | with_reducible exact Junk.app4 _ _ _ _ _ _ _ _ | with_reducible exact Junk.app5 _ _ _ _ _ _ _ _ _ | with_reducible apply Junk.alloc | with_reducible apply Junk.junk | with_reducible apply Junk.drew | with_reducible apply Junk.drewN)))⟩
  by_cases hm : m ≤ 3000
  case neg =>
    go_enter Try.func6, Try.ntmps6
    go_wp2_with (first | (go_at_call 22; refine (awake06_any _).mono ?_; rintro e w' ⟨rfl, ⟨osj, dj, rfl⟩⟩))
    go_ret
    exact ⟨ret_bool rfl, by ((try simp only [World.junk_junk, Array.append_assoc]); (repeat (first | with_reducible exact Junk.refl _ | with_reducible exact Junk.app _ _ _ _ _ | with_reducible exact Junk.app2 _ _ _ _ _ _ | with_reducible exact Junk.app3 _ _ _ _ _ _ _ | with_reducible exact Junk.app4 _ _ _ _ _ _ _ _ | with_reducible exact Junk.app5 _ _ _ _ _ _ _ _ _ | with_reducible apply Junk.alloc | with_reducible apply Junk.junk | with_reducible apply Junk.drew | with_reducible apply Junk.drewN)))⟩
  have hH := aboutRes_head (kind := t) hB
  clear hB hC
  obtain ⟨P, hP⟩ : ∃ P, P = aboutRes t xs l := ⟨_, rfl⟩
  obtain ⟨E, hE⟩ : ∃ E, E = aboutErr t xs l := ⟨_, rfl⟩
  obtain ⟨F, hF⟩ : ∃ F, F = tellErr kind code ys m := ⟨_, rfl⟩
  obtain ⟨T, hT⟩ : ∃ T, T = if F = 0 then kind else 0 := ⟨_, rfl⟩
  obtain ⟨C, hC⟩ : ∃ C, C = if F = 0 then code else 0 := ⟨_, rfl⟩
  obtain ⟨R, hR⟩ : ∃ R, R = if F = 0 then rest else 0 := ⟨_, rfl⟩
  obtain ⟨N, hN⟩ : ∃ N, N = if F = 0 then tellLen ys else 0 := ⟨_, rfl⟩
  rw [← hP] at hH
  have hN9 : N ≤ 100000000 := by
    rw [hN]
    split
    · rename_i h0
      have hp : parseErr ys m = 0 := by
        rw [hF] at h0
        unfold tellErr at h0
        split at h0
        · cases h0
        · split at h0
          · exact h0
          · rename_i h1; exact Decidable.of_not_not h1
      obtain ⟨l1, l2, _, _⟩ := parse_len hp
      unfold tellLen
      omega
    · omega
  have EP := Lib.hid hP; have EE := Lib.hid hE; have EF := Lib.hid hF; have ET := Lib.hid hT; have EC := Lib.hid hC; have ER := Lib.hid hR; have EN := Lib.hid hN
  have HH := Lib.hid hH
  clear hP hE hF hT hC hR hN hH
  have hms : msame T C R T C R ys ys N N = true := by simp [msame, sameN]
  go_enter Try.func6, Try.ntmps6
  go_wp2_with (first | (go_at_call 22; refine (awake06_any _).mono ?_; rintro e w' ⟨rfl, ⟨osj, dj, rfl⟩⟩) | (go_at_call 23; (try simp only [World.junk_junk]); refine calls_gen (fun osA dA => ?_); refine (about_any t c r oa l ca xs _ (by omega) (HB.out.on (by ((try simp only [World.junk_junk, Array.append_assoc]); (repeat (first | with_reducible exact Junk.refl _ | with_reducible exact Junk.app _ _ _ _ _ | with_reducible exact Junk.app2 _ _ _ _ _ _ | with_reducible exact Junk.app3 _ _ _ _ _ _ _ | with_reducible exact Junk.app4 _ _ _ _ _ _ _ _ | with_reducible exact Junk.app5 _ _ _ _ _ _ _ _ _ | with_reducible apply Junk.alloc | with_reducible apply Junk.junk | with_reducible apply Junk.drew | with_reducible apply Junk.drewN)))))).mono ?_; intro e w' hp; obtain ⟨o1, o2, k1, k2, rfl, ⟨osj2, dj2, rfl⟩, hb⟩ := hp.any EE.out EP.out; clear hp; have Hb1 := Lib.hid hb; clear hb) | (go_at_call 24; refine (rabout_any t c r oa l ca xs _ (by omega) (HB.out.on (by ((try simp only [World.junk_junk, Array.append_assoc]); (repeat (first | with_reducible exact Junk.refl _ | with_reducible exact Junk.app _ _ _ _ _ | with_reducible exact Junk.app2 _ _ _ _ _ _ | with_reducible exact Junk.app3 _ _ _ _ _ _ _ | with_reducible exact Junk.app4 _ _ _ _ _ _ _ _ | with_reducible exact Junk.app5 _ _ _ _ _ _ _ _ _ | with_reducible apply Junk.alloc | with_reducible apply Junk.junk | with_reducible apply Junk.drew | with_reducible apply Junk.drewN)))))).mono ?_; intro e w' hp; obtain ⟨o3, o4, k3, k4, rfl, ⟨osj3, dj3, rfl⟩, hb⟩ := hp.any EE.out EP.out; clear hp; have Hb2 := Lib.hid hb; clear hb) | (go_at_call 18; refine (ipRSame_any P o1 o2 o3 o4 k1 k2 k3 k4 _ HH.out (Hb1.out.on (by ((try simp only [World.junk_junk, Array.append_assoc]); (repeat (first | with_reducible exact Junk.refl _ | with_reducible exact Junk.app _ _ _ _ _ | with_reducible exact Junk.app2 _ _ _ _ _ _ | with_reducible exact Junk.app3 _ _ _ _ _ _ _ | with_reducible exact Junk.app4 _ _ _ _ _ _ _ _ | with_reducible exact Junk.app5 _ _ _ _ _ _ _ _ _ | with_reducible apply Junk.alloc | with_reducible apply Junk.junk | with_reducible apply Junk.drew | with_reducible apply Junk.drewN))))) (Hb2.out.on (by ((try simp only [World.junk_junk, Array.append_assoc]); (repeat (first | with_reducible exact Junk.refl _ | with_reducible exact Junk.app _ _ _ _ _ | with_reducible exact Junk.app2 _ _ _ _ _ _ | with_reducible exact Junk.app3 _ _ _ _ _ _ _ | with_reducible exact Junk.app4 _ _ _ _ _ _ _ _ | with_reducible exact Junk.app5 _ _ _ _ _ _ _ _ _ | with_reducible apply Junk.alloc | with_reducible apply Junk.junk | with_reducible apply Junk.drew | with_reducible apply Junk.drewN)))))).mono ?_; rintro e w' ⟨rfl, ⟨osj4, dj4, rfl⟩⟩) | (go_at_call 25; (try simp only [World.junk_junk]); refine calls_gen (fun osB dB => ?_); refine (tell_any kind code rest ob m cb ys _ (by omega) (HC.out.on (by ((try simp only [World.junk_junk, Array.append_assoc]); (repeat (first | with_reducible exact Junk.refl _ | with_reducible exact Junk.app _ _ _ _ _ | with_reducible exact Junk.app2 _ _ _ _ _ _ | with_reducible exact Junk.app3 _ _ _ _ _ _ _ | with_reducible exact Junk.app4 _ _ _ _ _ _ _ _ | with_reducible exact Junk.app5 _ _ _ _ _ _ _ _ _ | with_reducible apply Junk.alloc | with_reducible apply Junk.junk | with_reducible apply Junk.drew | with_reducible apply Junk.drewN)))))).mono ?_; intro e w' hp; obtain ⟨q1, n1, rfl, ⟨osj5, dj5, rfl⟩, hb⟩ := hp.any EF.out ET.out EC.out ER.out EN.out; clear hp; have Hq1 := Lib.hid hb; clear hb) | (go_at_call 26; refine (rtell_any kind code rest ob m cb ys _ (by omega) (HC.out.on (by ((try simp only [World.junk_junk, Array.append_assoc]); (repeat (first | with_reducible exact Junk.refl _ | with_reducible exact Junk.app _ _ _ _ _ | with_reducible exact Junk.app2 _ _ _ _ _ _ | with_reducible exact Junk.app3 _ _ _ _ _ _ _ | with_reducible exact Junk.app4 _ _ _ _ _ _ _ _ | with_reducible exact Junk.app5 _ _ _ _ _ _ _ _ _ | with_reducible apply Junk.alloc | with_reducible apply Junk.junk | with_reducible apply Junk.drew | with_reducible apply Junk.drewN)))))).mono ?_; intro e w' hp; obtain ⟨q2, n2, rfl, ⟨osj6, dj6, rfl⟩, hb⟩ := hp.any EF.out ET.out EC.out ER.out EN.out; clear hp; have Hq2 := Lib.hid hb; clear hb) | (go_at_call 27; refine (rmsame_any T C R T C R q1 q2 N n1 N n2 ys ys _ hN9 hN9 (Hq1.out.on (by ((try simp only [World.junk_junk, Array.append_assoc]); (repeat (first | with_reducible exact Junk.refl _ | with_reducible exact Junk.app _ _ _ _ _ | with_reducible exact Junk.app2 _ _ _ _ _ _ | with_reducible exact Junk.app3 _ _ _ _ _ _ _ | with_reducible exact Junk.app4 _ _ _ _ _ _ _ _ | with_reducible exact Junk.app5 _ _ _ _ _ _ _ _ _ | with_reducible apply Junk.alloc | with_reducible apply Junk.junk | with_reducible apply Junk.drew | with_reducible apply Junk.drewN))))) (Hq2.out.on (by ((try simp only [World.junk_junk, Array.append_assoc]); (repeat (first | with_reducible exact Junk.refl _ | with_reducible exact Junk.app _ _ _ _ _ | with_reducible exact Junk.app2 _ _ _ _ _ _ | with_reducible exact Junk.app3 _ _ _ _ _ _ _ | with_reducible exact Junk.app4 _ _ _ _ _ _ _ _ | with_reducible exact Junk.app5 _ _ _ _ _ _ _ _ _ | with_reducible apply Junk.alloc | with_reducible apply Junk.junk | with_reducible apply Junk.drew | with_reducible apply Junk.drewN)))))).mono ?_; rintro e w' ⟨rfl, ⟨osj, dj, rfl⟩⟩))
  go_ret
  exact ⟨ret_bool rfl, by ((try simp only [World.junk_junk, Array.append_assoc]); (repeat (first | with_reducible exact Junk.refl _ | with_reducible exact Junk.app _ _ _ _ _ | with_reducible exact Junk.app2 _ _ _ _ _ _ | with_reducible exact Junk.app3 _ _ _ _ _ _ _ | with_reducible exact Junk.app4 _ _ _ _ _ _ _ _ | with_reducible exact Junk.app5 _ _ _ _ _ _ _ _ _ | with_reducible apply Junk.alloc | with_reducible apply Junk.junk | with_reducible apply Junk.drew | with_reducible apply Junk.drewN)))⟩

theorem icmpAbout_core (W : World) (base : Nat) (v0 v1 v2 v3 v4 : Value) (a0 : Arg Try.prog W base 42 v0) (a1 : Arg Try.prog W base 3 v1) (a2 : Arg Try.prog W base 3 v2) (a3 : Arg Try.prog W base 22 v3) (a4 : Arg Try.prog W base 23 v4) :
    Calls Try.prog 6 #[v0, v1, v2, v3, v4] W fun e W' => e = .returned (.bool true) ∧ Junk W W' := by
  obtain ⟨cs_m, rfl, h_m⟩ := a0.struct Try.underlying42
  obtain ⟨hl_m, hf_m⟩ := h_m.fields1 Try.underlying42 (by kernel_rfl) (n := 4) (by kernel_rfl)
  obtain ⟨m_Type, lm0, e_m0⟩ : ∃ x l, cs_m = x :: l := by cases cs_m with | nil => simp at hl_m | cons x l => exact ⟨x, l, rfl⟩
  subst e_m0
  obtain ⟨m_Code, lm1, e_m1⟩ : ∃ x l, lm0 = x :: l := by cases lm0 with | nil => simp at hl_m | cons x l => exact ⟨x, l, rfl⟩
  subst e_m1
  obtain ⟨m_Rest, lm2, e_m2⟩ : ∃ x l, lm1 = x :: l := by cases lm1 with | nil => simp at hl_m | cons x l => exact ⟨x, l, rfl⟩
  subst e_m2
  obtain ⟨m_Body, lm3, e_m3⟩ : ∃ x l, lm2 = x :: l := by cases lm2 with | nil => simp at hl_m | cons x l => exact ⟨x, l, rfl⟩
  subst e_m3
  obtain rfl : lm3 = [] := by simpa using hl_m
  have f_m0 : Cells Try.prog W 3 [m_Type] := hf_m 0 _ rfl
  have f_m1 : Cells Try.prog W 3 [m_Code] := hf_m 1 _ rfl
  have f_m2 : Cells Try.prog W 22 [m_Rest] := hf_m 2 _ rfl
  have f_m3 : Cells Try.prog W 23 [m_Body] := hf_m 3 _ rfl
  clear hf_m hl_m
  obtain ⟨m_Type, e_m_Type, w_m_Type⟩ := f_m0.int Try.underlying3; cases e_m_Type
  obtain ⟨m_Code, e_m_Code, w_m_Code⟩ := f_m1.int Try.underlying3; cases e_m_Code
  obtain ⟨m_Rest, e_m_Rest, w_m_Rest⟩ := f_m2.int Try.underlying22; cases e_m_Rest
  obtain ⟨m_Body_a, m_Body_l, m_Body_c, m_Body, e_m_Body, lc_m_Body, cm_m_Body, S_m_Body, w_m_Body⟩ := f_m3.ints Try.underlying23 Try.underlying5 (by kernel_rfl); cases e_m_Body
  obtain ⟨kind, rfl, w_kind⟩ := a1.int Try.underlying3
  obtain ⟨code, rfl, w_code⟩ := a2.int Try.underlying3
  obtain ⟨rest, rfl, w_rest⟩ := a3.int Try.underlying22
  have f_b := a4.slice Try.underlying23
  obtain ⟨b_a, b_l, b_c, b, e_b, lc_b, cm_b, S_b, w_b⟩ := f_b.ints Try.underlying23 Try.underlying5 (by kernel_rfl); cases e_b
  have hlm : maxLen = 9223372036854775807 := rfl
  exact icmpAbout_walk m_Type m_Code m_Rest kind code rest m_Body_a b_a m_Body_l m_Body_c b_l b_c m_Body b W ⟨S_m_Body, fun i hi => bounds_u8 (w_m_Body i hi), Cells.nil_slice Try.underlying23 f_m3, lc_m_Body, cm_m_Body⟩ ⟨S_b, fun i hi => bounds_u8 (w_b i hi), Cells.nil_slice Try.underlying23 f_b, lc_b, cm_b⟩
set_option maxRecDepth 100000 in
theorem icmpAbout_lifted (os : Os) (started : os.Started) (H : Type) (enc : TypeId × Value → H) :
    ReturnsInHanded {} Try.checked os 6 .any (Rows.icmpAboutSpec.pre6 enc Try.prog Try.f6 Rows.icmpAboutRow.domain false) (Rows.icmpAboutSpec.post enc Try.prog Try.f6 false true false false) := by
  refine returnsInHanded_of_change (C := Try.checked) (by kernel_rfl) started (by kernel_rfl) Try.func6
    (ChangeSpec.witness6 (enc := enc) (C := Try.checked) false ⟨#[], #[.agg #[.int .i64 0, .int .i64 0, .int .u32 0, .slice none 0 0], .int .i64 0, .int .i64 0, .int .u32 0, .slice none 0 0], []⟩ 8 (by kernel_rfl) (by kernel_rfl) (by kernel_rfl) (by kernel_rfl)) ?_
  intro W base args ds gs before hval hW _ _
  obtain ⟨p, q, hA, _, _, _, _⟩ := id hW
  have hargs : Args Try.prog W base Try.f6.params.toList args.toList := args_of (fun j t v h1 h2 => hval j t v (by simpa using h1) (by simpa using h2)) hA
  rw [Try.params6] at hargs
  obtain ⟨v0, l0, e0, a0, r0⟩ := args_cons hargs
  obtain ⟨v1, l1, e1, a1, r1⟩ := args_cons r0
  obtain ⟨v2, l2, e2, a2, r2⟩ := args_cons r1
  obtain ⟨v3, l3, e3, a3, r3⟩ := args_cons r2
  obtain ⟨v4, l4, e4, a4, r4⟩ := args_cons r3
  have hn := args_nil r4
  have he : args = #[v0, v1, v2, v3, v4] := by
    apply Array.ext'
    simp only [e0, e1, e2, e3, e4, hn]
  subst he
  exact (icmpAbout_core W base v0 v1 v2 v3 v4 a0 a1 a2 a3 a4).mono fun e W' ⟨he, hj⟩ => ⟨_, he, post_true (tb := 4) (by kernel_rfl) (by kernel_rfl) rfl (by kernel_rfl) rfl hW (fun hg hl => by
    subst hg
    match ds, hl with
    | [_, _, _, _, _], _ => exact ⟨rfl, rfl, rfl⟩) hj⟩
theorem icmpAbout_holds : Rows.IcmpAboutSaid :=
  OpenClaim.holds_of_wide 6 Try.f6 rfl rfl rfl rfl rfl rfl rfl ⟨rfl, rfl, rfl, rfl, rfl⟩ rfl rfl rfl rfl rfl (by kernel_rfl) Try.func6 (by kernel_rfl)
    (of_decide_eq_true (by kernel_rfl)) (by unfold Func.isWrapper; rw [if_neg (of_decide_eq_false (by kernel_rfl))]; exact ⟨rfl, rfl⟩)
    (fun os started H enc _ => icmpAbout_lifted os started H enc)

end Go.Proofs.Ytbijbcpalmepiaa
