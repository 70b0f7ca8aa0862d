/- The law TcpReads: any bytes are the document's segment, or have its first error. -/
import Derived.Test.YtjmofjcloebgmaaTcpK
import Derived.Test.YtjmofjcloebgmaaTcpG
set_option linter.unusedVariables false
set_option maxRecDepth 100000
set_option linter.unusedSimpArgs false
namespace Go.Proofs.Ytjmofjcloebgmaa
open Go.RowKit
set_option maxHeartbeats 2000000 in
theorem tcpReads_walk (src dst : Int) (oa : Option Addr) (l c n : Nat) (xs : Nat → Int) (w : World) (h1 : 0 ≤ src ∧ src ≤ 4294967295) (h2 : 0 ≤ dst ∧ dst ≤ 4294967295) (hB : Bts w oa l c xs) (hmin : (min (l : Int) 3000).toNat = n) (hn : n ≤ l) (hn3 : n ≤ 3000) :
    Calls Try.prog 3 #[.int .u32 src, .int .u32 dst, .slice oa l c] w fun e w' => e = .returned (.bool true) ∧ Junk w w' := by
  have hB2 : Bts w oa n c xs := ⟨fun i hi => hB.at_ i (by omega), fun i hi => hB.byte i (by omega), fun h => by have := hB.nil h; omega, by have := hB.le; omega, hB.cap⟩
  have HB := Lib.hid hB2
  have hlc := hB.le
  have hcm : c ≤ 9223372036854775807 := hB.cap
  clear hB hB2
  by_cases h0 : tcpErr src dst xs n = 0
  · have HL := Lib.hid (tcpTc_len h0 (HB.out.byte 12 (by have := (tcpErr_len h0).1; omega)))
    have HS := Lib.hid (fun (F G : List Ot) (oo ob oo2 ob2 : Option Addr) (co cb co2 cb2 : Nat) (w1 : World) (hF : F.map Ot.d = (tcpTc xs n).os) (hG : G.map Ot.d = (tcpTc xs n).os) (hP : TcAt w1 F oo co (tcpTc xs n).bl (tcpTc xs n).body ob cb) (hQ : TcAt w1 G oo2 co2 (tcpTc xs n).bl (tcpTc xs n).body ob2 cb2) => show Calls Try.prog 16 #[.agg #[.int .i64 (tcpTc xs n).sport, .int .i64 (tcpTc xs n).dport, .int .u32 (tcpTc xs n).seq, .int .u32 (tcpTc xs n).ack, .int .i64 (tcpTc xs n).flags, .int .i64 (tcpTc xs n).win, .int .i64 (tcpTc xs n).urg, .slice oo F.length co, .slice ob (tcpTc xs n).bl cb], .agg #[.int .i64 (tcpTc xs n).sport, .int .i64 (tcpTc xs n).dport, .int .u32 (tcpTc xs n).seq, .int .u32 (tcpTc xs n).ack, .int .i64 (tcpTc xs n).flags, .int .i64 (tcpTc xs n).win, .int .i64 (tcpTc xs n).urg, .slice oo2 G.length co2, .slice ob2 (tcpTc xs n).bl cb2]] w1 fun e w' => e = .returned (.bool true) ∧ Junk w1 w' by
      have := rtsame_any (tcpTc xs n) (tcpTc xs n) F G F.length G.length oo ob oo2 ob2 co cb co2 cb2 w1 hF hG rfl rfl (by have := congrArg List.length hF; have := HL.out; simp at *; omega) (by have := congrArg List.length hG; have := HL.out; simp at *; omega) hP hQ
      rw [tcSame_refl] at this
      exact this)
    go_enter Try.func3, Try.ntmps3
    go_wp2_with (first
      | (go_at_call 13; refine (awake04_any _).mono ?_; rintro e w' ⟨rfl, ⟨osj, dj, rfl⟩⟩)
      | (go_at_call 14; refine (tparse_any src dst oa n c xs _ h1 h2 (by omega) (HB.out.on (by ((try simp only [World.junk_junk, Array.append_assoc]); (repeat (first | with_reducible exact Junk.refl _ | with_reducible exact Junk.app _ _ _ _ _ | with_reducible exact Junk.app2 _ _ _ _ _ _ | with_reducible exact Junk.app3 _ _ _ _ _ _ _ | with_reducible exact Junk.app4 _ _ _ _ _ _ _ _ | with_reducible exact Junk.app5 _ _ _ _ _ _ _ _ _ | with_reducible apply Junk.alloc | with_reducible apply Junk.junk | with_reducible apply Junk.drew | with_reducible apply Junk.drewN)))))).mono ?_; intro e w' hp; obtain ⟨F, oo, co, ob2, cb2, rfl, ⟨osj2, dj2, rfl⟩, hF, hT⟩ := hp.ok h0; clear hp; have HF := Lib.hid hF; have HT := Lib.hid hT; clear hF hT)
      | (go_at_call 15; refine (rtparse_any src dst oa n c xs _ h1 h2 (by omega) (HB.out.on (by ((try simp only [World.junk_junk, Array.append_assoc]); (repeat (first | with_reducible exact Junk.refl _ | with_reducible exact Junk.app _ _ _ _ _ | with_reducible exact Junk.app2 _ _ _ _ _ _ | with_reducible exact Junk.app3 _ _ _ _ _ _ _ | with_reducible exact Junk.app4 _ _ _ _ _ _ _ _ | with_reducible exact Junk.app5 _ _ _ _ _ _ _ _ _ | with_reducible apply Junk.alloc | with_reducible apply Junk.junk | with_reducible apply Junk.drew | with_reducible apply Junk.drewN)))))).mono ?_; intro e w' hp; obtain ⟨G, oo3, co3, ob3, cb3, rfl, ⟨osj3, dj3, rfl⟩, hG, hU⟩ := hp.ok h0; clear hp; have HG := Lib.hid hG; have HU := Lib.hid hU; clear hG hU)
      | (go_at_call 16; refine (HS.out F G oo ob2 oo3 ob3 co cb2 co3 cb3 _ HF.out HG.out (HT.out.on (by ((try simp only [World.junk_junk, Array.append_assoc]); (repeat (first | with_reducible exact Junk.refl _ | with_reducible exact Junk.app _ _ _ _ _ | with_reducible exact Junk.app2 _ _ _ _ _ _ | with_reducible exact Junk.app3 _ _ _ _ _ _ _ | with_reducible exact Junk.app4 _ _ _ _ _ _ _ _ | with_reducible exact Junk.app5 _ _ _ _ _ _ _ _ _ | with_reducible apply Junk.alloc | with_reducible apply Junk.junk | with_reducible apply Junk.drew | with_reducible apply Junk.drewN))))) (HU.out.on (by ((try simp only [World.junk_junk, Array.append_assoc]); (repeat (first | with_reducible exact Junk.refl _ | with_reducible exact Junk.app _ _ _ _ _ | with_reducible exact Junk.app2 _ _ _ _ _ _ | with_reducible exact Junk.app3 _ _ _ _ _ _ _ | with_reducible exact Junk.app4 _ _ _ _ _ _ _ _ | with_reducible exact Junk.app5 _ _ _ _ _ _ _ _ _ | with_reducible apply Junk.alloc | with_reducible apply Junk.junk | with_reducible apply Junk.drew | with_reducible apply Junk.drewN)))))).mono ?_; rintro e w' ⟨rfl, ⟨osj, dj, rfl⟩⟩))
    go_ret
    exact ⟨ret_bool rfl, by ((try simp only [World.junk_junk, Array.append_assoc]); (repeat (first | with_reducible exact Junk.refl _ | with_reducible exact Junk.app _ _ _ _ _ | with_reducible exact Junk.app2 _ _ _ _ _ _ | with_reducible exact Junk.app3 _ _ _ _ _ _ _ | with_reducible exact Junk.app4 _ _ _ _ _ _ _ _ | with_reducible exact Junk.app5 _ _ _ _ _ _ _ _ _ | with_reducible apply Junk.alloc | with_reducible apply Junk.junk | with_reducible apply Junk.drew | with_reducible apply Junk.drewN)))⟩
  · have HS := Lib.hid (fun (w1 : World) => show Calls Try.prog 16 #[.agg #[.int .i64 zeroTc.sport, .int .i64 zeroTc.dport, .int .u32 zeroTc.seq, .int .u32 zeroTc.ack, .int .i64 zeroTc.flags, .int .i64 zeroTc.win, .int .i64 zeroTc.urg, .slice none 0 0, .slice none zeroTc.bl 0], .agg #[.int .i64 zeroTc.sport, .int .i64 zeroTc.dport, .int .u32 zeroTc.seq, .int .u32 zeroTc.ack, .int .i64 zeroTc.flags, .int .i64 zeroTc.win, .int .i64 zeroTc.urg, .slice none 0 0, .slice none zeroTc.bl 0]] w1 fun e w' => e = .returned (.bool true) ∧ Junk w1 w' by
      have := rtsame_any zeroTc zeroTc [] [] 0 0 none none none none 0 0 0 0 w1 rfl rfl rfl rfl (by omega) (by omega) (zeroTc_at _) (zeroTc_at _)
      rw [tcSame_refl] at this
      exact this)
    go_enter Try.func3, Try.ntmps3
    go_wp2_with (first
      | (go_at_call 13; refine (awake04_any _).mono ?_; rintro e w' ⟨rfl, ⟨osj, dj, rfl⟩⟩)
      | (go_at_call 14; refine (tparse_any src dst oa n c xs _ h1 h2 (by omega) (HB.out.on (by ((try simp only [World.junk_junk, Array.append_assoc]); (repeat (first | with_reducible exact Junk.refl _ | with_reducible exact Junk.app _ _ _ _ _ | with_reducible exact Junk.app2 _ _ _ _ _ _ | with_reducible exact Junk.app3 _ _ _ _ _ _ _ | with_reducible exact Junk.app4 _ _ _ _ _ _ _ _ | with_reducible exact Junk.app5 _ _ _ _ _ _ _ _ _ | with_reducible apply Junk.alloc | with_reducible apply Junk.junk | with_reducible apply Junk.drew | with_reducible apply Junk.drewN)))))).mono ?_; intro e w' hp; obtain ⟨rfl, ⟨osj2, dj2, rfl⟩⟩ := hp.bad h0; clear hp)
      | (go_at_call 15; refine (rtparse_any src dst oa n c xs _ h1 h2 (by omega) (HB.out.on (by ((try simp only [World.junk_junk, Array.append_assoc]); (repeat (first | with_reducible exact Junk.refl _ | with_reducible exact Junk.app _ _ _ _ _ | with_reducible exact Junk.app2 _ _ _ _ _ _ | with_reducible exact Junk.app3 _ _ _ _ _ _ _ | with_reducible exact Junk.app4 _ _ _ _ _ _ _ _ | with_reducible exact Junk.app5 _ _ _ _ _ _ _ _ _ | with_reducible apply Junk.alloc | with_reducible apply Junk.junk | with_reducible apply Junk.drew | with_reducible apply Junk.drewN)))))).mono ?_; intro e w' hp; obtain ⟨rfl, ⟨osj3, dj3, rfl⟩⟩ := hp.bad h0; clear hp)
      | (go_at_call 16; refine (HS.out _).mono ?_; rintro e w' ⟨rfl, ⟨osj, dj, rfl⟩⟩))
    go_ret
    exact ⟨ret_bool rfl, by ((try simp only [World.junk_junk, Array.append_assoc]); (repeat (first | with_reducible exact Junk.refl _ | with_reducible exact Junk.app _ _ _ _ _ | with_reducible exact Junk.app2 _ _ _ _ _ _ | with_reducible exact Junk.app3 _ _ _ _ _ _ _ | with_reducible exact Junk.app4 _ _ _ _ _ _ _ _ | with_reducible exact Junk.app5 _ _ _ _ _ _ _ _ _ | with_reducible apply Junk.alloc | with_reducible apply Junk.junk | with_reducible apply Junk.drew | with_reducible apply Junk.drewN)))⟩
theorem tcpReads_core (W : World) (base : Nat) (v0 v1 v2 : Value) (a0 : Arg Try.prog W base 22 v0) (a1 : Arg Try.prog W base 22 v1) (a2 : Arg Try.prog W base 23 v2) :
    Calls Try.prog 3 #[v0, v1, v2] W fun e W' => e = .returned (.bool true) ∧ Junk W W' := by
  obtain ⟨src, rfl, w_src⟩ := a0.int Try.underlying22
  obtain ⟨dst, rfl, w_dst⟩ := a1.int Try.underlying22
  have f_b := a2.slice Try.underlying23
  obtain ⟨b_a, b_l, b_c, b, e_b, lc_b, cm_b, S_b, w_b⟩ := f_b.ints Try.underlying23 Try.underlying5 (by kernel_rfl); cases e_b
  have hlm : maxLen = 9223372036854775807 := rfl
  exact tcpReads_walk src dst b_a b_l b_c (min b_l 3000) b W (bounds_u32 w_src) (bounds_u32 w_dst) ⟨S_b, fun i hi => bounds_u8 (w_b i hi), Cells.nil_slice Try.underlying23 f_b, lc_b, cm_b⟩ (by omega) (by omega) (by omega)
set_option maxRecDepth 100000 in
theorem tcpReads_lifted (os : Os) (started : os.Started) (H : Type) (enc : TypeId × Value → H) :
    ReturnsInHanded {} Try.checked os 3 .any (Rows.tcpReadsSpec.pre6 enc Try.prog Try.f3 Rows.tcpReadsRow.domain false) (Rows.tcpReadsSpec.post enc Try.prog Try.f3 false true false false) := by
  refine returnsInHanded_of_change (C := Try.checked) (by kernel_rfl) started (by kernel_rfl) Try.func3
    (ChangeSpec.witness6 (enc := enc) (C := Try.checked) false ⟨#[], #[.int .u32 0, .int .u32 0, .slice none 0 0], []⟩ 8 (by kernel_rfl) (by kernel_rfl) (by kernel_rfl) (by kernel_rfl)) ?_
  intro W base args ds gs before hval hW _ _
  obtain ⟨p, q, hA, _, _, _, _⟩ := id hW
  have hargs : Args Try.prog W base Try.f3.params.toList args.toList := args_of (fun j t v h1 h2 => hval j t v (by simpa using h1) (by simpa using h2)) hA
  rw [Try.params3] at hargs
  obtain ⟨v0, l0, e0, a0, r0⟩ := args_cons hargs
  obtain ⟨v1, l1, e1, a1, r1⟩ := args_cons r0
  obtain ⟨v2, l2, e2, a2, r2⟩ := args_cons r1
  have hn := args_nil r2
  have he : args = #[v0, v1, v2] := by
    apply Array.ext'
    simp only [e0, e1, e2, hn]
  subst he
  exact (tcpReads_core W base v0 v1 v2 a0 a1 a2).mono fun e W' ⟨he, hj⟩ => ⟨_, he, post_true (tb := 4) (by kernel_rfl) (by kernel_rfl) rfl (by kernel_rfl) rfl hW (fun hg hl => by
    subst hg
    match ds, hl with
    | [_, _, _], _ => exact ⟨rfl, rfl, rfl⟩) hj⟩
theorem tcpReads_holds : Rows.TcpReadsSaid :=
  OpenClaim.holds_of_wide 3 Try.f3 rfl rfl rfl rfl rfl rfl rfl ⟨rfl, rfl, rfl, rfl, rfl⟩ rfl rfl rfl rfl rfl (by kernel_rfl) Try.func3 (by kernel_rfl)
    (of_decide_eq_true (by kernel_rfl)) (by unfold Func.isWrapper; rw [if_neg (of_decide_eq_false (by kernel_rfl))]; exact ⟨rfl, rfl⟩)
    (fun os started H enc _ => tcpReads_lifted os started H enc)

end Go.Proofs.Ytjmofjcloebgmaa
