/- inner's turn of the side at 12. -/
import Derived.Test.YtnefphinmjeacaaInDI12
import Derived.Test.YtnefphinmjeacaaInDN12
import Derived.Deep.DeepCutAuto
set_option linter.unusedVariables false
set_option maxRecDepth 100000
set_option linter.unusedSimpArgs false
namespace Go.Proofs.Ytnefphinmjeacaa
open Go.RowKit
set_option maxHeartbeats 8000000 in
theorem turn12_any (kind code rest addr port : Int) (oa : Option Addr) (l c : Nat) (xs : Nat → Int) (w : World) (hl : l ≤ 100000000) (hB : Bts w oa l c xs) (haddr : 0 ≤ addr ∧ addr ≤ 4294967295) :
    Calls Try.prog 35 #[.agg #[.int .i64 12, .int .i64 0], .agg #[.int .i64 kind, .int .i64 code, .int .u32 rest, .slice oa l c], .int .u32 addr, .int .i64 port] w (TnM w kind code rest (tnErr kind xs l port) l (tnB xs l 12 0 addr port)) := by
  have HB := Lib.hid hB
  by_cases h0 : nmErr kind xs l = 0
  case neg =>
    obtain ⟨E, hE⟩ : ∃ E, nmErr kind xs l = E := ⟨_, rfl⟩
    have HE := Lib.hid (show tnErr kind xs l port = E by unfold tnErr; rw [if_pos h0]; exact hE)
    have HNM := Lib.hid (fun w1 (hb : Bts w1 oa l c xs) => show Calls Try.prog 11 #[.agg #[.int .i64 kind, .int .i64 code, .int .u32 rest, .slice oa l c]] w1 fun e w' => e = .returned (.tuple #[.agg #[.int .i64 0, .int .u32 0, .int .i64 0, .int .u32 0, .int .i64 0], .int .i64 E]) ∧ Junk w1 w' by rw [← hE]; exact (names_any kind code rest oa l c xs w1 hl hb).mono fun e w' hp => hp.bad h0)
    rw [hE] at h0
    have hne : (E != 0) = true := by simpa using h0
    have H0 := Lib.hid h0
    clear hE h0 hB
    go_enter Try.func35, Try.ntmps35
    go_wp2_with (first | (go_at_call 11; (with_reducible refine (HNM.out _ (HB.out.on (by (first | ((repeat (first | with_reducible exact Junk.refl _ | with_reducible exact Junk.app _ _ _ _ _ | with_reducible apply Junk.alloc | with_reducible apply Junk.junk | with_reducible apply Junk.drew | with_reducible apply Junk.drewN)); done) | ((try simp only [World.junk_junk, Array.append_assoc]); (repeat (first | with_reducible exact Junk.refl _ | with_reducible exact Junk.app _ _ _ _ _ | with_reducible exact Junk.app2 _ _ _ _ _ _ | with_reducible exact Junk.app3 _ _ _ _ _ _ _ | with_reducible exact Junk.app4 _ _ _ _ _ _ _ _ | with_reducible exact Junk.app5 _ _ _ _ _ _ _ _ _ | with_reducible apply Junk.alloc | with_reducible apply Junk.junk | with_reducible apply Junk.drew | with_reducible apply Junk.drewN))))))).mono ?_); rintro e w' ⟨rfl, ⟨osN, dN, rfl⟩⟩))
    go_returns
    exact tn_bad HE.out H0.out (by (first | ((repeat (first | with_reducible exact Junk.refl _ | with_reducible exact Junk.app _ _ _ _ _ | with_reducible apply Junk.alloc | with_reducible apply Junk.junk | with_reducible apply Junk.drew | with_reducible apply Junk.drewN)); done) | ((try simp only [World.junk_junk, Array.append_assoc]); (repeat (first | with_reducible exact Junk.refl _ | with_reducible exact Junk.app _ _ _ _ _ | with_reducible exact Junk.app2 _ _ _ _ _ _ | with_reducible exact Junk.app3 _ _ _ _ _ _ _ | with_reducible exact Junk.app4 _ _ _ _ _ _ _ _ | with_reducible exact Junk.app5 _ _ _ _ _ _ _ _ _ | with_reducible apply Junk.alloc | with_reducible apply Junk.junk | with_reducible apply Junk.drew | with_reducible apply Junk.drewN)))))
  obtain ⟨t, ht⟩ : ∃ t, nmTup xs l = t := ⟨_, rfl⟩
  have HNM := Lib.hid (fun w1 (hb : Bts w1 oa l c xs) => show Calls Try.prog 11 #[.agg #[.int .i64 kind, .int .i64 code, .int .u32 rest, .slice oa l c]] w1 fun e w' => e = .returned (.tuple #[.agg #[.int .i64 t.proto, .int .u32 t.src, .int .i64 t.sport, .int .u32 t.dst, .int .i64 t.dport], .int .i64 0]) ∧ Junk w1 w' by rw [← ht]; exact (names_any kind code rest oa l c xs w1 hl hb).mono fun e w' hp => hp.ok h0)
  by_cases hport : 0 ≤ port ∧ port ≤ 65535
  case neg =>
    have HE := Lib.hid (show tnErr kind xs l port = 1 by unfold tnErr; rw [if_neg (by rw [h0]; decide), if_pos (by omega)])
    clear hB h0 ht
    by_cases hp0 : 0 ≤ port
    · have hp1 : 65535 < port := by omega
      clear hport
      go_enter Try.func35, Try.ntmps35
      go_wp2_with (first | (go_at_call 11; (with_reducible refine (HNM.out _ (HB.out.on (by (first | ((repeat (first | with_reducible exact Junk.refl _ | with_reducible exact Junk.app _ _ _ _ _ | with_reducible apply Junk.alloc | with_reducible apply Junk.junk | with_reducible apply Junk.drew | with_reducible apply Junk.drewN)); done) | ((try simp only [World.junk_junk, Array.append_assoc]); (repeat (first | with_reducible exact Junk.refl _ | with_reducible exact Junk.app _ _ _ _ _ | with_reducible exact Junk.app2 _ _ _ _ _ _ | with_reducible exact Junk.app3 _ _ _ _ _ _ _ | with_reducible exact Junk.app4 _ _ _ _ _ _ _ _ | with_reducible exact Junk.app5 _ _ _ _ _ _ _ _ _ | with_reducible apply Junk.alloc | with_reducible apply Junk.junk | with_reducible apply Junk.drew | with_reducible apply Junk.drewN))))))).mono ?_); rintro e w' ⟨rfl, ⟨osN, dN, rfl⟩⟩))
      go_returns
      exact tn_bad HE.out (by decide) (by (first | ((repeat (first | with_reducible exact Junk.refl _ | with_reducible exact Junk.app _ _ _ _ _ | with_reducible apply Junk.alloc | with_reducible apply Junk.junk | with_reducible apply Junk.drew | with_reducible apply Junk.drewN)); done) | ((try simp only [World.junk_junk, Array.append_assoc]); (repeat (first | with_reducible exact Junk.refl _ | with_reducible exact Junk.app _ _ _ _ _ | with_reducible exact Junk.app2 _ _ _ _ _ _ | with_reducible exact Junk.app3 _ _ _ _ _ _ _ | with_reducible exact Junk.app4 _ _ _ _ _ _ _ _ | with_reducible exact Junk.app5 _ _ _ _ _ _ _ _ _ | with_reducible apply Junk.alloc | with_reducible apply Junk.junk | with_reducible apply Junk.drew | with_reducible apply Junk.drewN)))))
    · have hp1 : port < 0 := by omega
      clear hport hp0
      go_enter Try.func35, Try.ntmps35
      go_wp2_with (first | (go_at_call 11; (with_reducible refine (HNM.out _ (HB.out.on (by (first | ((repeat (first | with_reducible exact Junk.refl _ | with_reducible exact Junk.app _ _ _ _ _ | with_reducible apply Junk.alloc | with_reducible apply Junk.junk | with_reducible apply Junk.drew | with_reducible apply Junk.drewN)); done) | ((try simp only [World.junk_junk, Array.append_assoc]); (repeat (first | with_reducible exact Junk.refl _ | with_reducible exact Junk.app _ _ _ _ _ | with_reducible exact Junk.app2 _ _ _ _ _ _ | with_reducible exact Junk.app3 _ _ _ _ _ _ _ | with_reducible exact Junk.app4 _ _ _ _ _ _ _ _ | with_reducible exact Junk.app5 _ _ _ _ _ _ _ _ _ | with_reducible apply Junk.alloc | with_reducible apply Junk.junk | with_reducible apply Junk.drew | with_reducible apply Junk.drewN))))))).mono ?_); rintro e w' ⟨rfl, ⟨osN, dN, rfl⟩⟩))
      go_returns
      exact tn_bad HE.out (by decide) (by (first | ((repeat (first | with_reducible exact Junk.refl _ | with_reducible exact Junk.app _ _ _ _ _ | with_reducible apply Junk.alloc | with_reducible apply Junk.junk | with_reducible apply Junk.drew | with_reducible apply Junk.drewN)); done) | ((try simp only [World.junk_junk, Array.append_assoc]); (repeat (first | with_reducible exact Junk.refl _ | with_reducible exact Junk.app _ _ _ _ _ | with_reducible exact Junk.app2 _ _ _ _ _ _ | with_reducible exact Junk.app3 _ _ _ _ _ _ _ | with_reducible exact Junk.app4 _ _ _ _ _ _ _ _ | with_reducible exact Junk.app5 _ _ _ _ _ _ _ _ _ | with_reducible apply Junk.alloc | with_reducible apply Junk.junk | with_reducible apply Junk.drew | with_reducible apply Junk.drewN)))))
  by_cases hic : (aboutIp xs l).proto = 1
  · exact turnI12_any kind code rest addr port oa l c xs w hl hB haddr h0 hport hic
  · exact turnN12_any kind code rest addr port oa l c xs w hl hB haddr h0 hport hic
end Go.Proofs.Ytnefphinmjeacaa
