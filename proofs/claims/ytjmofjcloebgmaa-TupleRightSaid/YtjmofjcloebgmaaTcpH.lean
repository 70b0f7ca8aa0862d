/- The reference of layer 4: Same. -/
import Derived.Test.YtjmofjcloebgmaaTcpD
import Derived.Test.YtjmofjcloebgmaaLift2
set_option linter.unusedVariables false
set_option maxRecDepth 100000
set_option linter.unusedSimpArgs false
namespace Go.Proofs.Ytjmofjcloebgmaa
open Go.RowKit
def odSame (x y : Od) : Bool := (x.k == y.k) && sameN x.xs y.xs x.l y.l
def osSame (F G : List Od) : Bool := decide (∀ i, i < F.length → ∀ x, F[i]? = some x → ∀ y, G[i]? = some y → odSame x y = true)
def headSameT (t u : Tc) : Bool := (t.sport == u.sport) && (t.dport == u.dport) && (t.seq == u.seq) && (t.ack == u.ack) && (t.flags == u.flags) && (t.win == u.win) && (t.urg == u.urg)
def tcSame (t u : Tc) : Bool := headSameT t u && (t.os.length == u.os.length) && sameN t.body u.body t.bl u.bl && osSame t.os u.os
theorem sameN_refl (xs : Nat → Int) (l : Nat) : sameN xs xs l l = true := by simp [sameN]
theorem odSame_refl (x : Od) : odSame x x = true := by simp [odSame, sameN_refl]
theorem osSame_refl (F : List Od) : osSame F F = true := by
  unfold osSame
  rw [decide_eq_true_eq]
  intro i hi x hx y hy
  rw [hx] at hy
  cases hy
  exact odSame_refl x
theorem tcSame_refl (t : Tc) : tcSame t t = true := by simp [tcSame, headSameT, sameN_refl, osSame_refl]
theorem osSame_bad {F G : List Od} {i : Nat} {x y : Od} (hx : F[i]? = some x) (hy : G[i]? = some y) (h : odSame x y = false) : osSame F G = false := by
  unfold osSame
  rw [decide_eq_false_iff_not]
  intro ha
  rw [ha i (List.getElem?_eq_some_iff.1 hx).1 x hx y hy] at h
  cases h
theorem osSame_ok {F G : List Ot} (h : ∀ i, i < F.length → ∀ f g, F[i]? = some f → G[i]? = some g → odSame f.d g.d = true) : osSame (F.map Ot.d) (G.map Ot.d) = true := by
  unfold osSame
  rw [decide_eq_true_eq]
  intro i hi x hx y hy
  rw [List.getElem?_map] at hx hy
  cases hf : F[i]? with
  | none => rw [hf] at hx; cases hx
  | some f =>
    cases hg : G[i]? with
    | none => rw [hg] at hy; cases hy
    | some g =>
      rw [hf] at hx; rw [hg] at hy
      cases hx; cases hy
      exact h i (by simpa using hi) f g hf hg
theorem od_at {F : List Ot} {i : Nat} {f : Ot} (h : F[i]? = some f) : (F.map Ot.d)[i]? = some f.d := by rw [List.getElem?_map, h]; rfl
set_option maxHeartbeats 4000000 in
theorem rtsame_any (t u : Tc) (F G : List Ot) (n m : Nat) (oo ob oo2 ob2 : Option Addr) (co cb co2 cb2 : Nat) (w : World) (hF : F.map Ot.d = t.os) (hG : G.map Ot.d = u.os) (hFn : F.length = n) (hGm : G.length = m) (hn : n ≤ 1000000) (hm : m ≤ 1000000)
    (hP : TcAt w F oo co t.bl t.body ob cb) (hQ : TcAt w G oo2 co2 u.bl u.body ob2 cb2) :
    Calls Try.prog 16 #[.agg #[.int .i64 t.sport, .int .i64 t.dport, .int .u32 t.seq, .int .u32 t.ack, .int .i64 t.flags, .int .i64 t.win, .int .i64 t.urg, .slice oo n co, .slice ob t.bl cb], .agg #[.int .i64 u.sport, .int .i64 u.dport, .int .u32 u.seq, .int .u32 u.ack, .int .i64 u.flags, .int .i64 u.win, .int .i64 u.urg, .slice oo2 m co2, .slice ob2 u.bl cb2]] w fun e w' => e = .returned (.bool (tcSame t u)) ∧ Junk w w' := by
  have HP := Lib.hid hP
  have HQ := Lib.hid hQ
  have HF := Lib.hid hF
  have HG := Lib.hid hG
  have HFn := Lib.hid hFn
  have HGm := Lib.hid hGm
  have hnl : n = t.os.length := by rw [← hF, ← hFn]; simp
  have hml : m = u.os.length := by rw [← hG, ← hGm]; simp
  have hbl := hP.body.le
  have hbm : cb ≤ 9223372036854775807 := hP.body.cap
  have hbl2 := hQ.body.le
  have hbm2 : cb2 ≤ 9223372036854775807 := hQ.body.cap
  obtain ⟨T, hT⟩ : ∃ T, T = tcSame t u := ⟨_, rfl⟩
  have HT := Lib.hid hT
  rw [← hT]
  clear hT hP hQ hF hG hFn hGm
  cases a1 : (t.sport == u.sport) with
  | false =>
    have a1' : (t.sport != u.sport) = true := by rw [bne, a1]; rfl
    have HE := Lib.hid (show T = false by rw [HT.out]; simp only [tcSame, headSameT, *, Bool.false_and, Bool.and_false, Bool.true_and])
    clear hnl hml
    go_enter Try.func16, Try.ntmps16
    go_wp2
    go_ret
    exact ⟨by rw [HE.out] <;> rfl, by ((try simp only [World.junk_junk, Array.append_assoc]); (repeat (first | with_reducible exact Junk.refl _ | with_reducible exact Junk.app _ _ _ _ _ | with_reducible exact Junk.app2 _ _ _ _ _ _ | with_reducible exact Junk.app3 _ _ _ _ _ _ _ | with_reducible exact Junk.app4 _ _ _ _ _ _ _ _ | with_reducible exact Junk.app5 _ _ _ _ _ _ _ _ _ | with_reducible apply Junk.alloc | with_reducible apply Junk.junk | with_reducible apply Junk.drew | with_reducible apply Junk.drewN)))⟩
  | true =>
    have a1' : (t.sport != u.sport) = false := by rw [bne, a1]; rfl
    cases a2 : (t.dport == u.dport) with
    | false =>
      have a2' : (t.dport != u.dport) = true := by rw [bne, a2]; rfl
      have HE := Lib.hid (show T = false by rw [HT.out]; simp only [tcSame, headSameT, *, Bool.false_and, Bool.and_false, Bool.true_and])
      clear hnl hml
      go_enter Try.func16, Try.ntmps16
      go_wp2
      go_ret
      exact ⟨by rw [HE.out] <;> rfl, by ((try simp only [World.junk_junk, Array.append_assoc]); (repeat (first | with_reducible exact Junk.refl _ | with_reducible exact Junk.app _ _ _ _ _ | with_reducible exact Junk.app2 _ _ _ _ _ _ | with_reducible exact Junk.app3 _ _ _ _ _ _ _ | with_reducible exact Junk.app4 _ _ _ _ _ _ _ _ | with_reducible exact Junk.app5 _ _ _ _ _ _ _ _ _ | with_reducible apply Junk.alloc | with_reducible apply Junk.junk | with_reducible apply Junk.drew | with_reducible apply Junk.drewN)))⟩
    | true =>
      have a2' : (t.dport != u.dport) = false := by rw [bne, a2]; rfl
      cases a3 : (t.seq == u.seq) with
      | false =>
        have a3' : (t.seq != u.seq) = true := by rw [bne, a3]; rfl
        have HE := Lib.hid (show T = false by rw [HT.out]; simp only [tcSame, headSameT, *, Bool.false_and, Bool.and_false, Bool.true_and])
        clear hnl hml
        go_enter Try.func16, Try.ntmps16
        go_wp2
        go_ret
        exact ⟨by rw [HE.out] <;> rfl, by ((try simp only [World.junk_junk, Array.append_assoc]); (repeat (first | with_reducible exact Junk.refl _ | with_reducible exact Junk.app _ _ _ _ _ | with_reducible exact Junk.app2 _ _ _ _ _ _ | with_reducible exact Junk.app3 _ _ _ _ _ _ _ | with_reducible exact Junk.app4 _ _ _ _ _ _ _ _ | with_reducible exact Junk.app5 _ _ _ _ _ _ _ _ _ | with_reducible apply Junk.alloc | with_reducible apply Junk.junk | with_reducible apply Junk.drew | with_reducible apply Junk.drewN)))⟩
      | true =>
        have a3' : (t.seq != u.seq) = false := by rw [bne, a3]; rfl
        cases a4 : (t.ack == u.ack) with
        | false =>
          have a4' : (t.ack != u.ack) = true := by rw [bne, a4]; rfl
          have HE := Lib.hid (show T = false by rw [HT.out]; simp only [tcSame, headSameT, *, Bool.false_and, Bool.and_false, Bool.true_and])
          clear hnl hml
          go_enter Try.func16, Try.ntmps16
          go_wp2
          go_ret
          exact ⟨by rw [HE.out] <;> rfl, by ((try simp only [World.junk_junk, Array.append_assoc]); (repeat (first | with_reducible exact Junk.refl _ | with_reducible exact Junk.app _ _ _ _ _ | with_reducible exact Junk.app2 _ _ _ _ _ _ | with_reducible exact Junk.app3 _ _ _ _ _ _ _ | with_reducible exact Junk.app4 _ _ _ _ _ _ _ _ | with_reducible exact Junk.app5 _ _ _ _ _ _ _ _ _ | with_reducible apply Junk.alloc | with_reducible apply Junk.junk | with_reducible apply Junk.drew | with_reducible apply Junk.drewN)))⟩
        | true =>
          have a4' : (t.ack != u.ack) = false := by rw [bne, a4]; rfl
          cases a5 : (t.flags == u.flags) with
          | false =>
            have a5' : (t.flags != u.flags) = true := by rw [bne, a5]; rfl
            have HE := Lib.hid (show T = false by rw [HT.out]; simp only [tcSame, headSameT, *, Bool.false_and, Bool.and_false, Bool.true_and])
            clear hnl hml
            go_enter Try.func16, Try.ntmps16
            go_wp2
            go_ret
            exact ⟨by rw [HE.out] <;> rfl, by ((try simp only [World.junk_junk, Array.append_assoc]); (repeat (first | with_reducible exact Junk.refl _ | with_reducible exact Junk.app _ _ _ _ _ | with_reducible exact Junk.app2 _ _ _ _ _ _ | with_reducible exact Junk.app3 _ _ _ _ _ _ _ | with_reducible exact Junk.app4 _ _ _ _ _ _ _ _ | with_reducible exact Junk.app5 _ _ _ _ _ _ _ _ _ | with_reducible apply Junk.alloc | with_reducible apply Junk.junk | with_reducible apply Junk.drew | with_reducible apply Junk.drewN)))⟩
          | true =>
            have a5' : (t.flags != u.flags) = false := by rw [bne, a5]; rfl
            cases a6 : (t.win == u.win) with
            | false =>
              have a6' : (t.win != u.win) = true := by rw [bne, a6]; rfl
              have HE := Lib.hid (show T = false by rw [HT.out]; simp only [tcSame, headSameT, *, Bool.false_and, Bool.and_false, Bool.true_and])
              clear hnl hml
              go_enter Try.func16, Try.ntmps16
              go_wp2
              go_ret
              exact ⟨by rw [HE.out] <;> rfl, by ((try simp only [World.junk_junk, Array.append_assoc]); (repeat (first | with_reducible exact Junk.refl _ | with_reducible exact Junk.app _ _ _ _ _ | with_reducible exact Junk.app2 _ _ _ _ _ _ | with_reducible exact Junk.app3 _ _ _ _ _ _ _ | with_reducible exact Junk.app4 _ _ _ _ _ _ _ _ | with_reducible exact Junk.app5 _ _ _ _ _ _ _ _ _ | with_reducible apply Junk.alloc | with_reducible apply Junk.junk | with_reducible apply Junk.drew | with_reducible apply Junk.drewN)))⟩
            | true =>
              have a6' : (t.win != u.win) = false := by rw [bne, a6]; rfl
              cases a7 : (t.urg == u.urg) with
              | false =>
                have a7' : (t.urg != u.urg) = true := by rw [bne, a7]; rfl
                have HE := Lib.hid (show T = false by rw [HT.out]; simp only [tcSame, headSameT, *, Bool.false_and, Bool.and_false, Bool.true_and])
                clear hnl hml
                go_enter Try.func16, Try.ntmps16
                go_wp2
                go_ret
                exact ⟨by rw [HE.out] <;> rfl, by ((try simp only [World.junk_junk, Array.append_assoc]); (repeat (first | with_reducible exact Junk.refl _ | with_reducible exact Junk.app _ _ _ _ _ | with_reducible exact Junk.app2 _ _ _ _ _ _ | with_reducible exact Junk.app3 _ _ _ _ _ _ _ | with_reducible exact Junk.app4 _ _ _ _ _ _ _ _ | with_reducible exact Junk.app5 _ _ _ _ _ _ _ _ _ | with_reducible apply Junk.alloc | with_reducible apply Junk.junk | with_reducible apply Junk.drew | with_reducible apply Junk.drewN)))⟩
              | true =>
                have a7' : (t.urg != u.urg) = false := by rw [bne, a7]; rfl
                by_cases hnm : n = m
                case neg =>
                  have HE := Lib.hid (show T = false by rw [HT.out]; unfold tcSame; rw [show (t.os.length == u.os.length) = false by rw [← hnl, ← hml]; simpa using hnm]; simp)
                  have hnm' : ((n : Int) != (m : Int)) = true := by simp; omega
                  have hnm2 : ¬ (n : Int) = (m : Int) := by omega
                  clear hnl hml hnm
                  go_enter Try.func16, Try.ntmps16
                  go_wp2
                  go_ret
                  exact ⟨by rw [HE.out] <;> rfl, by ((try simp only [World.junk_junk, Array.append_assoc]); (repeat (first | with_reducible exact Junk.refl _ | with_reducible exact Junk.app _ _ _ _ _ | with_reducible exact Junk.app2 _ _ _ _ _ _ | with_reducible exact Junk.app3 _ _ _ _ _ _ _ | with_reducible exact Junk.app4 _ _ _ _ _ _ _ _ | with_reducible exact Junk.app5 _ _ _ _ _ _ _ _ _ | with_reducible apply Junk.alloc | with_reducible apply Junk.junk | with_reducible apply Junk.drew | with_reducible apply Junk.drewN)))⟩
                have HL := Lib.hid (show (t.os.length == u.os.length) = true by rw [← hnl, ← hml]; simpa using hnm)
                subst hnm
                clear hnl hml
                cases b1 : sameN t.body u.body t.bl u.bl with
                | false =>
                  have HE := Lib.hid (show T = false by rw [HT.out]; simp only [tcSame, b1, Bool.false_and, Bool.and_false])
                  go_enter Try.func16, Try.ntmps16
                  go_wp2_with (first | (go_at_call 19; refine (rsame_any ob ob2 _ _ _ _ t.body u.body _ (by omega) (by omega) (HP.out.body.at_.on (by ((try simp only [World.junk_junk, Array.append_assoc]); (repeat (first | with_reducible exact Junk.refl _ | with_reducible exact Junk.app _ _ _ _ _ | with_reducible exact Junk.app2 _ _ _ _ _ _ | with_reducible exact Junk.app3 _ _ _ _ _ _ _ | with_reducible exact Junk.app4 _ _ _ _ _ _ _ _ | with_reducible exact Junk.app5 _ _ _ _ _ _ _ _ _ | with_reducible apply Junk.alloc | with_reducible apply Junk.junk | with_reducible apply Junk.drew | with_reducible apply Junk.drewN))))) (HQ.out.body.at_.on (by ((try simp only [World.junk_junk, Array.append_assoc]); (repeat (first | with_reducible exact Junk.refl _ | with_reducible exact Junk.app _ _ _ _ _ | with_reducible exact Junk.app2 _ _ _ _ _ _ | with_reducible exact Junk.app3 _ _ _ _ _ _ _ | with_reducible exact Junk.app4 _ _ _ _ _ _ _ _ | with_reducible exact Junk.app5 _ _ _ _ _ _ _ _ _ | with_reducible apply Junk.alloc | with_reducible apply Junk.junk | with_reducible apply Junk.drew | with_reducible apply Junk.drewN)))))).mono ?_; rintro e w' ⟨rfl, ⟨osj, dj, rfl⟩⟩))
                  go_ret
                  exact ⟨by rw [HE.out] <;> rfl, by ((try simp only [World.junk_junk, Array.append_assoc]); (repeat (first | with_reducible exact Junk.refl _ | with_reducible exact Junk.app _ _ _ _ _ | with_reducible exact Junk.app2 _ _ _ _ _ _ | with_reducible exact Junk.app3 _ _ _ _ _ _ _ | with_reducible exact Junk.app4 _ _ _ _ _ _ _ _ | with_reducible exact Junk.app5 _ _ _ _ _ _ _ _ _ | with_reducible apply Junk.alloc | with_reducible apply Junk.junk | with_reducible apply Junk.drew | with_reducible apply Junk.drewN)))⟩
                | true =>
                  have HTT := Lib.hid (show T = osSame (F.map Ot.d) (G.map Ot.d) by rw [HT.out, HF.out, HG.out]; have := HL.out; simp only [tcSame, headSameT, *, Bool.true_and])
                  go_enter Try.func16, Try.ntmps16
                  go_wp2_with (first | (go_at_call 19; refine (rsame_any ob ob2 _ _ _ _ t.body u.body _ (by omega) (by omega) (HP.out.body.at_.on (by ((try simp only [World.junk_junk, Array.append_assoc]); (repeat (first | with_reducible exact Junk.refl _ | with_reducible exact Junk.app _ _ _ _ _ | with_reducible exact Junk.app2 _ _ _ _ _ _ | with_reducible exact Junk.app3 _ _ _ _ _ _ _ | with_reducible exact Junk.app4 _ _ _ _ _ _ _ _ | with_reducible exact Junk.app5 _ _ _ _ _ _ _ _ _ | with_reducible apply Junk.alloc | with_reducible apply Junk.junk | with_reducible apply Junk.drew | with_reducible apply Junk.drewN))))) (HQ.out.body.at_.on (by ((try simp only [World.junk_junk, Array.append_assoc]); (repeat (first | with_reducible exact Junk.refl _ | with_reducible exact Junk.app _ _ _ _ _ | with_reducible exact Junk.app2 _ _ _ _ _ _ | with_reducible exact Junk.app3 _ _ _ _ _ _ _ | with_reducible exact Junk.app4 _ _ _ _ _ _ _ _ | with_reducible exact Junk.app5 _ _ _ _ _ _ _ _ _ | with_reducible apply Junk.alloc | with_reducible apply Junk.junk | with_reducible apply Junk.drew | with_reducible apply Junk.drewN)))))).mono ?_; rintro e w' ⟨rfl, ⟨osj, dj, rfl⟩⟩))
                  go_loopw [5] (fun v wr => ∃ (j : Nat) (os : Array Obj) (d : Nat), v = .int .i64 (j : Int) ∧ wr = (((w.alloc (.cells #[.int .i64 t.sport, .int .i64 t.dport, .int .u32 t.seq, .int .u32 t.ack, .int .i64 t.flags, .int .i64 t.win, .int .i64 t.urg, .slice oo n co, .slice ob t.bl cb] 27)).alloc (.cells #[.int .i64 u.sport, .int .i64 u.dport, .int .u32 u.seq, .int .u32 u.ack, .int .i64 u.flags, .int .i64 u.win, .int .i64 u.urg, .slice oo2 n co2, .slice ob2 u.bl cb2] 27))).junk os d ∧ j ≤ n ∧ Hid (∀ q, q < j → ∀ f g, F[q]? = some f → G[q]? = some g → odSame f.d g.d = true)) (fun v _ => n + 1 - (intOf v).toNat)
                  case atStart => exact ⟨0, osj, dj, rfl, rfl, by omega, Lib.hid (fun q hq => by omega)⟩
                  case round =>
                    obtain ⟨j, os, d, rfl, rfl, hj, hM⟩ := hrel
                    by_cases hjn : j < n
                    case neg =>
                      have hj2 : ¬ (j : Int) < (n : Int) := by omega
                      obtain rfl : j = n := by omega
                      have HE := Lib.hid (show T = true by rw [HTT.out]; exact osSame_ok (fun i hi f g h1 h2 => hM.out i (by rw [HFn.out] at hi; exact hi) f g h1 h2))
                      go_wp2
                      go_ret
                      exact ⟨by rw [HE.out] <;> rfl, by ((try simp only [World.junk_junk, Array.append_assoc]); (repeat (first | with_reducible exact Junk.refl _ | with_reducible exact Junk.app _ _ _ _ _ | with_reducible exact Junk.app2 _ _ _ _ _ _ | with_reducible exact Junk.app3 _ _ _ _ _ _ _ | with_reducible exact Junk.app4 _ _ _ _ _ _ _ _ | with_reducible exact Junk.app5 _ _ _ _ _ _ _ _ _ | with_reducible apply Junk.alloc | with_reducible apply Junk.junk | with_reducible apply Junk.drew | with_reducible apply Junk.drewN)))⟩
                    have hj2 : (j : Int) < (n : Int) := by omega
                    obtain ⟨f, hf⟩ : ∃ f, F[j]? = some f := ⟨_, List.getElem?_eq_getElem (by rw [HFn.out]; omega)⟩
                    obtain ⟨g, hg⟩ : ∃ g, G[j]? = some g := ⟨_, List.getElem?_eq_getElem (by rw [HGm.out]; omega)⟩
                    obtain ⟨bz, offz, rfl, hbz, z0, z1, zb⟩ := HP.out.os j f hf
                    obtain ⟨by_, offy, rfl, hby, y0, y1, yb⟩ := HQ.out.os j g hg
                    have HZ := Lib.hid zb
                    have HY := Lib.hid yb
                    have Hf := Lib.hid hf
                    have Hg := Lib.hid hg
                    have lf := zb.le
                    have lg := yb.le
                    have mf : f.c ≤ 9223372036854775807 := zb.cap
                    have mg : g.c ≤ 9223372036854775807 := yb.cap
                    clear hf hg zb yb
                    cases e1 : (f.k == g.k) with
                    | false =>
                      have e1' : (f.k != g.k) = true := by rw [bne, e1]; rfl
                      have HE := Lib.hid (show T = false by rw [HTT.out]; exact osSame_bad (od_at Hf.out) (od_at Hg.out) (by unfold odSame; show ((f.k == g.k) && _) = false; rw [e1]; rfl))
                      go_wp2
                      refine wp_region_junk (by kernel_rfl) (by kernel_rfl) ?_; (repeat (go_big_quiet_step (first | fail))); refine wpQuiet_nil ?_; rintro _ ⟨⟨osq, dq⟩, rfl⟩
                      go_wp2
                      go_ret
                      exact ⟨by rw [HE.out] <;> rfl, by ((try simp only [World.junk_junk, Array.append_assoc]); (repeat (first | with_reducible exact Junk.refl _ | with_reducible exact Junk.app _ _ _ _ _ | with_reducible exact Junk.app2 _ _ _ _ _ _ | with_reducible exact Junk.app3 _ _ _ _ _ _ _ | with_reducible exact Junk.app4 _ _ _ _ _ _ _ _ | with_reducible exact Junk.app5 _ _ _ _ _ _ _ _ _ | with_reducible apply Junk.alloc | with_reducible apply Junk.junk | with_reducible apply Junk.drew | with_reducible apply Junk.drewN)))⟩
                    | true =>
                      have e1' : (f.k != g.k) = false := by rw [bne, e1]; rfl
                      cases e2 : sameN f.xs g.xs f.l g.l with
                      | false =>
                        have HE := Lib.hid (show T = false by rw [HTT.out]; exact osSame_bad (od_at Hf.out) (od_at Hg.out) (by unfold odSame; show ((f.k == g.k) && sameN f.xs g.xs f.l g.l) = false; rw [e1, e2]; rfl))
                        go_wp2
                        refine wp_region_junk (by kernel_rfl) (by kernel_rfl) ?_; (repeat (go_big_quiet_step (first | (go_at_call 19; first | with_reducible exact Calls.junk_of5 (rsame_any f.oa g.oa f.l f.c g.l g.c f.xs g.xs _ (by omega) (by omega) (HZ.out.at_.on (by (repeat (first | with_reducible exact Junk.refl _ | with_reducible exact Junk.app _ _ _ _ _ | with_reducible apply Junk.alloc | with_reducible apply Junk.junk | with_reducible apply Junk.drew | with_reducible apply Junk.drewN)))) (HY.out.at_.on (by (repeat (first | with_reducible exact Junk.refl _ | with_reducible exact Junk.app _ _ _ _ _ | with_reducible apply Junk.alloc | with_reducible apply Junk.junk | with_reducible apply Junk.drew | with_reducible apply Junk.drewN))))) | with_reducible exact Calls.junk_of4 (rsame_any f.oa g.oa f.l f.c g.l g.c f.xs g.xs _ (by omega) (by omega) (HZ.out.at_.on (by (repeat (first | with_reducible exact Junk.refl _ | with_reducible exact Junk.app _ _ _ _ _ | with_reducible apply Junk.alloc | with_reducible apply Junk.junk | with_reducible apply Junk.drew | with_reducible apply Junk.drewN)))) (HY.out.at_.on (by (repeat (first | with_reducible exact Junk.refl _ | with_reducible exact Junk.app _ _ _ _ _ | with_reducible apply Junk.alloc | with_reducible apply Junk.junk | with_reducible apply Junk.drew | with_reducible apply Junk.drewN))))) | with_reducible exact Calls.junk_of3 (rsame_any f.oa g.oa f.l f.c g.l g.c f.xs g.xs _ (by omega) (by omega) (HZ.out.at_.on (by (repeat (first | with_reducible exact Junk.refl _ | with_reducible exact Junk.app _ _ _ _ _ | with_reducible apply Junk.alloc | with_reducible apply Junk.junk | with_reducible apply Junk.drew | with_reducible apply Junk.drewN)))) (HY.out.at_.on (by (repeat (first | with_reducible exact Junk.refl _ | with_reducible exact Junk.app _ _ _ _ _ | with_reducible apply Junk.alloc | with_reducible apply Junk.junk | with_reducible apply Junk.drew | with_reducible apply Junk.drewN))))) | with_reducible exact Calls.junk_of2 (rsame_any f.oa g.oa f.l f.c g.l g.c f.xs g.xs _ (by omega) (by omega) (HZ.out.at_.on (by (repeat (first | with_reducible exact Junk.refl _ | with_reducible exact Junk.app _ _ _ _ _ | with_reducible apply Junk.alloc | with_reducible apply Junk.junk | with_reducible apply Junk.drew | with_reducible apply Junk.drewN)))) (HY.out.at_.on (by (repeat (first | with_reducible exact Junk.refl _ | with_reducible exact Junk.app _ _ _ _ _ | with_reducible apply Junk.alloc | with_reducible apply Junk.junk | with_reducible apply Junk.drew | with_reducible apply Junk.drewN))))) | exact Calls.junk_of (rsame_any f.oa g.oa f.l f.c g.l g.c f.xs g.xs _ (by omega) (by omega) (HZ.out.at_.on (by (repeat (first | with_reducible exact Junk.refl _ | with_reducible exact Junk.app _ _ _ _ _ | with_reducible apply Junk.alloc | with_reducible apply Junk.junk | with_reducible apply Junk.drew | with_reducible apply Junk.drewN)))) (HY.out.at_.on (by (repeat (first | with_reducible exact Junk.refl _ | with_reducible exact Junk.app _ _ _ _ _ | with_reducible apply Junk.alloc | with_reducible apply Junk.junk | with_reducible apply Junk.drew | with_reducible apply Junk.drewN))))))))); refine wpQuiet_nil ?_; rintro _ ⟨⟨osq, dq⟩, rfl⟩
                        go_wp2
                        go_ret
                        exact ⟨by rw [HE.out] <;> rfl, by ((try simp only [World.junk_junk, Array.append_assoc]); (repeat (first | with_reducible exact Junk.refl _ | with_reducible exact Junk.app _ _ _ _ _ | with_reducible exact Junk.app2 _ _ _ _ _ _ | with_reducible exact Junk.app3 _ _ _ _ _ _ _ | with_reducible exact Junk.app4 _ _ _ _ _ _ _ _ | with_reducible exact Junk.app5 _ _ _ _ _ _ _ _ _ | with_reducible apply Junk.alloc | with_reducible apply Junk.junk | with_reducible apply Junk.drew | with_reducible apply Junk.drewN)))⟩
                      | true =>
                        have HM2 := Lib.hid (show ∀ q, q < j + 1 → ∀ f g, F[q]? = some f → G[q]? = some g → odSame f.d g.d = true from fun q hq f' g' h1 h2 => by
                          by_cases h : q = j
                          · subst h
                            rw [Hf.out] at h1; rw [Hg.out] at h2
                            cases h1; cases h2
                            unfold odSame; show ((f.k == g.k) && sameN f.xs g.xs f.l g.l) = true; rw [e1, e2]; rfl
                          · exact hM.out q (by omega) f' g' h1 h2)
                        go_wp2
                        refine wp_region_junk (by kernel_rfl) (by kernel_rfl) ?_; (repeat (go_big_quiet_step (first | (go_at_call 19; first | with_reducible exact Calls.junk_of5 (rsame_any f.oa g.oa f.l f.c g.l g.c f.xs g.xs _ (by omega) (by omega) (HZ.out.at_.on (by (repeat (first | with_reducible exact Junk.refl _ | with_reducible exact Junk.app _ _ _ _ _ | with_reducible apply Junk.alloc | with_reducible apply Junk.junk | with_reducible apply Junk.drew | with_reducible apply Junk.drewN)))) (HY.out.at_.on (by (repeat (first | with_reducible exact Junk.refl _ | with_reducible exact Junk.app _ _ _ _ _ | with_reducible apply Junk.alloc | with_reducible apply Junk.junk | with_reducible apply Junk.drew | with_reducible apply Junk.drewN))))) | with_reducible exact Calls.junk_of4 (rsame_any f.oa g.oa f.l f.c g.l g.c f.xs g.xs _ (by omega) (by omega) (HZ.out.at_.on (by (repeat (first | with_reducible exact Junk.refl _ | with_reducible exact Junk.app _ _ _ _ _ | with_reducible apply Junk.alloc | with_reducible apply Junk.junk | with_reducible apply Junk.drew | with_reducible apply Junk.drewN)))) (HY.out.at_.on (by (repeat (first | with_reducible exact Junk.refl _ | with_reducible exact Junk.app _ _ _ _ _ | with_reducible apply Junk.alloc | with_reducible apply Junk.junk | with_reducible apply Junk.drew | with_reducible apply Junk.drewN))))) | with_reducible exact Calls.junk_of3 (rsame_any f.oa g.oa f.l f.c g.l g.c f.xs g.xs _ (by omega) (by omega) (HZ.out.at_.on (by (repeat (first | with_reducible exact Junk.refl _ | with_reducible exact Junk.app _ _ _ _ _ | with_reducible apply Junk.alloc | with_reducible apply Junk.junk | with_reducible apply Junk.drew | with_reducible apply Junk.drewN)))) (HY.out.at_.on (by (repeat (first | with_reducible exact Junk.refl _ | with_reducible exact Junk.app _ _ _ _ _ | with_reducible apply Junk.alloc | with_reducible apply Junk.junk | with_reducible apply Junk.drew | with_reducible apply Junk.drewN))))) | with_reducible exact Calls.junk_of2 (rsame_any f.oa g.oa f.l f.c g.l g.c f.xs g.xs _ (by omega) (by omega) (HZ.out.at_.on (by (repeat (first | with_reducible exact Junk.refl _ | with_reducible exact Junk.app _ _ _ _ _ | with_reducible apply Junk.alloc | with_reducible apply Junk.junk | with_reducible apply Junk.drew | with_reducible apply Junk.drewN)))) (HY.out.at_.on (by (repeat (first | with_reducible exact Junk.refl _ | with_reducible exact Junk.app _ _ _ _ _ | with_reducible apply Junk.alloc | with_reducible apply Junk.junk | with_reducible apply Junk.drew | with_reducible apply Junk.drewN))))) | exact Calls.junk_of (rsame_any f.oa g.oa f.l f.c g.l g.c f.xs g.xs _ (by omega) (by omega) (HZ.out.at_.on (by (repeat (first | with_reducible exact Junk.refl _ | with_reducible exact Junk.app _ _ _ _ _ | with_reducible apply Junk.alloc | with_reducible apply Junk.junk | with_reducible apply Junk.drew | with_reducible apply Junk.drewN)))) (HY.out.at_.on (by (repeat (first | with_reducible exact Junk.refl _ | with_reducible exact Junk.app _ _ _ _ _ | with_reducible apply Junk.alloc | with_reducible apply Junk.junk | with_reducible apply Junk.drew | with_reducible apply Junk.drewN))))))))); refine wpQuiet_nil ?_; rintro _ ⟨⟨osq, dq⟩, rfl⟩
                        go_wp2
                        exact ⟨⟨j + 1, _, _, by go_num, rfl, by omega, HM2⟩, by simp [intOf]; omega⟩
end Go.Proofs.Ytjmofjcloebgmaa
