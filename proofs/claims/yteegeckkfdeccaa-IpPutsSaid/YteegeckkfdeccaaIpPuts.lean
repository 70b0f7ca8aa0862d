/- The law IpPuts: any packet is put as the document says, or refused; two are the same just if it says so. -/
import Derived.Test.YteegeckkfdeccaaIpRPut
import Derived.Deep.DeepCutAuto
set_option linter.unusedVariables false
set_option linter.unusedSimpArgs false
namespace Go.Proofs.Yteegeckkfdeccaa
open Go.RowKit
theorem ipErr_bd (p : Ip) : 0 ≤ ipErr p ∧ ipErr p ≤ 1 := by unfold ipErr; split <;> omega
set_option maxRecDepth 100000 in
set_option maxHeartbeats 8000000 in
theorem ipPuts_good (p q : Ip) (oo ob oo2 ob2 : Option Addr) (oc bc oc2 bc2 : Nat) (w : World) (HP : Hid (IpAt w p oo oc ob bc)) (HQ : Hid (IpAt w q oo2 oc2 ob2 bc2)) (hs : shortB p = true) (hs2 : shortB q = true)
    (s1 : p.ol ≤ 100) (s2 : p.bl ≤ 3000) (s3 : q.ol ≤ 100) (s4 : q.bl ≤ 3000) :
    Calls Try.prog 13 #[.agg #[.int .i64 p.tos, .int .i64 p.id, .bool p.df, .bool p.mf, .int .i64 p.off, .int .i64 p.ttl, .int .i64 p.proto, .int .u32 p.src, .int .u32 p.dst, .slice oo p.ol oc, .slice ob p.bl bc], .agg #[.int .i64 q.tos, .int .i64 q.id, .bool q.df, .bool q.mf, .int .i64 q.off, .int .i64 q.ttl, .int .i64 q.proto, .int .u32 q.src, .int .u32 q.dst, .slice oo2 q.ol oc2, .slice ob2 q.bl bc2]] w fun e w' => e = .returned (.bool true) ∧ Junk w w' := by
  obtain ⟨r1, r2⟩ := ipErr_bd p
  have hsm : sameN (pktB p) (pktB p) (pktLen p) (pktLen p) = true := by simp [sameN]
  have hpl : pktLen p ≤ 5000 := by unfold pktLen; split <;> omega
  have HL := Lib.hid hpl
  clear hpl
  go_enter Try.func13, Try.ntmps13
  go_upto_region 7 with (first | (go_at_call 29; refine (awake03_any _).mono ?_; rintro e w' ⟨rfl, ⟨osj, dj, rfl⟩⟩) | (go_at_call 30; first | ((with_reducible refine (short_any p oo ob oc bc _).mono ?_); rintro e w' ⟨rfl, ⟨osj, dj, rfl⟩⟩) | (refine (short_any q oo2 ob2 oc2 bc2 _).mono ?_; rintro e w' ⟨rfl, ⟨osj, dj, rfl⟩⟩)) | (go_at_call 31; (try simp only [World.junk_junk]); refine calls_gen (fun osA dA => ?_); refine (ipPut_any p oo ob oc bc _ (by omega) (by omega) (HP.out.on (by ((try simp only [World.junk_junk, Array.append_assoc]); (repeat (first | with_reducible exact Junk.refl _ | with_reducible exact Junk.app _ _ _ _ _ | with_reducible exact Junk.app2 _ _ _ _ _ _ | with_reducible exact Junk.app3 _ _ _ _ _ _ _ | with_reducible exact Junk.app4 _ _ _ _ _ _ _ _ | with_reducible exact Junk.app5 _ _ _ _ _ _ _ _ _ | with_reducible apply Junk.alloc | with_reducible apply Junk.junk | with_reducible apply Junk.drew | with_reducible apply Junk.drewN)))))).mono ?_; intro e w' hp; obtain ⟨o1, k1, rfl, ⟨osj2, dj2, rfl⟩, hb⟩ := hp.any2; clear hp; have Hb := Lib.hid hb; clear hb) | (go_at_call 40; refine (ipRPut_any p oo ob oc bc _ (by omega) (by omega) (HP.out.on (by ((try simp only [World.junk_junk, Array.append_assoc]); (repeat (first | with_reducible exact Junk.refl _ | with_reducible exact Junk.app _ _ _ _ _ | with_reducible exact Junk.app2 _ _ _ _ _ _ | with_reducible exact Junk.app3 _ _ _ _ _ _ _ | with_reducible exact Junk.app4 _ _ _ _ _ _ _ _ | with_reducible exact Junk.app5 _ _ _ _ _ _ _ _ _ | with_reducible apply Junk.alloc | with_reducible apply Junk.junk | with_reducible apply Junk.drew | with_reducible apply Junk.drewN)))))).mono ?_; intro e w' hp; obtain ⟨o2, k2, rfl, ⟨osj3, dj3, rfl⟩, hb⟩ := hp; have Hb2 := Lib.hid hb; clear hb))
  go_cut [9] (fun s wx => s = .bool (sameIp p q) ∧ ∃ os d, wx = ((w.alloc (.cells #[.int .i64 p.tos, .int .i64 p.id, .bool p.df, .bool p.mf, .int .i64 p.off, .int .i64 p.ttl, .int .i64 p.proto, .int .u32 p.src, .int .u32 p.dst, .slice oo p.ol oc, .slice ob p.bl bc] 45)).alloc (.cells #[.int .i64 q.tos, .int .i64 q.id, .bool q.df, .bool q.mf, .int .i64 q.off, .int .i64 q.ttl, .int .i64 q.proto, .int .u32 q.src, .int .u32 q.dst, .slice oo2 q.ol oc2, .slice ob2 q.bl bc2] 45)).junk os d ∧ Hid (Bts wx o1 (pktLen p) k1 (pktB p)) ∧ Hid (Bts wx o2 (pktLen p) k2 (pktB p)))
  case first =>
    cases a1 : p.tos == q.tos with
    | false =>
      go_wp2
      go_meet
      exact ⟨by simp only [sameIp, headSame, *, Bool.false_and, Bool.and_false, Bool.true_and], _, _, rfl, Lib.hid (Hb.out.on (by ((try simp only [World.junk_junk, Array.append_assoc]); (repeat (first | with_reducible exact Junk.refl _ | with_reducible exact Junk.app _ _ _ _ _ | with_reducible exact Junk.app2 _ _ _ _ _ _ | with_reducible exact Junk.app3 _ _ _ _ _ _ _ | with_reducible exact Junk.app4 _ _ _ _ _ _ _ _ | with_reducible exact Junk.app5 _ _ _ _ _ _ _ _ _ | with_reducible apply Junk.alloc | with_reducible apply Junk.junk | with_reducible apply Junk.drew | with_reducible apply Junk.drewN))))), Lib.hid (Hb2.out.on (by ((try simp only [World.junk_junk, Array.append_assoc]); (repeat (first | with_reducible exact Junk.refl _ | with_reducible exact Junk.app _ _ _ _ _ | with_reducible exact Junk.app2 _ _ _ _ _ _ | with_reducible exact Junk.app3 _ _ _ _ _ _ _ | with_reducible exact Junk.app4 _ _ _ _ _ _ _ _ | with_reducible exact Junk.app5 _ _ _ _ _ _ _ _ _ | with_reducible apply Junk.alloc | with_reducible apply Junk.junk | with_reducible apply Junk.drew | with_reducible apply Junk.drewN)))))⟩
    | true =>
      cases a2 : p.id == q.id with
      | false =>
        go_wp2
        go_meet
        exact ⟨by simp only [sameIp, headSame, *, Bool.false_and, Bool.and_false, Bool.true_and], _, _, rfl, Lib.hid (Hb.out.on (by ((try simp only [World.junk_junk, Array.append_assoc]); (repeat (first | with_reducible exact Junk.refl _ | with_reducible exact Junk.app _ _ _ _ _ | with_reducible exact Junk.app2 _ _ _ _ _ _ | with_reducible exact Junk.app3 _ _ _ _ _ _ _ | with_reducible exact Junk.app4 _ _ _ _ _ _ _ _ | with_reducible exact Junk.app5 _ _ _ _ _ _ _ _ _ | with_reducible apply Junk.alloc | with_reducible apply Junk.junk | with_reducible apply Junk.drew | with_reducible apply Junk.drewN))))), Lib.hid (Hb2.out.on (by ((try simp only [World.junk_junk, Array.append_assoc]); (repeat (first | with_reducible exact Junk.refl _ | with_reducible exact Junk.app _ _ _ _ _ | with_reducible exact Junk.app2 _ _ _ _ _ _ | with_reducible exact Junk.app3 _ _ _ _ _ _ _ | with_reducible exact Junk.app4 _ _ _ _ _ _ _ _ | with_reducible exact Junk.app5 _ _ _ _ _ _ _ _ _ | with_reducible apply Junk.alloc | with_reducible apply Junk.junk | with_reducible apply Junk.drew | with_reducible apply Junk.drewN)))))⟩
      | true =>
        cases a3 : p.df == q.df with
        | false =>
          go_wp2
          go_meet
          exact ⟨by simp only [sameIp, headSame, *, Bool.false_and, Bool.and_false, Bool.true_and], _, _, rfl, Lib.hid (Hb.out.on (by ((try simp only [World.junk_junk, Array.append_assoc]); (repeat (first | with_reducible exact Junk.refl _ | with_reducible exact Junk.app _ _ _ _ _ | with_reducible exact Junk.app2 _ _ _ _ _ _ | with_reducible exact Junk.app3 _ _ _ _ _ _ _ | with_reducible exact Junk.app4 _ _ _ _ _ _ _ _ | with_reducible exact Junk.app5 _ _ _ _ _ _ _ _ _ | with_reducible apply Junk.alloc | with_reducible apply Junk.junk | with_reducible apply Junk.drew | with_reducible apply Junk.drewN))))), Lib.hid (Hb2.out.on (by ((try simp only [World.junk_junk, Array.append_assoc]); (repeat (first | with_reducible exact Junk.refl _ | with_reducible exact Junk.app _ _ _ _ _ | with_reducible exact Junk.app2 _ _ _ _ _ _ | with_reducible exact Junk.app3 _ _ _ _ _ _ _ | with_reducible exact Junk.app4 _ _ _ _ _ _ _ _ | with_reducible exact Junk.app5 _ _ _ _ _ _ _ _ _ | with_reducible apply Junk.alloc | with_reducible apply Junk.junk | with_reducible apply Junk.drew | with_reducible apply Junk.drewN)))))⟩
        | true =>
          cases a4 : p.mf == q.mf with
          | false =>
            go_wp2
            go_meet
            exact ⟨by simp only [sameIp, headSame, *, Bool.false_and, Bool.and_false, Bool.true_and], _, _, rfl, Lib.hid (Hb.out.on (by ((try simp only [World.junk_junk, Array.append_assoc]); (repeat (first | with_reducible exact Junk.refl _ | with_reducible exact Junk.app _ _ _ _ _ | with_reducible exact Junk.app2 _ _ _ _ _ _ | with_reducible exact Junk.app3 _ _ _ _ _ _ _ | with_reducible exact Junk.app4 _ _ _ _ _ _ _ _ | with_reducible exact Junk.app5 _ _ _ _ _ _ _ _ _ | with_reducible apply Junk.alloc | with_reducible apply Junk.junk | with_reducible apply Junk.drew | with_reducible apply Junk.drewN))))), Lib.hid (Hb2.out.on (by ((try simp only [World.junk_junk, Array.append_assoc]); (repeat (first | with_reducible exact Junk.refl _ | with_reducible exact Junk.app _ _ _ _ _ | with_reducible exact Junk.app2 _ _ _ _ _ _ | with_reducible exact Junk.app3 _ _ _ _ _ _ _ | with_reducible exact Junk.app4 _ _ _ _ _ _ _ _ | with_reducible exact Junk.app5 _ _ _ _ _ _ _ _ _ | with_reducible apply Junk.alloc | with_reducible apply Junk.junk | with_reducible apply Junk.drew | with_reducible apply Junk.drewN)))))⟩
          | true =>
            cases a5 : p.off == q.off with
            | false =>
              go_wp2
              go_meet
              exact ⟨by simp only [sameIp, headSame, *, Bool.false_and, Bool.and_false, Bool.true_and], _, _, rfl, Lib.hid (Hb.out.on (by ((try simp only [World.junk_junk, Array.append_assoc]); (repeat (first | with_reducible exact Junk.refl _ | with_reducible exact Junk.app _ _ _ _ _ | with_reducible exact Junk.app2 _ _ _ _ _ _ | with_reducible exact Junk.app3 _ _ _ _ _ _ _ | with_reducible exact Junk.app4 _ _ _ _ _ _ _ _ | with_reducible exact Junk.app5 _ _ _ _ _ _ _ _ _ | with_reducible apply Junk.alloc | with_reducible apply Junk.junk | with_reducible apply Junk.drew | with_reducible apply Junk.drewN))))), Lib.hid (Hb2.out.on (by ((try simp only [World.junk_junk, Array.append_assoc]); (repeat (first | with_reducible exact Junk.refl _ | with_reducible exact Junk.app _ _ _ _ _ | with_reducible exact Junk.app2 _ _ _ _ _ _ | with_reducible exact Junk.app3 _ _ _ _ _ _ _ | with_reducible exact Junk.app4 _ _ _ _ _ _ _ _ | with_reducible exact Junk.app5 _ _ _ _ _ _ _ _ _ | with_reducible apply Junk.alloc | with_reducible apply Junk.junk | with_reducible apply Junk.drew | with_reducible apply Junk.drewN)))))⟩
            | true =>
              cases a6 : p.ttl == q.ttl with
              | false =>
                go_wp2
                go_meet
                exact ⟨by simp only [sameIp, headSame, *, Bool.false_and, Bool.and_false, Bool.true_and], _, _, rfl, Lib.hid (Hb.out.on (by ((try simp only [World.junk_junk, Array.append_assoc]); (repeat (first | with_reducible exact Junk.refl _ | with_reducible exact Junk.app _ _ _ _ _ | with_reducible exact Junk.app2 _ _ _ _ _ _ | with_reducible exact Junk.app3 _ _ _ _ _ _ _ | with_reducible exact Junk.app4 _ _ _ _ _ _ _ _ | with_reducible exact Junk.app5 _ _ _ _ _ _ _ _ _ | with_reducible apply Junk.alloc | with_reducible apply Junk.junk | with_reducible apply Junk.drew | with_reducible apply Junk.drewN))))), Lib.hid (Hb2.out.on (by ((try simp only [World.junk_junk, Array.append_assoc]); (repeat (first | with_reducible exact Junk.refl _ | with_reducible exact Junk.app _ _ _ _ _ | with_reducible exact Junk.app2 _ _ _ _ _ _ | with_reducible exact Junk.app3 _ _ _ _ _ _ _ | with_reducible exact Junk.app4 _ _ _ _ _ _ _ _ | with_reducible exact Junk.app5 _ _ _ _ _ _ _ _ _ | with_reducible apply Junk.alloc | with_reducible apply Junk.junk | with_reducible apply Junk.drew | with_reducible apply Junk.drewN)))))⟩
              | true =>
                cases a7 : p.proto == q.proto with
                | false =>
                  go_wp2
                  go_meet
                  exact ⟨by simp only [sameIp, headSame, *, Bool.false_and, Bool.and_false, Bool.true_and], _, _, rfl, Lib.hid (Hb.out.on (by ((try simp only [World.junk_junk, Array.append_assoc]); (repeat (first | with_reducible exact Junk.refl _ | with_reducible exact Junk.app _ _ _ _ _ | with_reducible exact Junk.app2 _ _ _ _ _ _ | with_reducible exact Junk.app3 _ _ _ _ _ _ _ | with_reducible exact Junk.app4 _ _ _ _ _ _ _ _ | with_reducible exact Junk.app5 _ _ _ _ _ _ _ _ _ | with_reducible apply Junk.alloc | with_reducible apply Junk.junk | with_reducible apply Junk.drew | with_reducible apply Junk.drewN))))), Lib.hid (Hb2.out.on (by ((try simp only [World.junk_junk, Array.append_assoc]); (repeat (first | with_reducible exact Junk.refl _ | with_reducible exact Junk.app _ _ _ _ _ | with_reducible exact Junk.app2 _ _ _ _ _ _ | with_reducible exact Junk.app3 _ _ _ _ _ _ _ | with_reducible exact Junk.app4 _ _ _ _ _ _ _ _ | with_reducible exact Junk.app5 _ _ _ _ _ _ _ _ _ | with_reducible apply Junk.alloc | with_reducible apply Junk.junk | with_reducible apply Junk.drew | with_reducible apply Junk.drewN)))))⟩
                | true =>
                  cases a8 : p.src == q.src with
                  | false =>
                    go_wp2
                    go_meet
                    exact ⟨by simp only [sameIp, headSame, *, Bool.false_and, Bool.and_false, Bool.true_and], _, _, rfl, Lib.hid (Hb.out.on (by ((try simp only [World.junk_junk, Array.append_assoc]); (repeat (first | with_reducible exact Junk.refl _ | with_reducible exact Junk.app _ _ _ _ _ | with_reducible exact Junk.app2 _ _ _ _ _ _ | with_reducible exact Junk.app3 _ _ _ _ _ _ _ | with_reducible exact Junk.app4 _ _ _ _ _ _ _ _ | with_reducible exact Junk.app5 _ _ _ _ _ _ _ _ _ | with_reducible apply Junk.alloc | with_reducible apply Junk.junk | with_reducible apply Junk.drew | with_reducible apply Junk.drewN))))), Lib.hid (Hb2.out.on (by ((try simp only [World.junk_junk, Array.append_assoc]); (repeat (first | with_reducible exact Junk.refl _ | with_reducible exact Junk.app _ _ _ _ _ | with_reducible exact Junk.app2 _ _ _ _ _ _ | with_reducible exact Junk.app3 _ _ _ _ _ _ _ | with_reducible exact Junk.app4 _ _ _ _ _ _ _ _ | with_reducible exact Junk.app5 _ _ _ _ _ _ _ _ _ | with_reducible apply Junk.alloc | with_reducible apply Junk.junk | with_reducible apply Junk.drew | with_reducible apply Junk.drewN)))))⟩
                  | true =>
                    cases a9 : p.dst == q.dst with
                    | false =>
                      go_wp2
                      go_meet
                      exact ⟨by simp only [sameIp, headSame, *, Bool.false_and, Bool.and_false, Bool.true_and], _, _, rfl, Lib.hid (Hb.out.on (by ((try simp only [World.junk_junk, Array.append_assoc]); (repeat (first | with_reducible exact Junk.refl _ | with_reducible exact Junk.app _ _ _ _ _ | with_reducible exact Junk.app2 _ _ _ _ _ _ | with_reducible exact Junk.app3 _ _ _ _ _ _ _ | with_reducible exact Junk.app4 _ _ _ _ _ _ _ _ | with_reducible exact Junk.app5 _ _ _ _ _ _ _ _ _ | with_reducible apply Junk.alloc | with_reducible apply Junk.junk | with_reducible apply Junk.drew | with_reducible apply Junk.drewN))))), Lib.hid (Hb2.out.on (by ((try simp only [World.junk_junk, Array.append_assoc]); (repeat (first | with_reducible exact Junk.refl _ | with_reducible exact Junk.app _ _ _ _ _ | with_reducible exact Junk.app2 _ _ _ _ _ _ | with_reducible exact Junk.app3 _ _ _ _ _ _ _ | with_reducible exact Junk.app4 _ _ _ _ _ _ _ _ | with_reducible exact Junk.app5 _ _ _ _ _ _ _ _ _ | with_reducible apply Junk.alloc | with_reducible apply Junk.junk | with_reducible apply Junk.drew | with_reducible apply Junk.drewN)))))⟩
                    | true =>
                      cases b1 : sameN p.opts q.opts p.ol q.ol with
                      | false =>
                        go_wp2_with (first | (go_at_call 21; refine (rsame_any oo oo2 p.ol oc q.ol oc2 p.opts q.opts _ (by omega) (by omega) (HP.out.opts.at_.on (by ((try simp only [World.junk_junk, Array.append_assoc]); (repeat (first | with_reducible exact Junk.refl _ | with_reducible exact Junk.app _ _ _ _ _ | with_reducible exact Junk.app2 _ _ _ _ _ _ | with_reducible exact Junk.app3 _ _ _ _ _ _ _ | with_reducible exact Junk.app4 _ _ _ _ _ _ _ _ | with_reducible exact Junk.app5 _ _ _ _ _ _ _ _ _ | with_reducible apply Junk.alloc | with_reducible apply Junk.junk | with_reducible apply Junk.drew | with_reducible apply Junk.drewN))))) (HQ.out.opts.at_.on (by ((try simp only [World.junk_junk, Array.append_assoc]); (repeat (first | with_reducible exact Junk.refl _ | with_reducible exact Junk.app _ _ _ _ _ | with_reducible exact Junk.app2 _ _ _ _ _ _ | with_reducible exact Junk.app3 _ _ _ _ _ _ _ | with_reducible exact Junk.app4 _ _ _ _ _ _ _ _ | with_reducible exact Junk.app5 _ _ _ _ _ _ _ _ _ | with_reducible apply Junk.alloc | with_reducible apply Junk.junk | with_reducible apply Junk.drew | with_reducible apply Junk.drewN)))))).mono ?_; rintro e w' ⟨rfl, ⟨osj, dj, rfl⟩⟩))
                        go_meet
                        exact ⟨by simp only [sameIp, headSame, *, Bool.false_and, Bool.and_false, Bool.true_and], _, _, rfl, Lib.hid (Hb.out.on (by ((try simp only [World.junk_junk, Array.append_assoc]); (repeat (first | with_reducible exact Junk.refl _ | with_reducible exact Junk.app _ _ _ _ _ | with_reducible exact Junk.app2 _ _ _ _ _ _ | with_reducible exact Junk.app3 _ _ _ _ _ _ _ | with_reducible exact Junk.app4 _ _ _ _ _ _ _ _ | with_reducible exact Junk.app5 _ _ _ _ _ _ _ _ _ | with_reducible apply Junk.alloc | with_reducible apply Junk.junk | with_reducible apply Junk.drew | with_reducible apply Junk.drewN))))), Lib.hid (Hb2.out.on (by ((try simp only [World.junk_junk, Array.append_assoc]); (repeat (first | with_reducible exact Junk.refl _ | with_reducible exact Junk.app _ _ _ _ _ | with_reducible exact Junk.app2 _ _ _ _ _ _ | with_reducible exact Junk.app3 _ _ _ _ _ _ _ | with_reducible exact Junk.app4 _ _ _ _ _ _ _ _ | with_reducible exact Junk.app5 _ _ _ _ _ _ _ _ _ | with_reducible apply Junk.alloc | with_reducible apply Junk.junk | with_reducible apply Junk.drew | with_reducible apply Junk.drewN)))))⟩
                      | true =>
                        go_wp2_with (go_at_call 21; first | ((with_reducible refine (rsame_any oo oo2 p.ol oc q.ol oc2 p.opts q.opts _ (by omega) (by omega) (HP.out.opts.at_.on (by ((try simp only [World.junk_junk, Array.append_assoc]); (repeat (first | with_reducible exact Junk.refl _ | with_reducible exact Junk.app _ _ _ _ _ | with_reducible exact Junk.app2 _ _ _ _ _ _ | with_reducible exact Junk.app3 _ _ _ _ _ _ _ | with_reducible exact Junk.app4 _ _ _ _ _ _ _ _ | with_reducible exact Junk.app5 _ _ _ _ _ _ _ _ _ | with_reducible apply Junk.alloc | with_reducible apply Junk.junk | with_reducible apply Junk.drew | with_reducible apply Junk.drewN))))) (HQ.out.opts.at_.on (by ((try simp only [World.junk_junk, Array.append_assoc]); (repeat (first | with_reducible exact Junk.refl _ | with_reducible exact Junk.app _ _ _ _ _ | with_reducible exact Junk.app2 _ _ _ _ _ _ | with_reducible exact Junk.app3 _ _ _ _ _ _ _ | with_reducible exact Junk.app4 _ _ _ _ _ _ _ _ | with_reducible exact Junk.app5 _ _ _ _ _ _ _ _ _ | with_reducible apply Junk.alloc | with_reducible apply Junk.junk | with_reducible apply Junk.drew | with_reducible apply Junk.drewN)))))).mono ?_); rintro e w' ⟨rfl, ⟨osj, dj, rfl⟩⟩) | (refine (rsame_any ob ob2 p.bl bc q.bl bc2 p.body q.body _ (by omega) (by omega) (HP.out.body.at_.on (by ((try simp only [World.junk_junk, Array.append_assoc]); (repeat (first | with_reducible exact Junk.refl _ | with_reducible exact Junk.app _ _ _ _ _ | with_reducible exact Junk.app2 _ _ _ _ _ _ | with_reducible exact Junk.app3 _ _ _ _ _ _ _ | with_reducible exact Junk.app4 _ _ _ _ _ _ _ _ | with_reducible exact Junk.app5 _ _ _ _ _ _ _ _ _ | with_reducible apply Junk.alloc | with_reducible apply Junk.junk | with_reducible apply Junk.drew | with_reducible apply Junk.drewN))))) (HQ.out.body.at_.on (by ((try simp only [World.junk_junk, Array.append_assoc]); (repeat (first | with_reducible exact Junk.refl _ | with_reducible exact Junk.app _ _ _ _ _ | with_reducible exact Junk.app2 _ _ _ _ _ _ | with_reducible exact Junk.app3 _ _ _ _ _ _ _ | with_reducible exact Junk.app4 _ _ _ _ _ _ _ _ | with_reducible exact Junk.app5 _ _ _ _ _ _ _ _ _ | with_reducible apply Junk.alloc | with_reducible apply Junk.junk | with_reducible apply Junk.drew | with_reducible apply Junk.drewN)))))).mono ?_; rintro e w' ⟨rfl, ⟨osj, dj, rfl⟩⟩))
                        go_meet
                        exact ⟨by simp only [sameIp, headSame, *, Bool.false_and, Bool.and_false, Bool.true_and], _, _, rfl, Lib.hid (Hb.out.on (by ((try simp only [World.junk_junk, Array.append_assoc]); (repeat (first | with_reducible exact Junk.refl _ | with_reducible exact Junk.app _ _ _ _ _ | with_reducible exact Junk.app2 _ _ _ _ _ _ | with_reducible exact Junk.app3 _ _ _ _ _ _ _ | with_reducible exact Junk.app4 _ _ _ _ _ _ _ _ | with_reducible exact Junk.app5 _ _ _ _ _ _ _ _ _ | with_reducible apply Junk.alloc | with_reducible apply Junk.junk | with_reducible apply Junk.drew | with_reducible apply Junk.drewN))))), Lib.hid (Hb2.out.on (by ((try simp only [World.junk_junk, Array.append_assoc]); (repeat (first | with_reducible exact Junk.refl _ | with_reducible exact Junk.app _ _ _ _ _ | with_reducible exact Junk.app2 _ _ _ _ _ _ | with_reducible exact Junk.app3 _ _ _ _ _ _ _ | with_reducible exact Junk.app4 _ _ _ _ _ _ _ _ | with_reducible exact Junk.app5 _ _ _ _ _ _ _ _ _ | with_reducible apply Junk.alloc | with_reducible apply Junk.junk | with_reducible apply Junk.drew | with_reducible apply Junk.drewN)))))⟩
  case rest =>
    obtain ⟨rfl, os, d, rfl, Hb3, Hb4⟩ := hcut
    have hl1 := HL.out
    cases hmf : p.mf
    all_goals
      first
        | have hpb : pieceB p = (p.off != 0) := by simp [pieceB, hmf]
        | have hpb : pieceB p = true := by simp [pieceB, hmf]
      have hS := fun w' => ipSame_any p q oo ob oo2 ob2 oc bc oc2 bc2 w'
      have hPi := fun w' => piece_any p oo ob oc bc w'
      simp only [hmf] at hS hPi Hb3 Hb4
      have HS := Lib.hid hS
      have HPi := Lib.hid hPi
      clear hS hPi
      go_wp2
      refine wp_region_junk (by kernel_rfl) (by kernel_rfl) ?_; (repeat (refine wpQuiet_step (fun K hK => ?_); (go_simp; try go_bits); first | (refine hK _ ?_; clear hK K) | (apply Exists.intro; refine ⟨fun _ => ?_, hK _ ?_⟩; (first | (go_at_call 21; first | with_reducible exact Calls.junk_of5 (rsame_any _ _ _ _ _ _ (pktB p) (pktB p) _ (by omega) (by omega) (Hb3.out.at_.on (by ((try simp only [World.junk_junk, Array.append_assoc]); (repeat (first | with_reducible exact Junk.refl _ | with_reducible exact Junk.app _ _ _ _ _ | with_reducible exact Junk.app2 _ _ _ _ _ _ | with_reducible exact Junk.app3 _ _ _ _ _ _ _ | with_reducible exact Junk.app4 _ _ _ _ _ _ _ _ | with_reducible exact Junk.app5 _ _ _ _ _ _ _ _ _ | with_reducible apply Junk.alloc | with_reducible apply Junk.junk | with_reducible apply Junk.drew | with_reducible apply Junk.drewN))))) (Hb4.out.at_.on (by ((try simp only [World.junk_junk, Array.append_assoc]); (repeat (first | with_reducible exact Junk.refl _ | with_reducible exact Junk.app _ _ _ _ _ | with_reducible exact Junk.app2 _ _ _ _ _ _ | with_reducible exact Junk.app3 _ _ _ _ _ _ _ | with_reducible exact Junk.app4 _ _ _ _ _ _ _ _ | with_reducible exact Junk.app5 _ _ _ _ _ _ _ _ _ | with_reducible apply Junk.alloc | with_reducible apply Junk.junk | with_reducible apply Junk.drew | with_reducible apply Junk.drewN)))))) | with_reducible exact Calls.junk_of4 (rsame_any _ _ _ _ _ _ (pktB p) (pktB p) _ (by omega) (by omega) (Hb3.out.at_.on (by ((try simp only [World.junk_junk, Array.append_assoc]); (repeat (first | with_reducible exact Junk.refl _ | with_reducible exact Junk.app _ _ _ _ _ | with_reducible exact Junk.app2 _ _ _ _ _ _ | with_reducible exact Junk.app3 _ _ _ _ _ _ _ | with_reducible exact Junk.app4 _ _ _ _ _ _ _ _ | with_reducible exact Junk.app5 _ _ _ _ _ _ _ _ _ | with_reducible apply Junk.alloc | with_reducible apply Junk.junk | with_reducible apply Junk.drew | with_reducible apply Junk.drewN))))) (Hb4.out.at_.on (by ((try simp only [World.junk_junk, Array.append_assoc]); (repeat (first | with_reducible exact Junk.refl _ | with_reducible exact Junk.app _ _ _ _ _ | with_reducible exact Junk.app2 _ _ _ _ _ _ | with_reducible exact Junk.app3 _ _ _ _ _ _ _ | with_reducible exact Junk.app4 _ _ _ _ _ _ _ _ | with_reducible exact Junk.app5 _ _ _ _ _ _ _ _ _ | with_reducible apply Junk.alloc | with_reducible apply Junk.junk | with_reducible apply Junk.drew | with_reducible apply Junk.drewN)))))) | with_reducible exact Calls.junk_of3 (rsame_any _ _ _ _ _ _ (pktB p) (pktB p) _ (by omega) (by omega) (Hb3.out.at_.on (by ((try simp only [World.junk_junk, Array.append_assoc]); (repeat (first | with_reducible exact Junk.refl _ | with_reducible exact Junk.app _ _ _ _ _ | with_reducible exact Junk.app2 _ _ _ _ _ _ | with_reducible exact Junk.app3 _ _ _ _ _ _ _ | with_reducible exact Junk.app4 _ _ _ _ _ _ _ _ | with_reducible exact Junk.app5 _ _ _ _ _ _ _ _ _ | with_reducible apply Junk.alloc | with_reducible apply Junk.junk | with_reducible apply Junk.drew | with_reducible apply Junk.drewN))))) (Hb4.out.at_.on (by ((try simp only [World.junk_junk, Array.append_assoc]); (repeat (first | with_reducible exact Junk.refl _ | with_reducible exact Junk.app _ _ _ _ _ | with_reducible exact Junk.app2 _ _ _ _ _ _ | with_reducible exact Junk.app3 _ _ _ _ _ _ _ | with_reducible exact Junk.app4 _ _ _ _ _ _ _ _ | with_reducible exact Junk.app5 _ _ _ _ _ _ _ _ _ | with_reducible apply Junk.alloc | with_reducible apply Junk.junk | with_reducible apply Junk.drew | with_reducible apply Junk.drewN)))))) | with_reducible exact Calls.junk_of2 (rsame_any _ _ _ _ _ _ (pktB p) (pktB p) _ (by omega) (by omega) (Hb3.out.at_.on (by ((try simp only [World.junk_junk, Array.append_assoc]); (repeat (first | with_reducible exact Junk.refl _ | with_reducible exact Junk.app _ _ _ _ _ | with_reducible exact Junk.app2 _ _ _ _ _ _ | with_reducible exact Junk.app3 _ _ _ _ _ _ _ | with_reducible exact Junk.app4 _ _ _ _ _ _ _ _ | with_reducible exact Junk.app5 _ _ _ _ _ _ _ _ _ | with_reducible apply Junk.alloc | with_reducible apply Junk.junk | with_reducible apply Junk.drew | with_reducible apply Junk.drewN))))) (Hb4.out.at_.on (by ((try simp only [World.junk_junk, Array.append_assoc]); (repeat (first | with_reducible exact Junk.refl _ | with_reducible exact Junk.app _ _ _ _ _ | with_reducible exact Junk.app2 _ _ _ _ _ _ | with_reducible exact Junk.app3 _ _ _ _ _ _ _ | with_reducible exact Junk.app4 _ _ _ _ _ _ _ _ | with_reducible exact Junk.app5 _ _ _ _ _ _ _ _ _ | with_reducible apply Junk.alloc | with_reducible apply Junk.junk | with_reducible apply Junk.drew | with_reducible apply Junk.drewN)))))) | exact Calls.junk_of (rsame_any _ _ _ _ _ _ (pktB p) (pktB p) _ (by omega) (by omega) (Hb3.out.at_.on (by ((try simp only [World.junk_junk, Array.append_assoc]); (repeat (first | with_reducible exact Junk.refl _ | with_reducible exact Junk.app _ _ _ _ _ | with_reducible exact Junk.app2 _ _ _ _ _ _ | with_reducible exact Junk.app3 _ _ _ _ _ _ _ | with_reducible exact Junk.app4 _ _ _ _ _ _ _ _ | with_reducible exact Junk.app5 _ _ _ _ _ _ _ _ _ | with_reducible apply Junk.alloc | with_reducible apply Junk.junk | with_reducible apply Junk.drew | with_reducible apply Junk.drewN))))) (Hb4.out.at_.on (by ((try simp only [World.junk_junk, Array.append_assoc]); (repeat (first | with_reducible exact Junk.refl _ | with_reducible exact Junk.app _ _ _ _ _ | with_reducible exact Junk.app2 _ _ _ _ _ _ | with_reducible exact Junk.app3 _ _ _ _ _ _ _ | with_reducible exact Junk.app4 _ _ _ _ _ _ _ _ | with_reducible exact Junk.app5 _ _ _ _ _ _ _ _ _ | with_reducible apply Junk.alloc | with_reducible apply Junk.junk | with_reducible apply Junk.drew | with_reducible apply Junk.drewN))))))) | (go_at_call 38; exact Calls.junk_of2 (HS.out _ (HP.out.on (by ((try simp only [World.junk_junk, Array.append_assoc]); (repeat (first | with_reducible exact Junk.refl _ | with_reducible exact Junk.app _ _ _ _ _ | with_reducible exact Junk.app2 _ _ _ _ _ _ | with_reducible exact Junk.app3 _ _ _ _ _ _ _ | with_reducible exact Junk.app4 _ _ _ _ _ _ _ _ | with_reducible exact Junk.app5 _ _ _ _ _ _ _ _ _ | with_reducible apply Junk.alloc | with_reducible apply Junk.junk | with_reducible apply Junk.drew | with_reducible apply Junk.drewN))))) (HQ.out.on (by ((try simp only [World.junk_junk, Array.append_assoc]); (repeat (first | with_reducible exact Junk.refl _ | with_reducible exact Junk.app _ _ _ _ _ | with_reducible exact Junk.app2 _ _ _ _ _ _ | with_reducible exact Junk.app3 _ _ _ _ _ _ _ | with_reducible exact Junk.app4 _ _ _ _ _ _ _ _ | with_reducible exact Junk.app5 _ _ _ _ _ _ _ _ _ | with_reducible apply Junk.alloc | with_reducible apply Junk.junk | with_reducible apply Junk.drew | with_reducible apply Junk.drewN))))))) | (go_at_call 41; exact Calls.junk_of2 (HPi.out _))); clear hK K))); refine wpQuiet_nil ?_; rintro _ ⟨⟨osq, dq⟩, rfl⟩
      go_wp2
      all_goals (go_ret; exact ⟨ret_bool rfl, by ((try simp only [World.junk_junk, Array.append_assoc]); (repeat (first | with_reducible exact Junk.refl _ | with_reducible exact Junk.app _ _ _ _ _ | with_reducible exact Junk.app2 _ _ _ _ _ _ | with_reducible exact Junk.app3 _ _ _ _ _ _ _ | with_reducible exact Junk.app4 _ _ _ _ _ _ _ _ | with_reducible exact Junk.app5 _ _ _ _ _ _ _ _ _ | with_reducible apply Junk.alloc | with_reducible apply Junk.junk | with_reducible apply Junk.drew | with_reducible apply Junk.drewN)))⟩)
set_option maxHeartbeats 1000000 in
theorem ipPuts_walk (p q : Ip) (oo ob oo2 ob2 : Option Addr) (oc bc oc2 bc2 : Nat) (w : World) (hP : IpAt w p oo oc ob bc) (hQ : IpAt w q oo2 oc2 ob2 bc2) :
    Calls Try.prog 13 #[.agg #[.int .i64 p.tos, .int .i64 p.id, .bool p.df, .bool p.mf, .int .i64 p.off, .int .i64 p.ttl, .int .i64 p.proto, .int .u32 p.src, .int .u32 p.dst, .slice oo p.ol oc, .slice ob p.bl bc], .agg #[.int .i64 q.tos, .int .i64 q.id, .bool q.df, .bool q.mf, .int .i64 q.off, .int .i64 q.ttl, .int .i64 q.proto, .int .u32 q.src, .int .u32 q.dst, .slice oo2 q.ol oc2, .slice ob2 q.bl bc2]] w fun e w' => e = .returned (.bool true) ∧ Junk w w' := by
  cases hs : shortB p with
  | false =>
    clear hP hQ
    go_enter Try.func13, Try.ntmps13
    go_wp2_with (first | (go_at_call 29; refine (awake03_any _).mono ?_; rintro e w' ⟨rfl, ⟨osj, dj, rfl⟩⟩) | (go_at_call 30; refine (short_any p oo ob oc bc _).mono ?_; rintro e w' ⟨rfl, ⟨osj, dj, rfl⟩⟩))
    all_goals (go_ret; exact ⟨ret_bool rfl, by ((try simp only [World.junk_junk, Array.append_assoc]); (repeat (first | with_reducible exact Junk.refl _ | with_reducible exact Junk.app _ _ _ _ _ | with_reducible exact Junk.app2 _ _ _ _ _ _ | with_reducible exact Junk.app3 _ _ _ _ _ _ _ | with_reducible exact Junk.app4 _ _ _ _ _ _ _ _ | with_reducible exact Junk.app5 _ _ _ _ _ _ _ _ _ | with_reducible apply Junk.alloc | with_reducible apply Junk.junk | with_reducible apply Junk.drew | with_reducible apply Junk.drewN)))⟩)
  | true =>
    cases hs2 : shortB q with
    | false =>
      clear hP hQ
      go_enter Try.func13, Try.ntmps13
      go_wp2_with (first | (go_at_call 29; refine (awake03_any _).mono ?_; rintro e w' ⟨rfl, ⟨osj, dj, rfl⟩⟩) | (go_at_call 30; first | ((with_reducible refine (short_any p oo ob oc bc _).mono ?_); rintro e w' ⟨rfl, ⟨osj, dj, rfl⟩⟩) | (refine (short_any q oo2 ob2 oc2 bc2 _).mono ?_; rintro e w' ⟨rfl, ⟨osj, dj, rfl⟩⟩)))
      all_goals (go_ret; exact ⟨ret_bool rfl, by ((try simp only [World.junk_junk, Array.append_assoc]); (repeat (first | with_reducible exact Junk.refl _ | with_reducible exact Junk.app _ _ _ _ _ | with_reducible exact Junk.app2 _ _ _ _ _ _ | with_reducible exact Junk.app3 _ _ _ _ _ _ _ | with_reducible exact Junk.app4 _ _ _ _ _ _ _ _ | with_reducible exact Junk.app5 _ _ _ _ _ _ _ _ _ | with_reducible apply Junk.alloc | with_reducible apply Junk.junk | with_reducible apply Junk.drew | with_reducible apply Junk.drewN)))⟩)
    | true =>
      obtain ⟨s1, s2⟩ := shortB_true hs
      obtain ⟨s3, s4⟩ := shortB_true hs2
      exact ipPuts_good p q oo ob oo2 ob2 oc bc oc2 bc2 w (Lib.hid hP) (Lib.hid hQ) hs hs2 s1 s2 s3 s4

theorem ipPuts_core (W : World) (base : Nat) (v0 v1 : Value) (a0 : Arg Try.prog W base 45 v0) (a1 : Arg Try.prog W base 45 v1) :
    Calls Try.prog 13 #[v0, v1] W fun e W' => e = .returned (.bool true) ∧ Junk W W' := by
  obtain ⟨cs_p, rfl, h_p⟩ := a0.struct Try.underlying45
  obtain ⟨hl_p, hf_p⟩ := h_p.fields1 Try.underlying45 (by kernel_rfl) (n := 11) (by kernel_rfl)
  obtain ⟨p_TOS, lp0, e_p0⟩ : ∃ x l, cs_p = x :: l := by cases cs_p with | nil => simp at hl_p | cons x l => exact ⟨x, l, rfl⟩
  subst e_p0
  obtain ⟨p_ID, lp1, e_p1⟩ : ∃ x l, lp0 = x :: l := by cases lp0 with | nil => simp at hl_p | cons x l => exact ⟨x, l, rfl⟩
  subst e_p1
  obtain ⟨p_DF, lp2, e_p2⟩ : ∃ x l, lp1 = x :: l := by cases lp1 with | nil => simp at hl_p | cons x l => exact ⟨x, l, rfl⟩
  subst e_p2
  obtain ⟨p_MF, lp3, e_p3⟩ : ∃ x l, lp2 = x :: l := by cases lp2 with | nil => simp at hl_p | cons x l => exact ⟨x, l, rfl⟩
  subst e_p3
  obtain ⟨p_Off, lp4, e_p4⟩ : ∃ x l, lp3 = x :: l := by cases lp3 with | nil => simp at hl_p | cons x l => exact ⟨x, l, rfl⟩
  subst e_p4
  obtain ⟨p_TTL, lp5, e_p5⟩ : ∃ x l, lp4 = x :: l := by cases lp4 with | nil => simp at hl_p | cons x l => exact ⟨x, l, rfl⟩
  subst e_p5
  obtain ⟨p_Proto, lp6, e_p6⟩ : ∃ x l, lp5 = x :: l := by cases lp5 with | nil => simp at hl_p | cons x l => exact ⟨x, l, rfl⟩
  subst e_p6
  obtain ⟨p_Src, lp7, e_p7⟩ : ∃ x l, lp6 = x :: l := by cases lp6 with | nil => simp at hl_p | cons x l => exact ⟨x, l, rfl⟩
  subst e_p7
  obtain ⟨p_Dst, lp8, e_p8⟩ : ∃ x l, lp7 = x :: l := by cases lp7 with | nil => simp at hl_p | cons x l => exact ⟨x, l, rfl⟩
  subst e_p8
  obtain ⟨p_Opts, lp9, e_p9⟩ : ∃ x l, lp8 = x :: l := by cases lp8 with | nil => simp at hl_p | cons x l => exact ⟨x, l, rfl⟩
  subst e_p9
  obtain ⟨p_Body, lp10, e_p10⟩ : ∃ x l, lp9 = x :: l := by cases lp9 with | nil => simp at hl_p | cons x l => exact ⟨x, l, rfl⟩
  subst e_p10
  obtain rfl : lp10 = [] := by simpa using hl_p
  have f_p0 : Cells Try.prog W 3 [p_TOS] := hf_p 0 _ rfl
  have f_p1 : Cells Try.prog W 3 [p_ID] := hf_p 1 _ rfl
  have f_p2 : Cells Try.prog W 4 [p_DF] := hf_p 2 _ rfl
  have f_p3 : Cells Try.prog W 4 [p_MF] := hf_p 3 _ rfl
  have f_p4 : Cells Try.prog W 3 [p_Off] := hf_p 4 _ rfl
  have f_p5 : Cells Try.prog W 3 [p_TTL] := hf_p 5 _ rfl
  have f_p6 : Cells Try.prog W 3 [p_Proto] := hf_p 6 _ rfl
  have f_p7 : Cells Try.prog W 24 [p_Src] := hf_p 7 _ rfl
  have f_p8 : Cells Try.prog W 24 [p_Dst] := hf_p 8 _ rfl
  have f_p9 : Cells Try.prog W 22 [p_Opts] := hf_p 9 _ rfl
  have f_p10 : Cells Try.prog W 22 [p_Body] := hf_p 10 _ rfl
  clear hf_p hl_p
  obtain ⟨p_TOS, e_p_TOS, w_p_TOS⟩ := f_p0.int Try.underlying3; cases e_p_TOS
  obtain ⟨p_ID, e_p_ID, w_p_ID⟩ := f_p1.int Try.underlying3; cases e_p_ID
  obtain ⟨p_DF, e_p_DF⟩ := f_p2.bool Try.underlying4; cases e_p_DF
  obtain ⟨p_MF, e_p_MF⟩ := f_p3.bool Try.underlying4; cases e_p_MF
  obtain ⟨p_Off, e_p_Off, w_p_Off⟩ := f_p4.int Try.underlying3; cases e_p_Off
  obtain ⟨p_TTL, e_p_TTL, w_p_TTL⟩ := f_p5.int Try.underlying3; cases e_p_TTL
  obtain ⟨p_Proto, e_p_Proto, w_p_Proto⟩ := f_p6.int Try.underlying3; cases e_p_Proto
  obtain ⟨p_Src, e_p_Src, w_p_Src⟩ := f_p7.int Try.underlying24; cases e_p_Src
  obtain ⟨p_Dst, e_p_Dst, w_p_Dst⟩ := f_p8.int Try.underlying24; cases e_p_Dst
  obtain ⟨p_Opts_a, p_Opts_l, p_Opts_c, p_Opts, e_p_Opts, lc_p_Opts, cm_p_Opts, S_p_Opts, w_p_Opts⟩ := f_p9.ints Try.underlying22 Try.underlying5 (by kernel_rfl); cases e_p_Opts
  obtain ⟨p_Body_a, p_Body_l, p_Body_c, p_Body, e_p_Body, lc_p_Body, cm_p_Body, S_p_Body, w_p_Body⟩ := f_p10.ints Try.underlying22 Try.underlying5 (by kernel_rfl); cases e_p_Body
  obtain ⟨cs_q, rfl, h_q⟩ := a1.struct Try.underlying45
  obtain ⟨hl_q, hf_q⟩ := h_q.fields1 Try.underlying45 (by kernel_rfl) (n := 11) (by kernel_rfl)
  obtain ⟨q_TOS, lq0, e_q0⟩ : ∃ x l, cs_q = x :: l := by cases cs_q with | nil => simp at hl_q | cons x l => exact ⟨x, l, rfl⟩
  subst e_q0
  obtain ⟨q_ID, lq1, e_q1⟩ : ∃ x l, lq0 = x :: l := by cases lq0 with | nil => simp at hl_q | cons x l => exact ⟨x, l, rfl⟩
  subst e_q1
  obtain ⟨q_DF, lq2, e_q2⟩ : ∃ x l, lq1 = x :: l := by cases lq1 with | nil => simp at hl_q | cons x l => exact ⟨x, l, rfl⟩
  subst e_q2
  obtain ⟨q_MF, lq3, e_q3⟩ : ∃ x l, lq2 = x :: l := by cases lq2 with | nil => simp at hl_q | cons x l => exact ⟨x, l, rfl⟩
  subst e_q3
  obtain ⟨q_Off, lq4, e_q4⟩ : ∃ x l, lq3 = x :: l := by cases lq3 with | nil => simp at hl_q | cons x l => exact ⟨x, l, rfl⟩
  subst e_q4
  obtain ⟨q_TTL, lq5, e_q5⟩ : ∃ x l, lq4 = x :: l := by cases lq4 with | nil => simp at hl_q | cons x l => exact ⟨x, l, rfl⟩
  subst e_q5
  obtain ⟨q_Proto, lq6, e_q6⟩ : ∃ x l, lq5 = x :: l := by cases lq5 with | nil => simp at hl_q | cons x l => exact ⟨x, l, rfl⟩
  subst e_q6
  obtain ⟨q_Src, lq7, e_q7⟩ : ∃ x l, lq6 = x :: l := by cases lq6 with | nil => simp at hl_q | cons x l => exact ⟨x, l, rfl⟩
  subst e_q7
  obtain ⟨q_Dst, lq8, e_q8⟩ : ∃ x l, lq7 = x :: l := by cases lq7 with | nil => simp at hl_q | cons x l => exact ⟨x, l, rfl⟩
  subst e_q8
  obtain ⟨q_Opts, lq9, e_q9⟩ : ∃ x l, lq8 = x :: l := by cases lq8 with | nil => simp at hl_q | cons x l => exact ⟨x, l, rfl⟩
  subst e_q9
  obtain ⟨q_Body, lq10, e_q10⟩ : ∃ x l, lq9 = x :: l := by cases lq9 with | nil => simp at hl_q | cons x l => exact ⟨x, l, rfl⟩
  subst e_q10
  obtain rfl : lq10 = [] := by simpa using hl_q
  have f_q0 : Cells Try.prog W 3 [q_TOS] := hf_q 0 _ rfl
  have f_q1 : Cells Try.prog W 3 [q_ID] := hf_q 1 _ rfl
  have f_q2 : Cells Try.prog W 4 [q_DF] := hf_q 2 _ rfl
  have f_q3 : Cells Try.prog W 4 [q_MF] := hf_q 3 _ rfl
  have f_q4 : Cells Try.prog W 3 [q_Off] := hf_q 4 _ rfl
  have f_q5 : Cells Try.prog W 3 [q_TTL] := hf_q 5 _ rfl
  have f_q6 : Cells Try.prog W 3 [q_Proto] := hf_q 6 _ rfl
  have f_q7 : Cells Try.prog W 24 [q_Src] := hf_q 7 _ rfl
  have f_q8 : Cells Try.prog W 24 [q_Dst] := hf_q 8 _ rfl
  have f_q9 : Cells Try.prog W 22 [q_Opts] := hf_q 9 _ rfl
  have f_q10 : Cells Try.prog W 22 [q_Body] := hf_q 10 _ rfl
  clear hf_q hl_q
  obtain ⟨q_TOS, e_q_TOS, w_q_TOS⟩ := f_q0.int Try.underlying3; cases e_q_TOS
  obtain ⟨q_ID, e_q_ID, w_q_ID⟩ := f_q1.int Try.underlying3; cases e_q_ID
  obtain ⟨q_DF, e_q_DF⟩ := f_q2.bool Try.underlying4; cases e_q_DF
  obtain ⟨q_MF, e_q_MF⟩ := f_q3.bool Try.underlying4; cases e_q_MF
  obtain ⟨q_Off, e_q_Off, w_q_Off⟩ := f_q4.int Try.underlying3; cases e_q_Off
  obtain ⟨q_TTL, e_q_TTL, w_q_TTL⟩ := f_q5.int Try.underlying3; cases e_q_TTL
  obtain ⟨q_Proto, e_q_Proto, w_q_Proto⟩ := f_q6.int Try.underlying3; cases e_q_Proto
  obtain ⟨q_Src, e_q_Src, w_q_Src⟩ := f_q7.int Try.underlying24; cases e_q_Src
  obtain ⟨q_Dst, e_q_Dst, w_q_Dst⟩ := f_q8.int Try.underlying24; cases e_q_Dst
  obtain ⟨q_Opts_a, q_Opts_l, q_Opts_c, q_Opts, e_q_Opts, lc_q_Opts, cm_q_Opts, S_q_Opts, w_q_Opts⟩ := f_q9.ints Try.underlying22 Try.underlying5 (by kernel_rfl); cases e_q_Opts
  obtain ⟨q_Body_a, q_Body_l, q_Body_c, q_Body, e_q_Body, lc_q_Body, cm_q_Body, S_q_Body, w_q_Body⟩ := f_q10.ints Try.underlying22 Try.underlying5 (by kernel_rfl); cases e_q_Body
  have hlm : maxLen = 9223372036854775807 := rfl
  exact ipPuts_walk ⟨p_TOS, p_ID, p_DF, p_MF, p_Off, p_TTL, p_Proto, p_Src, p_Dst, p_Opts_l, p_Opts, p_Body_l, p_Body⟩ ⟨q_TOS, q_ID, q_DF, q_MF, q_Off, q_TTL, q_Proto, q_Src, q_Dst, q_Opts_l, q_Opts, q_Body_l, q_Body⟩ p_Opts_a p_Body_a q_Opts_a q_Body_a p_Opts_c p_Body_c q_Opts_c q_Body_c W
    ⟨⟨S_p_Opts, fun i hi => bounds_u8 (w_p_Opts i hi), Cells.nil_slice Try.underlying22 f_p9, lc_p_Opts, cm_p_Opts⟩, ⟨S_p_Body, fun i hi => bounds_u8 (w_p_Body i hi), Cells.nil_slice Try.underlying22 f_p10, lc_p_Body, cm_p_Body⟩, bounds_u32 w_p_Src, bounds_u32 w_p_Dst⟩
    ⟨⟨S_q_Opts, fun i hi => bounds_u8 (w_q_Opts i hi), Cells.nil_slice Try.underlying22 f_q9, lc_q_Opts, cm_q_Opts⟩, ⟨S_q_Body, fun i hi => bounds_u8 (w_q_Body i hi), Cells.nil_slice Try.underlying22 f_q10, lc_q_Body, cm_q_Body⟩, bounds_u32 w_q_Src, bounds_u32 w_q_Dst⟩
set_option maxRecDepth 100000 in
theorem ipPuts_lifted (os : Os) (started : os.Started) (H : Type) (enc : TypeId × Value → H) :
    ReturnsInHanded {} Try.checked os 13 .any (Rows.ipPutsSpec.pre6 enc Try.prog Try.f13 Rows.ipPutsRow.domain false) (Rows.ipPutsSpec.post enc Try.prog Try.f13 false true false false) := by
  refine returnsInHanded_of_change (C := Try.checked) (by kernel_rfl) started (by kernel_rfl) Try.func13
    (ChangeSpec.witness6 (enc := enc) (C := Try.checked) false ⟨#[], #[.agg #[.int .i64 0, .int .i64 0, .bool false, .bool false, .int .i64 0, .int .i64 0, .int .i64 0, .int .u32 0, .int .u32 0, .slice none 0 0, .slice none 0 0], .agg #[.int .i64 0, .int .i64 0, .bool false, .bool false, .int .i64 0, .int .i64 0, .int .i64 0, .int .u32 0, .int .u32 0, .slice none 0 0, .slice none 0 0]], []⟩ 8 (by kernel_rfl) (by kernel_rfl) (by kernel_rfl) (by kernel_rfl)) ?_
  intro W base args ds gs before hval hW _ _
  obtain ⟨p, q, hA, _, _, _, _⟩ := id hW
  have hargs : Args Try.prog W base Try.f13.params.toList args.toList := args_of (fun j t v h1 h2 => hval j t v (by simpa using h1) (by simpa using h2)) hA
  rw [Try.params13] at hargs
  obtain ⟨v0, l0, e0, a0, r0⟩ := args_cons hargs
  obtain ⟨v1, l1, e1, a1, r1⟩ := args_cons r0
  have hn := args_nil r1
  have he : args = #[v0, v1] := by
    apply Array.ext'
    simp only [e0, e1, hn]
  subst he
  exact (ipPuts_core W base v0 v1 a0 a1).mono fun e W' ⟨he, hj⟩ => ⟨_, he, post_true (tb := 4) (by kernel_rfl) (by kernel_rfl) rfl (by kernel_rfl) rfl hW (fun hg hl => by
    subst hg
    match ds, hl with
    | [_, _], _ => exact ⟨rfl, rfl, rfl⟩) hj⟩
theorem ipPuts_holds : Rows.IpPutsSaid :=
  OpenClaim.holds_of_wide 13 Try.f13 rfl rfl rfl rfl rfl rfl rfl ⟨rfl, rfl, rfl, rfl, rfl⟩ rfl rfl rfl rfl rfl (by kernel_rfl) Try.func13 (by kernel_rfl)
    (of_decide_eq_true (by kernel_rfl)) (by unfold Func.isWrapper; rw [if_neg (of_decide_eq_false (by kernel_rfl))]; exact ⟨rfl, rfl⟩)
    (fun os started H enc _ => ipPuts_lifted os started H enc)

end Go.Proofs.Yteegeckkfdeccaa
