/- within, end, mine, runs of reasm. -/
import Derived.Test.YtgjppmkadmfibaaRsB
set_option linter.unusedVariables false
set_option maxRecDepth 100000
set_option linter.unusedSimpArgs false
namespace Go.Proofs.Ytgjppmkadmfibaa
open Go.RowKit
def wiR (n a b : Int) : Bool := decide (a ≤ n) && decide (n ≤ b)
theorem rin_any (n a b : Int) (w : World) : Calls Try.prog 21 #[.int .i64 n, .int .i64 a, .int .i64 b] w fun e w' => e = .returned (.bool (wiR n a b)) ∧ Junk w w' := by
  by_cases h1 : a ≤ n
  · have HE := Lib.hid (show wiR n a b = decide (n ≤ b) by unfold wiR; rw [decide_eq_true h1]; rfl)
    rw [HE.out]
    go_enter Try.func21, Try.ntmps21
    go_wp2
    all_goals (go_ret; exact ⟨ret_bool (by simp_all), by (exact jkc)⟩)
  · have HE := Lib.hid (show wiR n a b = false by unfold wiR; rw [decide_eq_false h1]; rfl)
    rw [HE.out]
    go_enter Try.func21, Try.ntmps21
    go_wp2
    all_goals (go_ret; exact ⟨ret_bool (by simp_all), by (exact jkc)⟩)
theorem rend_any (k : Int) (oa : Option Addr) (l c : Nat) (w : World) (h : 0 ≤ k ∧ k ≤ 1000000000) (hl : l ≤ 1000000000) : Calls Try.prog 51 #[.agg #[.int .i64 k, .slice oa l c]] w fun e w' => e = .returned (.int .i64 (k + l)) ∧ Junk w w' := by
  have pw := wrapk_i64 (k + (l : Int)) (by omega) (by omega)
  go_enter Try.func51, Try.ntmps51
  go_wp2
  go_ret
  exact ⟨rfl, by (exact jkc)⟩
def badRun (tot at_ : Int) (f : Od) : Bool := decide (f.l = 0 ∨ f.k < at_ ∨ 65535 < f.k ∨ f.k % 8 ≠ 0 ∨ 65535 < f.l ∨ 65535 < f.k + f.l ∨ (0 ≤ tot ∧ tot < f.k + f.l))
def runGo (tot : Int) : Int → List Od → Bool
  | _, [] => true
  | at_, f :: F => !badRun tot at_ f && runGo tot (f.k + f.l) F
def runsB (b : Bq) : Bool := runGo b.total 0 b.runs && decide (0 < b.runs.length)
theorem runGo_drop {tot at_ : Int} {F : List Od} {k : Nat} {f : Od} (h : F[k]? = some f) : runGo tot at_ (F.drop k) = (!badRun tot at_ f && runGo tot (f.k + f.l) (F.drop (k + 1))) := by
  obtain ⟨hk, rfl⟩ := List.getElem?_eq_some_iff.1 h
  rw [List.drop_eq_getElem_cons hk, runGo]
set_option maxHeartbeats 16000000 in
theorem runs_any (b : Bf) (n : Nat) (w : World) (hr : OsAt w b.ro b.F) (hn : b.F.length = n) (hn6 : n ≤ 1000000) (htot : -9223372036854775808 ≤ b.total ∧ b.total ≤ 9223372036854775807) :
    Calls Try.prog 57 #[.agg #[.int .u32 b.src, .int .u32 b.dst, .int .i64 b.id, .int .i64 b.proto, .int .i64 b.born, .int .i64 b.head.tos, .int .i64 b.head.id, .bool b.head.df, .bool b.head.mf, .int .i64 b.head.off, .int .i64 b.head.ttl, .int .i64 b.head.proto, .int .u32 b.head.src, .int .u32 b.head.dst, .slice b.ho b.head.ol b.hoc, .slice b.hb b.head.bl b.hbc, .bool b.first, .int .i64 b.total, .slice b.ro n b.rc]] w fun e w' => e = .returned (.bool (runsB b.q)) ∧ Junk w w' := by
  have HR := Lib.hid hr
  have HN := Lib.hid hn
  have HE := Lib.hid (show runsB b.q = (runGo b.total 0 (b.q.runs.drop 0) && decide (0 < n)) by unfold runsB; rw [List.drop_zero]; show _ = (_ && decide (0 < n)); rw [← hn]; unfold Bf.q; simp only [List.length_map])
  clear hr hn
  go_enter Try.func57, Try.ntmps57
  go_wp2
  go_loopw [3, 9] (fun s i wr => ∃ (k : Nat) (A : Int), k ≤ n ∧ s = .int .i64 A ∧ i = .int .i64 (k : Int) ∧ (0 ≤ A ∧ A ≤ 65535) ∧ Junk (w.alloc (.cells #[.int .u32 b.src, .int .u32 b.dst, .int .i64 b.id, .int .i64 b.proto, .int .i64 b.born, .int .i64 b.head.tos, .int .i64 b.head.id, .bool b.head.df, .bool b.head.mf, .int .i64 b.head.off, .int .i64 b.head.ttl, .int .i64 b.head.proto, .int .u32 b.head.src, .int .u32 b.head.dst, .slice b.ho b.head.ol b.hoc, .slice b.hb b.head.bl b.hbc, .bool b.first, .int .i64 b.total, .slice b.ro n b.rc] 45)) wr ∧ Hid (runGo b.total 0 (b.q.runs.drop 0) = runGo b.total A (b.q.runs.drop k))) (fun _ i _ => n + 1 - (intOf i).toNat)
  case atStart => exact ⟨0, 0, by omega, rfl, rfl, by omega, Junk.refl _, Lib.hid rfl⟩
  case round =>
    obtain ⟨k, A, hk, rfl, rfl, hA, hj, hG⟩ := hrel
    have HJ := Lib.hid hj
    have HG := Lib.hid hG.out
    have t17 := ((hj.below (Nat.le_refl _)).cell (p := ⟨w.heap.size, 17, none⟩) (by simp)).trans (show (w.alloc (.cells #[.int .u32 b.src, .int .u32 b.dst, .int .i64 b.id, .int .i64 b.proto, .int .i64 b.born, .int .i64 b.head.tos, .int .i64 b.head.id, .bool b.head.df, .bool b.head.mf, .int .i64 b.head.off, .int .i64 b.head.ttl, .int .i64 b.head.proto, .int .u32 b.head.src, .int .u32 b.head.dst, .slice b.ho b.head.ol b.hoc, .slice b.hb b.head.bl b.hbc, .bool b.first, .int .i64 b.total, .slice b.ro n b.rc] 45)).cell? ⟨w.heap.size, 17, none⟩ = some (.int .i64 b.total) by rw [World.cell?_alloc_new]; rfl)
    have t18 := ((hj.below (Nat.le_refl _)).cell (p := ⟨w.heap.size, 18, none⟩) (by simp)).trans (show (w.alloc (.cells #[.int .u32 b.src, .int .u32 b.dst, .int .i64 b.id, .int .i64 b.proto, .int .i64 b.born, .int .i64 b.head.tos, .int .i64 b.head.id, .bool b.head.df, .bool b.head.mf, .int .i64 b.head.off, .int .i64 b.head.ttl, .int .i64 b.head.proto, .int .u32 b.head.src, .int .u32 b.head.dst, .slice b.ho b.head.ol b.hoc, .slice b.hb b.head.bl b.hbc, .bool b.first, .int .i64 b.total, .slice b.ro n b.rc] 45)).cell? ⟨w.heap.size, 18, none⟩ = some (.slice b.ro n b.rc) by rw [World.cell?_alloc_new]; rfl)
    have ts : w.heap.size < wr.heap.size := Nat.lt_of_lt_of_le (by simp) hj.size
    clear hj hG
    by_cases hkn : k < n
    · have hkn2 : (k : Int) < (n : Int) := by omega
      have pk := wrapk_i64 ((k : Int) + 1) (by omega) (by omega)
      obtain ⟨f, hf⟩ : ∃ f, b.F[k]? = some f := ⟨_, List.getElem?_eq_getElem (by rw [HN.out]; exact hkn)⟩
      obtain ⟨gx, ox, hox, hgx, d0, d1, hB⟩ := (HR.out.on ((show Junk w _ by (exact jkc)).trans HJ.out)) k f hf
      have HD := Lib.hid (runGo_drop (tot := b.total) (at_ := A) (show b.q.runs[k]? = some f.d by show (b.F.map Ot.d)[k]? = _; rw [List.getElem?_map, hf]; rfl))
      have hfl : f.l ≤ 9223372036854775807 := Nat.le_trans hB.le hB.cap
      obtain ⟨fk, fo, fl, fc, fx⟩ := f
      simp only at d0 d1 hfl
      rw [hox] at HJ ⊢
      clear hf hB
      have HBAD := Lib.hid (show badRun b.total A (Ot.d ⟨fk, fo, fl, fc, fx⟩) = true → runsB b.q = false from fun h => by rw [HE.out, HG.out, HD.out, h]; rfl)
      have hbd : badRun b.total A (Ot.d ⟨fk, fo, fl, fc, fx⟩) = decide (fl = 0 ∨ fk < A ∨ 65535 < fk ∨ fk % 8 ≠ 0 ∨ 65535 < fl ∨ 65535 < fk + fl ∨ (0 ≤ b.total ∧ b.total < fk + fl)) := rfl
      have HBD := Lib.hid hbd
      clear hbd
      go_upto_region 5 with (first | fail)
      by_cases e1 : fl = 0
      · have HF := Lib.hid (HBAD.out (by rw [HBD.out]; exact decide_eq_true (.inl e1)))
        have x1 : ((fl : Int) == 0) = true := by simp [e1]
        refine wp_region_junk (by kernel_rfl) (by kernel_rfl) ?_; (repeat (go_big_quiet_step (first | fail))); refine wpQuiet_nil ?_; rintro _ ⟨⟨osq5, dq5⟩, rfl⟩
        go_wp2
        go_ret
        exact ⟨by rw [HF.out]; rfl, (show Junk w _ by (exact jkc)).trans (HJ.out.trans (by (exact jkc)))⟩
      have x1 : ((fl : Int) == 0) = false := by simpa using e1
      by_cases e2 : fk < A
      · have HF := Lib.hid (HBAD.out (by rw [HBD.out]; exact decide_eq_true (.inr (.inl e2))))
        refine wp_region_junk (by kernel_rfl) (by kernel_rfl) ?_; (repeat (go_big_quiet_step (first | fail))); refine wpQuiet_nil ?_; rintro _ ⟨⟨osq5, dq5⟩, rfl⟩
        go_wp2
        go_ret
        exact ⟨by rw [HF.out]; rfl, (show Junk w _ by (exact jkc)).trans (HJ.out.trans (by (exact jkc)))⟩
      by_cases e3 : 65535 < fk
      · have HF := Lib.hid (HBAD.out (by rw [HBD.out]; exact decide_eq_true (.inr (.inr (.inl e3)))))
        refine wp_region_junk (by kernel_rfl) (by kernel_rfl) ?_; (repeat (go_big_quiet_step (first | fail))); refine wpQuiet_nil ?_; rintro _ ⟨⟨osq5, dq5⟩, rfl⟩
        go_wp2
        go_ret
        exact ⟨by rw [HF.out]; rfl, (show Junk w _ by (exact jkc)).trans (HJ.out.trans (by (exact jkc)))⟩
      by_cases e4 : fk % 8 ≠ 0
      · have HF := Lib.hid (HBAD.out (by rw [HBD.out]; exact decide_eq_true (.inr (.inr (.inr (.inl e4))))))
        have x4 : (fk % 8 != 0) = true := by simpa using e4
        refine wp_region_junk (by kernel_rfl) (by kernel_rfl) ?_; (repeat (go_big_quiet_step (first | fail))); refine wpQuiet_nil ?_; rintro _ ⟨⟨osq5, dq5⟩, rfl⟩
        go_wp2
        go_ret
        exact ⟨by rw [HF.out]; rfl, (show Junk w _ by (exact jkc)).trans (HJ.out.trans (by (exact jkc)))⟩
      have x4 : fk % 8 = 0 := by omega
      by_cases e5 : 65535 < fl
      · have HF := Lib.hid (HBAD.out (by rw [HBD.out]; exact decide_eq_true (.inr (.inr (.inr (.inr (.inl e5)))))))
        have x5 : (65535 : Int) < (fl : Int) := by omega
        refine wp_region_junk (by kernel_rfl) (by kernel_rfl) ?_; (repeat (go_big_quiet_step (first | fail))); refine wpQuiet_nil ?_; rintro _ ⟨⟨osq5, dq5⟩, rfl⟩
        go_wp2
        go_ret
        exact ⟨by rw [HF.out]; rfl, (show Junk w _ by (exact jkc)).trans (HJ.out.trans (by (exact jkc)))⟩
      have x5 : ¬ (65535 : Int) < (fl : Int) := by omega
      have HEN := Lib.hid (fun w1 => rend_any fk fo fl fc w1 (by omega) (by omega))
      by_cases e6 : 65535 < fk + (fl : Int)
      · have HF := Lib.hid (HBAD.out (by rw [HBD.out]; exact decide_eq_true (.inr (.inr (.inr (.inr (.inr (.inl e6))))))))
        refine wp_region_junk (by kernel_rfl) (by kernel_rfl) ?_; (repeat (go_big_quiet_step (first | (go_at_call 51; first | with_reducible exact Calls.junk_of5 (HEN.out _) | with_reducible exact Calls.junk_of4 (HEN.out _) | with_reducible exact Calls.junk_of3 (HEN.out _) | with_reducible exact Calls.junk_of2 (HEN.out _) | with_reducible exact Calls.junk_of (HEN.out _))))); refine wpQuiet_nil ?_; rintro _ ⟨⟨osq5, dq5⟩, rfl⟩
        go_wp2
        go_ret
        exact ⟨by rw [HF.out]; rfl, (show Junk w _ by (exact jkc)).trans (HJ.out.trans (by (exact jkc)))⟩
      by_cases e7 : 0 ≤ b.total ∧ b.total < fk + (fl : Int)
      · have HF := Lib.hid (HBAD.out (by rw [HBD.out]; exact decide_eq_true (.inr (.inr (.inr (.inr (.inr (.inr e7))))))))
        obtain ⟨x7, x8⟩ := e7
        refine wp_region_junk (by kernel_rfl) (by kernel_rfl) ?_; (repeat (go_big_quiet_step (first | (go_at_call 51; first | with_reducible exact Calls.junk_of5 (HEN.out _) | with_reducible exact Calls.junk_of4 (HEN.out _) | with_reducible exact Calls.junk_of3 (HEN.out _) | with_reducible exact Calls.junk_of2 (HEN.out _) | with_reducible exact Calls.junk_of (HEN.out _))))); refine wpQuiet_nil ?_; rintro _ ⟨⟨osq5, dq5⟩, rfl⟩
        go_wp2
        go_ret
        exact ⟨by rw [HF.out]; rfl, (show Junk w _ by (exact jkc)).trans (HJ.out.trans (by (exact jkc)))⟩
      by_cases e8 : 0 ≤ b.total
      · have e9 : ¬ b.total < fk + (fl : Int) := by omega
        clear e7
        refine wp_region_junk (by kernel_rfl) (by kernel_rfl) ?_; (repeat (go_big_quiet_step (first | (go_at_call 51; first | with_reducible exact Calls.junk_of5 (HEN.out _) | with_reducible exact Calls.junk_of4 (HEN.out _) | with_reducible exact Calls.junk_of3 (HEN.out _) | with_reducible exact Calls.junk_of2 (HEN.out _) | with_reducible exact Calls.junk_of (HEN.out _))))); refine wpQuiet_nil ?_; rintro _ ⟨⟨osq5, dq5⟩, rfl⟩
        go_wp2_with (first | (go_at_call 51; (with_reducible refine (HEN.out _).mono ?_); rintro e w' ⟨rfl, ⟨osj, dj, rfl⟩⟩))
        exact ⟨⟨k + 1, fk + (fl : Int), by omega, rfl, by go_num, by omega, HJ.out.trans (by (exact jkc)), Lib.hid (by
          rw [HG.out, HD.out, show badRun b.total A (Ot.d ⟨fk, fo, fl, fc, fx⟩) = false from by rw [HBD.out]; exact decide_eq_false (by omega)]; rfl)⟩, by simp [intOf]; omega⟩
      · clear e7
        refine wp_region_junk (by kernel_rfl) (by kernel_rfl) ?_; (repeat (go_big_quiet_step (first | (go_at_call 51; first | with_reducible exact Calls.junk_of5 (HEN.out _) | with_reducible exact Calls.junk_of4 (HEN.out _) | with_reducible exact Calls.junk_of3 (HEN.out _) | with_reducible exact Calls.junk_of2 (HEN.out _) | with_reducible exact Calls.junk_of (HEN.out _))))); refine wpQuiet_nil ?_; rintro _ ⟨⟨osq5, dq5⟩, rfl⟩
        go_wp2_with (first | (go_at_call 51; (with_reducible refine (HEN.out _).mono ?_); rintro e w' ⟨rfl, ⟨osj, dj, rfl⟩⟩))
        exact ⟨⟨k + 1, fk + (fl : Int), by omega, rfl, by go_num, by omega, HJ.out.trans (by (exact jkc)), Lib.hid (by
          rw [HG.out, HD.out, show badRun b.total A (Ot.d ⟨fk, fo, fl, fc, fx⟩) = false from by rw [HBD.out]; exact decide_eq_false (by omega)]; rfl)⟩, by simp [intOf]; omega⟩
    · have hkn2 : ¬ (k : Int) < (n : Int) := by omega
      obtain rfl : k = n := by omega
      have HF := Lib.hid (show runsB b.q = decide (0 < k) by
        rw [HE.out, HG.out, List.drop_eq_nil_of_le (by show (b.F.map Ot.d).length ≤ k; rw [List.length_map, HN.out]; exact Nat.le_refl _)]
        rfl)
      go_wp2
      go_ret
      refine ⟨?_, (show Junk w _ by (exact jkc)).trans (HJ.out.trans (by (exact jkc)))⟩
      rw [HF.out]
      first | rfl | (simp; done) | skip
end Go.Proofs.Ytgjppmkadmfibaa
