/- The law ReasmOld: a right pool whose time goes on holds no more than ahead of it, and nothing, if it goes on by as much as a packet waits. -/
import Derived.Test.YtgjppmkadmfibaaRtL
set_option linter.unusedVariables false
set_option maxRecDepth 100000
set_option linter.unusedSimpArgs false
namespace Go.Proofs.Ytgjppmkadmfibaa
open Go.RowKit
theorem qsat_held {w : World} {oq : Option Addr} {lq cq : Nat} {Q : List Bq} (hQ : QsAt w oq lq cq Q) (ho : QsOk Q) (hl : lq ≤ 1000000) (room life now : Int) :
    Calls Try.prog 14 #[.agg #[.int .i64 room, .int .i64 life, .int .i64 now, .slice oq lq cq]] w fun e w' => e = .returned (.int .i64 (heldQ Q)) ∧ Junk w w' := by
  obtain ⟨L, h1, h2⟩ := hQ.ex
  obtain ⟨o1, o2, o3⟩ := ho.of h2
  have h3 := held_any room life now oq lq cq L w h1 (by rw [← hQ.len, ← h2, List.length_map]) hl (by omega) (fun b hb => by have := (o2 b hb).1; omega)
  rw [h2] at h3
  exact h3
theorem qsat_right {w : World} {oq : Option Addr} {lq cq : Nat} {Q : List Bq} (hQ : QsAt w oq lq cq Q) (ho : QsOk Q) (hl : lq ≤ 1000000) (room life now : Int) :
    Calls Try.prog 13 #[.agg #[.int .i64 room, .int .i64 life, .int .i64 now, .slice oq lq cq]] w fun e w' => e = .returned (.bool (rightQ room life now Q)) ∧ Junk w w' := by
  obtain ⟨L, h1, h2⟩ := hQ.ex
  obtain ⟨o1, o2, o3⟩ := ho.of h2
  have h3 := rright_any room life now oq lq cq L w h1 (by rw [← hQ.len, ← h2, List.length_map]) hl hQ.cap (by omega) (fun b hb => by have := (o2 b hb).1; omega) (fun b hb => (o2 b hb).2.1) o3
  rw [h2] at h3
  exact h3
theorem shortQ_iff {Q : List Bq} (h : shortQ Q = true) : Q.length ≤ 70 ∧ ∀ b ∈ Q, b.runs.length ≤ 40 ∧ b.head.ol ≤ 100 ∧ b.head.bl ≤ 100 ∧ ∀ f ∈ b.runs, f.l ≤ 2000 := by
  unfold shortQ at h
  rw [Bool.and_eq_true] at h
  refine ⟨of_decide_eq_true h.1, fun b hb => ?_⟩
  have h1 := List.all_eq_true.1 h.2 b hb
  unfold shortQB at h1
  simp only [Bool.and_eq_true, decide_eq_true_eq, List.all_eq_true] at h1
  exact ⟨h1.1, h1.2.1, h1.2.2.1, h1.2.2.2⟩
theorem sum_le_of {Q : List Bq} {B : Nat} (h : ∀ b ∈ Q, heldO b.runs ≤ B) : heldQ Q ≤ Q.length * B := by
  induction Q with
  | nil => simp [heldQ]
  | cons b Q ih =>
    have h1 := h b (List.mem_cons_self ..)
    have h2 := ih fun x hx => h x (List.mem_cons_of_mem _ hx)
    unfold heldQ at *
    rw [List.map_cons, List.sum_cons, List.length_cons, Nat.add_mul]
    omega
theorem heldO_le {F : List Od} {B : Nat} (h : ∀ f ∈ F, f.l ≤ B) : heldO F ≤ F.length * B := by
  induction F with
  | nil => simp [heldO]
  | cons b Q ih =>
    have h1 := h b (List.mem_cons_self ..)
    have h2 := ih fun x hx => h x (List.mem_cons_of_mem _ hx)
    unfold heldO at *
    rw [List.map_cons, List.sum_cons, List.length_cons, Nat.add_mul]
    omega
/-- A short pool may be handed over. -/
theorem short_ok {L : List Bf} (h : shortQ (L.map Bf.q) = true) (hw : ∀ b ∈ L, BfWf b) : QsOk (L.map Bf.q) := by
  obtain ⟨h1, h2⟩ := shortQ_iff h
  have hm : ∀ b ∈ L.map Bf.q, ∃ x ∈ L, x.q = b := fun b hb => List.mem_map.1 hb
  have h3 : heldQ (L.map Bf.q) ≤ (L.map Bf.q).length * (40 * 2000) := sum_le_of fun b hb => by
    obtain ⟨a1, -, -, a4⟩ := h2 b hb
    have := heldO_le a4
    have : b.runs.length * 2000 ≤ 40 * 2000 := Nat.mul_le_mul_right _ a1
    omega
  have h4 : (L.map Bf.q).length * (40 * 2000) ≤ 70 * (40 * 2000) := Nat.mul_le_mul_right _ h1
  refine ⟨by omega, fun b hb => ?_, fun b hb => ?_, fun b hb => ?_, fun b hb => ?_, fun b hb => ?_, fun b hb => ?_, fun b hb => ?_, fun b hb => ?_⟩
  · obtain ⟨a1, a2, a3, a4⟩ := h2 b hb
    exact ⟨by omega, by omega, by omega, fun f hf => by have := a4 f hf; omega⟩
  · obtain ⟨x, hx, rfl⟩ := hm b hb; exact (hw x hx).src
  · obtain ⟨x, hx, rfl⟩ := hm b hb; exact (hw x hx).dst
  · obtain ⟨x, hx, rfl⟩ := hm b hb; exact (hw x hx).id
  · obtain ⟨x, hx, rfl⟩ := hm b hb; exact (hw x hx).proto
  · obtain ⟨x, hx, rfl⟩ := hm b hb; exact (hw x hx).born
  · obtain ⟨x, hx, rfl⟩ := hm b hb; exact (hw x hx).total
  · obtain ⟨x, hx, rfl⟩ := hm b hb
    intro f hf
    obtain ⟨y, hy, rfl⟩ := List.mem_map.1 hf
    exact (hw x hx).offs y hy
theorem tick_yes {w : World} {room life now t : Int} {oa : Option Addr} {l c : Nat} {Q Q1 : List Bq} (hP : QsAt w oa l c Q) (hl2 : l ≤ 1000) (hQ : QsOk Q) (hr : rightQ room life now Q = true) (h1 : now ≤ t) (h2 : t ≤ 1099511627776) (he : tickQ life t Q = Q1) :
    Calls Try.prog 12 #[.agg #[.int .i64 room, .int .i64 life, .int .i64 now, .slice oa l c], .int .i64 t] w fun e w' => Junk w w' ∧ ∃ (ob : Option Addr) (cap : Nat), e = .returned (.tuple #[.agg #[.int .i64 room, .int .i64 life, .int .i64 t, .slice ob Q1.length cap], .int .i64 ((l - Q1.length : Nat) : Int), .int .i64 0]) ∧ QsAt w' ob Q1.length cap Q1 := by
  subst he
  refine (tick_any room life now t oa l c Q w hP hl2 hQ).mono ?_
  rintro e w' ⟨hj, ob, cap, h3⟩
  rw [hr, wiR_iff.2 ⟨h1, h2⟩, hP.len] at h3
  exact ⟨hj, ob, cap, h3⟩
set_option maxRecDepth 100000 in
set_option maxHeartbeats 16000000 in
theorem reasmOld_main (room life now : Int) (by_ : Int) (oa : Option Addr) (l c : Nat) (Q : List Bq) (w : World) (hQ : QsAt w oa l c Q) (hO : QsOk Q) (hl : l ≤ 70) (hS : ∀ w1, Junk w w1 → Calls Try.prog 15 #[.agg #[.int .i64 room, .int .i64 life, .int .i64 now, .slice oa l c]] w1 fun e w' => e = .returned (.bool true) ∧ Junk w1 w')
    (hr : rightQ room life now Q = true) (hb : 0 ≤ by_ ∧ by_ ≤ 65535) (hn : now ≤ 1099510000000) : Calls Try.prog 5 #[.agg #[.int .i64 room, .int .i64 life, .int .i64 now, .slice oa l c], .int .u16 by_] w fun e w' => e = .returned (.bool true) ∧ Junk w w' := by
  have hi := rightQ_iff.1 hr
  have b1 := hi.nw
  have b2 := hi.lf
  obtain ⟨t1, ht1⟩ : ∃ t, now + by_ = t := ⟨_, rfl⟩
  obtain ⟨t2, ht2⟩ : ∃ t, now + life = t := ⟨_, rfl⟩
  have pt1 := wrapk_i64 (now + by_) (by omega) (by omega)
  have pt2 := wrapk_i64 (now + life) (by omega) (by omega)
  have pc := wrapk_i64 by_ (by omega) (by omega)
  obtain ⟨Q1, hq1⟩ : ∃ Q1, tickQ life t1 Q = Q1 := ⟨_, rfl⟩
  have hs : Q1.Sublist Q := by rw [← hq1]; exact List.filter_sublist ..
  have hO1 := hO.sub hs
  have hle := hs.length_le
  obtain ⟨l1, hl1⟩ : ∃ l1, Q1.length = l1 := ⟨_, rfl⟩
  obtain ⟨M, hM⟩ : ∃ M, l - l1 = M := ⟨_, rfl⟩
  rw [hl1, hQ.len] at hle
  have hr1 : rightQ room life t1 Q1 = true := by rw [← hq1]; exact tickQ_right hr (by omega) (by omega)
  have HT1 := Lib.hid (fun w1 (hj : Junk w w1) => tick_yes (hQ.on hj) (by omega) hO hr (show now ≤ t1 by omega) (by omega) hq1)
  have HT2 := Lib.hid (fun w1 (hj : Junk w w1) => tick_yes (hQ.on hj) (by omega) hO hr (show now ≤ t2 by omega) (by omega) (tickQ_all hi (by omega)))
  rw [hl1, hM] at HT1
  rw [List.length_nil, Nat.sub_zero] at HT2
  have HR := Lib.hid (fun w1 (hj : Junk w w1) => show Calls Try.prog 13 #[.agg #[.int .i64 room, .int .i64 life, .int .i64 now, .slice oa l c]] w1 fun e w' => e = .returned (.bool true) ∧ Junk w1 w' from hr ▸ qsat_right (hQ.on hj) hO (by omega) room life now)
  obtain ⟨A, hA⟩ : ∃ A, heldQ Q = A := ⟨_, rfl⟩
  obtain ⟨B, hB⟩ : ∃ B, heldQ Q1 = B := ⟨_, rfl⟩
  have hAB : B ≤ A := by rw [← hA, ← hB]; exact heldQ_sub hs
  have HH := Lib.hid (fun w1 (hj : Junk w w1) => show Calls Try.prog 14 #[.agg #[.int .i64 room, .int .i64 life, .int .i64 now, .slice oa l c]] w1 fun e w' => e = .returned (.int .i64 (A : Int)) ∧ Junk w1 w' from hA ▸ qsat_held (hQ.on hj) hO (by omega) room life now)
  have hle2 : decide ((B : Int) ≤ (A : Int)) = true := decide_eq_true (by omega)
  have hle3 : (B : Int) ≤ (A : Int) := by omega
  have hm2 : ((M : Int) == (l : Int) - (l1 : Int)) = true := by simp; omega
  have pm := wrapk_i64 ((l : Int) - (l1 : Int)) (by omega) (by omega)
  have hnn : decide ((1099510000000 : Int) < now) = false := decide_eq_false (by omega)
  have HS := Lib.hid hS
  have HO1 := Lib.hid (And.intro hO1 (And.intro hB (And.intro hr1 (show l1 ≤ 1000000 by omega))))
  rw [ht1] at pt1
  rw [ht2] at pt2
  have pu1 : IntKind.i64.wrap (now + by_) = t1 := by rw [ht1]; exact pt1
  have pu2 : IntKind.i64.wrap (now + life) = t2 := by rw [ht2]; exact pt2
  have pv1 : RowKit.wrap64 (now + by_) = t1 := (IntWalk.i64_left _).symm.trans pu1
  have pv2 : RowKit.wrap64 (now + life) = t2 := (IntWalk.i64_left _).symm.trans pu2
  clear hQ hO hS hr hi b1 b2 hs hO1 hl1 hr1 hle hM hA hB hAB hq1 hl hn hb
  clear ht1 ht2
  go_enter Try.func5, Try.ntmps5
  go_upto_region 7 with (first
    | (go_at_call 7; (with_reducible refine (awake7_any _).mono ?_); rintro e w' ⟨rfl, ⟨osj, dj, rfl⟩⟩)
    | (go_at_call 15; (with_reducible refine (HS.out _ (by (exact jkc))).mono ?_); rintro e w' ⟨rfl, ⟨osj2, dj2, rfl⟩⟩)
    | (go_at_call 13; (with_reducible refine (HR.out _ (by (exact jkc))).mono ?_); rintro e w' ⟨rfl, ⟨osj3, dj3, rfl⟩⟩)
    | (go_at_call 12; (with_reducible refine (HT1.out _ (by (exact jkc))).mono ?_); rintro e w' ⟨⟨osj4, dj4, rfl⟩, ob1, cap1, rfl, hq1⟩; have HQ1 := Lib.hid hq1; clear hq1)
    | (go_at_call 12; (with_reducible refine (HT2.out _ (by (exact jkc))).mono ?_); rintro e w' ⟨⟨osj5, dj5, rfl⟩, ob2, cap2, rfl, hq2⟩; have HQ2 := Lib.hid hq2; clear hq2))
  have HHn := Lib.hid (fun w1 hj => show Calls Try.prog 14 #[.agg #[.int .i64 room, .int .i64 life, .int .i64 t1, .slice ob1 l1 cap1]] w1 fun e w' => e = .returned (.int .i64 (B : Int)) ∧ Junk w1 w' from HO1.out.2.1 ▸ qsat_held (HQ1.out.on hj) HO1.out.1 HO1.out.2.2.2 room life t1)
  have HRn := Lib.hid (fun w1 hj => show Calls Try.prog 13 #[.agg #[.int .i64 room, .int .i64 life, .int .i64 t1, .slice ob1 l1 cap1]] w1 fun e w' => e = .returned (.bool true) ∧ Junk w1 w' from HO1.out.2.2.1 ▸ qsat_right (HQ1.out.on hj) HO1.out.1 HO1.out.2.2.2 room life t1)
  have HHm := Lib.hid (fun w1 hj => show Calls Try.prog 14 #[.agg #[.int .i64 room, .int .i64 life, .int .i64 t2, .slice ob2 0 cap2]] w1 fun e w' => e = .returned (.int .i64 0) ∧ Junk w1 w' from qsat_held (HQ2.out.on hj) awNil_ok (by omega) room life t2)
  clear HQ1 HQ2 HO1 HT1 HT2 HS pu1 pu2 pv1 pv2 pt1 pt2 pc
  refine wp_region_junk (by kernel_rfl) (by kernel_rfl) ?_; (repeat (go_big_quiet_step (first | (go_at_call 14; with_reducible exact Calls.jc (HH.out _ (by (exact jkc)))) | (go_at_call 14; with_reducible exact Calls.jc (HHn.out _ (by (exact jkc)))) | (go_at_call 14; with_reducible exact Calls.jc (HHm.out _ (by (exact jkc)))) | (go_at_call 13; with_reducible exact Calls.jc (HRn.out _ (by (exact jkc))))))); refine wpQuiet_nil ?_; rintro _ ⟨⟨osq, dq⟩, rfl⟩
  go_wp2
  go_ret
  exact ⟨rfl, by (exact jkc)⟩
set_option maxHeartbeats 4000000 in
theorem reasmOld_walk (room life now by_ : Int) (oa : Option Addr) (l c : Nat) (L : List Bf) (w : World) (hP : PlAt w oa L) (hl : L.length = l) (hlc : l ≤ c) (hn : oa = none → l = 0 ∧ c = 0) (hw : ∀ b ∈ L, BfWf b) (hb : 0 ≤ by_ ∧ by_ ≤ 65535) :
    Calls Try.prog 5 #[.agg #[.int .i64 room, .int .i64 life, .int .i64 now, .slice oa l c], .int .u16 by_] w fun e w' => e = .returned (.bool true) ∧ Junk w w' := by
  cases hS : shortQ (L.map Bf.q) with
  | false =>
    have HS := Lib.hid (fun w1 (hj : Junk w w1) => show Calls Try.prog 15 #[.agg #[.int .i64 room, .int .i64 life, .int .i64 now, .slice oa l c]] w1 fun e w' => e = .returned (.bool false) ∧ Junk w1 w' from hS ▸ short7_any room life now oa l c L w1 (hP.on hj) hl)
    clear hP hl hlc hn hw hb hS
    go_enter Try.func5, Try.ntmps5
    go_wp2_with (first
      | (go_at_call 7; (with_reducible refine (awake7_any _).mono ?_); rintro e w' ⟨rfl, ⟨osj, dj, rfl⟩⟩)
      | (go_at_call 15; (with_reducible refine (HS.out _ (by (exact jkc))).mono ?_); rintro e w' ⟨rfl, ⟨osj2, dj2, rfl⟩⟩))
    go_ret
    exact ⟨rfl, by (exact jkc)⟩
  | true =>
    have hO := short_ok hS hw
    have hQ : QsAt w oa l c (L.map Bf.q) := ⟨⟨L, hP, rfl⟩, by rw [List.length_map, hl], hlc, hn⟩
    have h70 : l ≤ 70 := by have := (shortQ_iff hS).1; rw [List.length_map, hl] at this; exact this
    have HS := Lib.hid (fun w1 (hj : Junk w w1) => show Calls Try.prog 15 #[.agg #[.int .i64 room, .int .i64 life, .int .i64 now, .slice oa l c]] w1 fun e w' => e = .returned (.bool true) ∧ Junk w1 w' from hS ▸ short7_any room life now oa l c L w1 (hP.on hj) hl)
    cases hr : rightQ room life now (L.map Bf.q) with
    | false =>
      have HR := Lib.hid (fun w1 (hj : Junk w w1) => show Calls Try.prog 13 #[.agg #[.int .i64 room, .int .i64 life, .int .i64 now, .slice oa l c]] w1 fun e w' => e = .returned (.bool false) ∧ Junk w1 w' from hr ▸ qsat_right (hQ.on hj) hO (by omega) room life now)
      clear hP hl hlc hn hw hb hS hr hO hQ h70
      go_enter Try.func5, Try.ntmps5
      go_wp2_with (first
        | (go_at_call 7; (with_reducible refine (awake7_any _).mono ?_); rintro e w' ⟨rfl, ⟨osj, dj, rfl⟩⟩)
        | (go_at_call 15; (with_reducible refine (HS.out _ (by (exact jkc))).mono ?_); rintro e w' ⟨rfl, ⟨osj2, dj2, rfl⟩⟩)
        | (go_at_call 13; (with_reducible refine (HR.out _ (by (exact jkc))).mono ?_); rintro e w' ⟨rfl, ⟨osj3, dj3, rfl⟩⟩))
      go_ret
      exact ⟨rfl, by (exact jkc)⟩
    | true =>
      by_cases hnow : now ≤ 1099510000000
      · exact reasmOld_main room life now by_ oa l c _ w hQ hO h70 HS.out hr hb hnow
      · have HR := Lib.hid (fun w1 (hj : Junk w w1) => show Calls Try.prog 13 #[.agg #[.int .i64 room, .int .i64 life, .int .i64 now, .slice oa l c]] w1 fun e w' => e = .returned (.bool true) ∧ Junk w1 w' from hr ▸ qsat_right (hQ.on hj) hO (by omega) room life now)
        have hnn : decide ((1099510000000 : Int) < now) = true := decide_eq_true (by omega)
        have hnn2 : (1099510000000 : Int) < now := by omega
        clear hP hl hlc hn hw hb hS hr hO hQ h70 hnow
        go_enter Try.func5, Try.ntmps5
        go_wp2_with (first
          | (go_at_call 7; (with_reducible refine (awake7_any _).mono ?_); rintro e w' ⟨rfl, ⟨osj, dj, rfl⟩⟩)
          | (go_at_call 15; (with_reducible refine (HS.out _ (by (exact jkc))).mono ?_); rintro e w' ⟨rfl, ⟨osj2, dj2, rfl⟩⟩)
          | (go_at_call 13; (with_reducible refine (HR.out _ (by (exact jkc))).mono ?_); rintro e w' ⟨rfl, ⟨osj3, dj3, rfl⟩⟩))
        go_ret
        exact ⟨rfl, by (exact jkc)⟩
theorem reasmOld_core (W : World) (base : Nat) (v0 v1 : Value) (a0 : Arg Try.prog W base 31 v0) (a1 : Arg Try.prog W base 47 v1) :
    Calls Try.prog 5 #[v0, v1] W fun e W' => e = .returned (.bool true) ∧ Junk W W' := by
  obtain ⟨cs_p, rfl, h_p⟩ := a0.struct Try.underlying31
  obtain ⟨hl_p, hf_p⟩ := h_p.fields1 Try.underlying31 (by kernel_rfl) (n := 4) (by kernel_rfl)
  obtain ⟨p_Room, lp0, e_p0⟩ : ∃ x l, cs_p = x :: l := by cases cs_p with | nil => simp at hl_p | cons x l => exact ⟨x, l, rfl⟩
  subst e_p0
  obtain ⟨p_Life, lp1, e_p1⟩ : ∃ x l, lp0 = x :: l := by cases lp0 with | nil => simp at hl_p | cons x l => exact ⟨x, l, rfl⟩
  subst e_p1
  obtain ⟨p_Now, lp2, e_p2⟩ : ∃ x l, lp1 = x :: l := by cases lp1 with | nil => simp at hl_p | cons x l => exact ⟨x, l, rfl⟩
  subst e_p2
  obtain ⟨p_List, lp3, e_p3⟩ : ∃ x l, lp2 = x :: l := by cases lp2 with | nil => simp at hl_p | cons x l => exact ⟨x, l, rfl⟩
  subst e_p3
  obtain rfl : lp3 = [] := by simpa using hl_p
  have f_p0 : Cells Try.prog W 3 [p_Room] := hf_p 0 _ rfl
  have f_p1 : Cells Try.prog W 3 [p_Life] := hf_p 1 _ rfl
  have f_p2 : Cells Try.prog W 3 [p_Now] := hf_p 2 _ rfl
  have f_p3 : Cells Try.prog W 29 [p_List] := hf_p 3 _ rfl
  clear hf_p hl_p
  obtain ⟨p_Room, e_p_Room, w_p_Room⟩ := f_p0.int Try.underlying3; cases e_p_Room
  obtain ⟨p_Life, e_p_Life, w_p_Life⟩ := f_p1.int Try.underlying3; cases e_p_Life
  obtain ⟨p_Now, e_p_Now, w_p_Now⟩ := f_p2.int Try.underlying3; cases e_p_Now
  obtain ⟨p_List_a, p_List_l, p_List_c, p_List, e_p_List, lc_p_List, cm_p_List, S_p_List, r_p_List⟩ := f_p3.slice Try.underlying29 (Nat.lt_of_lt_of_eq (by decide : 0 < 19) (by kernel_rfl)); cases e_p_List
  obtain ⟨by_, rfl, w_by_⟩ := a1.int Try.underlying47
  obtain ⟨L, hL, hP, hw⟩ := bfs_of S_p_List r_p_List
  exact reasmOld_walk p_Room p_Life p_Now by_ p_List_a p_List_l p_List_c L W hP hL lc_p_List (Cells.nil_slice Try.underlying29 f_p3) hw (bounds_u16 w_by_)
set_option maxRecDepth 100000 in
theorem reasmOld_lifted (os : Os) (started : os.Started) (H : Type) (enc : TypeId × Value → H) :
    ReturnsInHanded {} Try.checked os 5 .any (Rows.reasmOldSpec.pre6 enc Try.prog Try.f5 Rows.reasmOldRow.domain false) (Rows.reasmOldSpec.post enc Try.prog Try.f5 false true false false) := by
  refine returnsInHanded_of_change (C := Try.checked) (by kernel_rfl) started (by kernel_rfl) Try.func5
    (ChangeSpec.witness6 (enc := enc) (C := Try.checked) false ⟨#[], #[.agg #[.int .i64 0, .int .i64 0, .int .i64 0, .slice none 0 0], .int .u16 0], []⟩ 8 (by kernel_rfl) (by kernel_rfl) (by kernel_rfl) (by kernel_rfl)) ?_
  intro W base args ds gs before hval hW _ _
  obtain ⟨p, q, hA, _, _, _, _⟩ := id hW
  have hargs : Args Try.prog W base Try.f5.params.toList args.toList := args_of (fun j t v h1 h2 => hval j t v (by simpa using h1) (by simpa using h2)) hA
  rw [Try.params5] at hargs
  obtain ⟨v0, l0, e0, a0, r0⟩ := args_cons hargs
  obtain ⟨v1, l1, e1, a1, r1⟩ := args_cons r0
  have hn := args_nil r1
  have he : args = #[v0, v1] := by
    apply Array.ext'
    simp only [e0, e1, hn]
  subst he
  exact (reasmOld_core W base v0 v1 a0 a1).mono fun e W' ⟨he, hj⟩ => ⟨_, he, post_true (tb := 4) (by kernel_rfl) (by kernel_rfl) rfl (by kernel_rfl) rfl hW (fun hg hl => by
    subst hg
    match ds, hl with
    | [_, _], _ => exact ⟨rfl, rfl, rfl⟩) hj⟩
theorem reasmOld_holds : Rows.ReasmOldSaid :=
  OpenClaim.holds_of_wide 5 Try.f5 rfl rfl rfl rfl rfl rfl rfl ⟨rfl, rfl, rfl, rfl, rfl⟩ rfl rfl rfl rfl rfl (by kernel_rfl) Try.func5 (by kernel_rfl)
    (of_decide_eq_true (by kernel_rfl)) (by unfold Func.isWrapper; rw [if_neg (of_decide_eq_false (by kernel_rfl))]; exact ⟨rfl, rfl⟩)
    (fun os started H enc _ => reasmOld_lifted os started H enc)

end Go.Proofs.Ytgjppmkadmfibaa
