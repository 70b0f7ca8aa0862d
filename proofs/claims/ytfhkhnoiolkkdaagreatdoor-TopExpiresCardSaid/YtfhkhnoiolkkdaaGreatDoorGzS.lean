/- slices.Clone of routes, rules, no forwards; mac.Turn of an empty ring. -/
import Derived.Test.YtfhkhnoiolkkdaaGreatDoorXfO
import Derived.Test.YtfhkhnoiolkkdaaGreatDoorGzC
import Derived.Test.YtfhkhnoiolkkdaaGreatDoorXnA
set_option linter.unusedVariables false
set_option maxRecDepth 100000
set_option linter.unusedSimpArgs false
namespace Go.Proofs.YtfhkhnoiolkkdaaGreatDoor
open Go.RowKit Go.Ix
structure FlOk (f : Fl) : Prop where
  tw : TupW f.there
  tr : tupRight f.there = true
  bw : TupW f.back
  br : tupRight f.back = true
  ne : f.back ≠ f.there
  t0 : 0 ≤ f.till
  t1 : f.till ≤ 1099511627776
theorem FlOk.tb {f : Fl} (h : FlOk f) : TbOk (T2 f.there 0 f.back 1) := T2_ok h.tw h.tr h.bw h.br h.ne
variable {w : World} {s sl tb tc wh mp li lc c : Nat} {oa : Option Addr} {f : Fl} {now : Int}
theorem FS0.at (h : FS0 w s sl tb tc wh mp oa c now) : TbAt w tb T0 := TbAt.own h.bt (by decide)
theorem FS1.at (h : FS1 w s sl tb tc wh mp li lc f now) : TbAt w tb (T2 f.there 0 f.back 1) := TbAt.own h.bt (by decide)
theorem T0_no (k : Tup) : (findT hN T0 k).2 = false := by rw [T0_find]
set_option maxHeartbeats 1000000 in
theorem known0 (k : Tup) (w : World) (h : FS0 w s sl tb tc wh mp oa c now) (hk : TupW k) : Calls Tryz.prog 293 #[.pointer (some ⟨s, 0, none⟩), .agg #[.int .i64 k.proto, .int .u32 k.src, .int .i64 k.sport, .int .u32 k.dst, .int .i64 k.dport]] w fun e w' => e = .returned (.bool false) ∧ Junk w w' := by
  have z1 := h.bs.cell (j := 1) rfl
  have zs := h.bs.lt
  have HG := Lib.hid (fun w1 (hj : Junk w w1) => iget_none T0 k tb tc w1 T0_ok hk (h.at.on hj) (T0_no k))
  clear h hk
  go_enter Tryz.func293, Tryz.ntmps293
  go_wp2
  refine wp_region_junk (by kernel_rfl) (by kernel_rfl) ?_; (repeat (go_big_quiet_step (first | (go_at_call 135; with_reducible exact Calls.jc (HG.out _ (by (exact jkc))))))); refine wpQuiet_nil ?_; rintro _ ⟨⟨osq, dq⟩, rfl⟩
  go_wp2
  go_ret
  exact ⟨rfl, by (exact jkc)⟩
set_option maxHeartbeats 1000000 in
theorem ffind0 (k : Tup) (w : World) (h : FS0 w s sl tb tc wh mp oa c now) (hk : TupW k) : Calls Tryz.prog 79 #[.pointer (some ⟨s, 0, none⟩), .agg #[.int .i64 k.proto, .int .u32 k.src, .int .i64 k.sport, .int .u32 k.dst, .int .i64 k.dport]] w fun e w' => e = .returned (.tuple #[.int .i64 0, .bool false, .bool false]) ∧ Junk w w' := by
  have z1 := h.bs.cell (j := 1) rfl
  have zs := h.bs.lt
  have HG := Lib.hid (fun w1 (hj : Junk w w1) => iget_none T0 k tb tc w1 T0_ok hk (h.at.on hj) (T0_no k))
  clear h hk
  go_enter Tryz.func79, Tryz.ntmps79
  go_wp2
  refine wp_region_junk (by kernel_rfl) (by kernel_rfl) ?_; (repeat (go_big_quiet_step (first | (go_at_call 135; with_reducible exact Calls.jc (HG.out _ (by (exact jkc))))))); refine wpQuiet_nil ?_; rintro _ ⟨⟨osq, dq⟩, rfl⟩
  go_wp2
  go_returns
  exact ⟨rfl, by (exact jkc)⟩
set_option maxHeartbeats 1000000 in
theorem ffind_back (k : Tup) (w : World) (h : FS1 w s sl tb tc wh mp li lc f now) (hf : FlOk f) (hk : k = f.back) : Calls Tryz.prog 79 #[.pointer (some ⟨s, 0, none⟩), .agg #[.int .i64 k.proto, .int .u32 k.src, .int .i64 k.sport, .int .u32 k.dst, .int .i64 k.dport]] w fun e w' => e = .returned (.tuple #[.int .i64 0, .bool true, .bool true]) ∧ Junk w w' := by
  have z1 := h.bs.cell (j := 1) rfl
  have zs := h.bs.lt
  have HG := Lib.hid (fun w1 (hj : Junk w w1) => iget_some (T2 f.there 0 f.back 1) k tb tc 1 w1 hf.tb (by rw [hk]; exact hf.bw) (h.at.on hj) ((T2_has hf.tw hf.tr hf.br hf.ne k 1).2 (.inr ⟨hk, rfl⟩)))
  clear h hk hf
  go_enter Tryz.func79, Tryz.ntmps79
  go_wp2
  refine wp_region_junk (by kernel_rfl) (by kernel_rfl) ?_; (repeat (go_big_quiet_step (first | (go_at_call 135; with_reducible exact Calls.jc (HG.out _ (by (exact jkc))))))); refine wpQuiet_nil ?_; rintro _ ⟨⟨osq, dq⟩, rfl⟩
  go_wp2
  go_returns
  exact ⟨rfl, by (exact jkc)⟩
theorem fthere1 (w : World) (h : FS1 w s sl tb tc wh mp li lc f now) : Calls Tryz.prog 90 #[.pointer (some ⟨s, 0, none⟩), .int .i64 0] w fun e w' => e = .returned (.bool true) ∧ Junk w w' := by
  have z0 := h.bs.cell (j := 0) rfl
  have zs := h.bs.lt
  have y0 := (sl_flow h.bl).1
  have ys := h.bl.lt
  clear h
  go_enter Tryz.func90, Tryz.ntmps90
  go_wp2
  go_ret
  exact ⟨rfl, by (exact jkc)⟩
theorem fthere_no (n : Nat) (w : World) (hs : s < w.heap.size) (h0 : w.cell? ⟨s, 0, none⟩ = some (.slice (some ⟨sl, 0, none⟩) 256 256)) (hl : sl < w.heap.size) (hc : w.cell? ⟨sl, n * 13, none⟩ = some (.bool false)) (hn : n < 256) : Calls Tryz.prog 90 #[.pointer (some ⟨s, 0, none⟩), .int .i64 (n : Int)] w fun e w' => e = .returned (.bool false) ∧ Junk w w' := by
  have n1 : (n : Int) < 256 := by omega
  go_enter Tryz.func90, Tryz.ntmps90
  go_wp2
  go_ret
  exact ⟨rfl, by (exact jkc)⟩
set_option maxHeartbeats 1000000 in
theorem fget1 (w : World) (h : FS1 w s sl tb tc wh mp li lc f now) : Calls Tryz.prog 36 #[.pointer (some ⟨s, 0, none⟩), .int .i64 0] w fun e w' => e = .returned (.tuple #[.agg #[.int .i64 f.there.proto, .int .u32 f.there.src, .int .i64 f.there.sport, .int .u32 f.there.dst, .int .i64 f.there.dport, .int .i64 f.back.proto, .int .u32 f.back.src, .int .i64 f.back.sport, .int .u32 f.back.dst, .int .i64 f.back.dport, .int .i64 f.till, .int .i64 f.note], .bool true]) ∧ Junk w w' := by
  have z0 := h.bs.cell (j := 0) rfl
  have zs := h.bs.lt
  obtain ⟨y0, y1, y2, y3, y4, y5, y6, y7, y8, y9, y10, y11, y12⟩ := sl_flow h.bl
  have ys := h.bl.lt
  have HT := Lib.hid (fun w1 (hj : Junk w w1) => fthere1 w1 (h.on hj))
  clear h
  go_enter Tryz.func36, Tryz.ntmps36
  go_wp2_with (first | (go_at_call 90; (with_reducible refine (HT.out _ (by (exact jkc))).mono ?_); rintro e w' ⟨rfl, ⟨osg, dg, rfl⟩⟩))
  go_returns
  exact ⟨rfl, by (exact jkc)⟩
set_option maxHeartbeats 1000000 in
theorem fget_no (n : Nat) (w : World) (hs : s < w.heap.size) (h0 : w.cell? ⟨s, 0, none⟩ = some (.slice (some ⟨sl, 0, none⟩) 256 256)) (hl : sl < w.heap.size) (hc : w.cell? ⟨sl, n * 13, none⟩ = some (.bool false)) (hn : n < 256) : Calls Tryz.prog 36 #[.pointer (some ⟨s, 0, none⟩), .int .i64 (n : Int)] w fun e w' => e = .returned (.tuple #[.agg fl0.toArray, .bool false]) ∧ Junk w w' := by
  have HT := Lib.hid (fun w1 (hj : Junk w w1) => fthere_no n w1 (Nat.lt_of_lt_of_le hs hj.size) (((hj.below (Nat.le_refl _)).cell hs).trans h0) (Nat.lt_of_lt_of_le hl hj.size) (((hj.below (Nat.le_refl _)).cell hl).trans hc) hn)
  clear hs h0 hl hc hn
  go_enter Tryz.func36, Tryz.ntmps36
  go_wp2_with (first | (go_at_call 90; (with_reducible refine (HT.out _ (by (exact jkc))).mono ?_); rintro e w' ⟨rfl, ⟨osg, dg, rfl⟩⟩))
  go_returns
  exact ⟨rfl, by (exact jkc)⟩
end Go.Proofs.YtfhkhnoiolkkdaaGreatDoor
set_option linter.unusedVariables false
set_option maxRecDepth 100000
set_option linter.unusedSimpArgs false
namespace Go.Proofs.YtfhkhnoiolkkdaaGreatDoor
open Go.RowKit Go.Ix
set_option maxHeartbeats 1000000 in
theorem fall0 (s sl tb tc wh mp : Nat) (oa : Option Addr) (c : Nat) (now : Int) (w : World) (h : FS0 w s sl tb tc wh mp oa c now) :
    Calls Tryz.prog 37 #[.pointer (some ⟨s, 0, none⟩)] w fun e w' => e = .returned (.slice none 0 0) ∧ Junk w w' := by
  have HL := Lib.hid h.bl
  have z0 := h.bs.cell (j := 0) rfl
  have zs := h.bs.lt
  clear h
  go_enter Tryz.func37, Tryz.ntmps37
  go_wp2
  go_loopw [3, 13] (fun o i wr => ∃ n : Nat, o = .slice none 0 0 ∧ i = .int .i64 (n : Int) ∧ n ≤ 256 ∧ Junk w wr) (fun _ i _ => 257 - (intOf i).toNat)
  case atStart => exact ⟨0, rfl, rfl, by omega, by (exact jkc)⟩
  case round =>
    obtain ⟨n, rfl, rfl, hn, ⟨os, d, rfl⟩⟩ := hrel
    by_cases hlt : n < 256
    case neg =>
      have h2 : ¬ (n : Int) < 256 := by omega
      go_wp2
      go_ret
      exact ⟨rfl, by (exact jkc)⟩
    have hlt2 : (n : Int) < 256 := by omega
    obtain ⟨y0, y1, y2, y3, y4, y5, y6, y7, y8, y9, y10, y11, y12⟩ := sl_free HL.out hlt (fun _ => rfl)
    have yl := HL.out.lt
    go_wp2
    exact ⟨⟨n + 1, rfl, by go_num, by omega, by (exact jkc)⟩, by simp [intOf]; omega⟩
set_option maxHeartbeats 2000000 in
theorem fall1 (s sl tb tc wh mp li lc : Nat) (f : Fl) (now : Int) (w : World) (h : FS1 w s sl tb tc wh mp li lc f now) :
    Calls Tryz.prog 37 #[.pointer (some ⟨s, 0, none⟩)] w fun e w' => ∃ oa c, e = .returned (.slice oa 1 c) ∧ Junk w w' ∧ Own w.heap.size w' 50 12 oa c 1 [.int .i64 f.there.proto, .int .u32 f.there.src, .int .i64 f.there.sport, .int .u32 f.there.dst, .int .i64 f.there.dport, .int .i64 f.back.proto, .int .u32 f.back.src, .int .i64 f.back.sport, .int .u32 f.back.dst, .int .i64 f.back.dport, .int .i64 f.till, .int .i64 f.note] := by
  have HL := Lib.hid h.bl
  have z0 := h.bs.cell (j := 0) rfl
  have zs := h.bs.lt
  clear h
  go_enter Tryz.func37, Tryz.ntmps37
  go_wp2
  go_loopw [3, 13] (fun o i wr => ∃ n : Nat, ((n = 0 ∧ o = .slice none 0 0) ∨ (1 ≤ n ∧ ∃ oa c, o = .slice oa 1 c ∧ Hid (Own w.heap.size wr 50 12 oa c 1 [.int .i64 f.there.proto, .int .u32 f.there.src, .int .i64 f.there.sport, .int .u32 f.there.dst, .int .i64 f.there.dport, .int .i64 f.back.proto, .int .u32 f.back.src, .int .i64 f.back.sport, .int .u32 f.back.dst, .int .i64 f.back.dport, .int .i64 f.till, .int .i64 f.note]))) ∧ i = .int .i64 (n : Int) ∧ n ≤ 256 ∧ Junk w wr) (fun _ i _ => 257 - (intOf i).toNat)
  case atStart => exact ⟨0, .inl ⟨rfl, rfl⟩, rfl, by omega, by (exact jkc)⟩
  case round =>
    obtain ⟨n, ho, rfl, hn, ⟨os, d, rfl⟩⟩ := hrel
    rcases ho with ⟨rfl, rfl⟩ | ⟨hn1, oa, c, rfl, HO⟩
    · obtain ⟨y0, y1, y2, y3, y4, y5, y6, y7, y8, y9, y10, y11, y12⟩ := sl_flow HL.out
      have yl := HL.out.lt
      go_wp2_with (first
        | (at_builtin; (refine ap_own (W0 := w) rfl _ _ 44 rfl 50 (.agg #[.int .i64 0, .int .u32 0, .int .i64 0, .int .u32 0, .int .i64 0, .int .i64 0, .int .u32 0, .int .i64 0, .int .u32 0, .int .i64 0, .int .i64 0, .int .i64 0]) 12 96 (by kernel_rfl) rfl (by decide) Tryz.underlying44 (by (exact jkc)) _ 0 0 [] rfl (Own.nil _ _ _ _) _ 1 1 rfl [.int .i64 f.there.proto, .int .u32 f.there.src, .int .i64 f.there.sport, .int .u32 f.there.dst, .int .i64 f.there.dport, .int .i64 f.back.proto, .int .u32 f.back.src, .int .i64 f.back.sport, .int .u32 f.back.dst, .int .i64 f.back.dport, .int .i64 f.till, .int .i64 f.note] rfl (built_cells (by simp)) (fun h => by cases h) (by simp [Value.oneCell']) (by simp only [maxLen]; omega) (by omega) ?_; intro oa1 cap1 os1 d1 hown _; have HO := Lib.hid hown; clear hown)))
      refine ⟨⟨1, .inr ⟨by omega, oa1, cap1, rfl, Lib.hid ?_⟩, by go_num, by omega, by (exact jkc)⟩, by simp [intOf]⟩
      have ho := HO.out
      rw [List.nil_append, Nat.zero_add] at ho
      exact ho.on (by (exact jkc))
    · by_cases hlt : n < 256
      case neg =>
        have h2 : ¬ (n : Int) < 256 := by omega
        go_wp2
        go_ret
        exact ⟨oa, c, rfl, by (exact jkc), HO.out.on (by (exact jkc))⟩
      have hlt2 : (n : Int) < 256 := by omega
      obtain ⟨y0, y1, y2, y3, y4, y5, y6, y7, y8, y9, y10, y11, y12⟩ := sl_free HL.out hlt (fun e => by omega)
      have yl := HL.out.lt
      go_wp2
      exact ⟨⟨n + 1, .inr ⟨by omega, oa, c, rfl, Lib.hid (HO.out.on (by (exact jkc)))⟩, by go_num, by omega, by (exact jkc)⟩, by simp [intOf]; omega⟩
end Go.Proofs.YtfhkhnoiolkkdaaGreatDoor
set_option linter.unusedVariables false
set_option maxRecDepth 100000
set_option linter.unusedSimpArgs false
namespace Go.Proofs.YtfhkhnoiolkkdaaGreatDoor
open Go.RowKit
def pxs : Nat → Int := fun i => (takenL [] 17)[i]?.getD 0
theorem tb0 (n : Nat) : takenB 5000 5100 pxs 0 n = false := by unfold takenB; simp
def PtOk (P wish : Int) : Prop := (5000 ≤ P ∧ P ≤ 5100) ∧ (5000 ≤ wish ∧ wish ≤ 5100 → P = wish)
theorem choose_in (wish : Int) (h : 0 ≤ wish) : ∃ P : Int, poolChoose 5000 5100 pxs 0 wish 0 = (P, true) ∧ PtOk P wish := by
  have hr : rightB 5000 5100 = true := by decide
  unfold poolChoose
  rw [if_neg (by rw [hr]; decide)]
  by_cases hw : 5000 ≤ wish ∧ wish ≤ 5100
  · rw [if_pos ⟨hw.1, hw.2, tb0 _⟩]
    exact ⟨wish, rfl, hw, fun _ => rfl⟩
  · rw [if_neg (fun h => hw ⟨h.1, h.2.1⟩)]
    have hp : firstP (5000 : Int).toNat wish = 5000 ∨ firstP (5000 : Int).toNat wish = 5001 := by
      unfold firstP
      split <;> simp
    rcases hp with e | e <;> rw [e]
    · have h1 : (poolL 5000 5100 pxs 0 2 5000).length = 51 := by decide +kernel
      have h2 : (poolL 5000 5100 pxs 0 2 5000)[0]?.getD 0 = 5000 := by decide +kernel
      rw [h1, if_pos (by decide)]
      exact ⟨5000, by rw [show 0 % 51 = 0 from rfl, h2]; rfl, by decide, fun h => absurd h hw⟩
    · have h1 : (poolL 5000 5100 pxs 0 2 5001).length = 50 := by decide +kernel
      have h2 : (poolL 5000 5100 pxs 0 2 5001)[0]?.getD 0 = 5001 := by decide +kernel
      rw [h1, if_pos (by decide)]
      exact ⟨5001, by rw [show 0 % 50 = 0 from rfl, h2]; rfl, by decide, fun h => absurd h hw⟩
theorem ask_first (inn wish till : Int) (h0 : 0 ≤ wish) (h1 : wish ≤ 65535) (t0 : 0 ≤ till) (t1 : till ≤ 1099511627776) : ∃ P : Int, askP 5000 5100 [] ⟨17, inn, wish, 0, till⟩ 0 = ([⟨17, inn, wish, P, till⟩], P, 0) ∧ PtOk P wish := by
  obtain ⟨P, hP, p0⟩ := choose_in wish h0
  refine ⟨P, ?_, p0⟩
  have hn : namedB ⟨17, inn, wish, 0, till⟩ = true := by simp [namedB, withinN]; omega
  have hr : natRight 5000 5100 [] = true := by simp [natRight]; decide
  unfold askP
  rw [if_neg (by rw [hr, hn]; decide)]
  rw [show ([] : List Ln).findIdx? (innerB ⟨17, inn, wish, 0, till⟩) = none from rfl]
  show (if (poolChoose 5000 5100 pxs 0 wish 0).2 = true then ([⟨17, inn, wish, (poolChoose 5000 5100 pxs 0 wish 0).1, till⟩], (poolChoose 5000 5100 pxs 0 wish 0).1, 0) else ([], 0, 8)) = ([(⟨17, inn, wish, P, till⟩ : Ln)], P, (0 : Int))
  rw [hP, if_pos rfl]
theorem ask_again (inn wish P t till : Int) (h0 : 0 ≤ wish) (h1 : wish ≤ 65535) (p0 : 5000 ≤ P) (p1 : P ≤ 5100) (t0 : 0 ≤ t) (ht : t ≤ till) (t1 : till ≤ 1099511627776) : askP 5000 5100 [⟨17, inn, wish, P, t⟩] ⟨17, inn, wish, 0, till⟩ 0 = ([⟨17, inn, wish, P, till⟩], P, 0) := by
  have hn : namedB ⟨17, inn, wish, 0, till⟩ = true := by simp [namedB, withinN]; omega
  have hk : lnOk 5000 5100 [⟨17, inn, wish, P, t⟩] 0 ⟨17, inn, wish, P, t⟩ = true := by simp [lnOk, namedB, withinN]; omega
  have hr : natRight 5000 5100 [⟨17, inn, wish, P, t⟩] = true := by
    unfold natRight
    simp only [Bool.and_eq_true, decide_eq_true_eq]
    refine ⟨by decide, fun i hi x hx => ?_⟩
    obtain rfl : i = 0 := by simpa using hi
    cases hx
    exact hk
  have hi : innerB ⟨17, inn, wish, 0, till⟩ ⟨17, inn, wish, P, t⟩ = true := by simp [innerB]
  unfold askP
  rw [if_neg (by rw [hr, hn]; decide), List.findIdx?_cons, hi]
  show ([later till ⟨17, inn, wish, P, t⟩], P, (0 : Int)) = _
  unfold later
  by_cases h : t < till
  · simp only [h, if_true]
  · obtain rfl : t = till := by omega
    simp
theorem whose_one (inn wish P t : Int) : whoseP [⟨17, inn, wish, P, t⟩] 17 inn wish = (⟨17, inn, wish, P, t⟩, true) := by
  have hi : innerB ⟨17, inn, wish, 0, 0⟩ ⟨17, inn, wish, P, t⟩ = true := by simp [innerB]
  unfold whoseP
  rw [List.findIdx?_cons, hi]
  rfl
theorem tick_one (x : Ln) (now : Int) : tickL [x] now = if x.till ≤ now then [] else [x] := by
  unfold tickL
  by_cases h : x.till ≤ now
  · simp [h]
  · simp [h]
end Go.Proofs.YtfhkhnoiolkkdaaGreatDoor
set_option linter.unusedVariables false
set_option maxRecDepth 100000
set_option linter.unusedSimpArgs false
namespace Go.Proofs.YtfhkhnoiolkkdaaGreatDoor
open Go.RowKit
def Ty (w : World) (g : Nat) (e : TypeId) : Prop := ∃ cur x, w.heap[g]? = some (.cells cur e x)
theorem box_ty {w : World} {g : Nat} {e : TypeId} {cs : List Value} (h : Box w g e cs) : Ty w g e := ⟨_, _, h⟩
theorem own_ty {B sz g cap n : Nat} {w : World} {e : TypeId} {xs : List Value} (h : Own B w e sz (some ⟨g, 0, none⟩) cap n xs) : Ty w g e := by
  rcases h.form with ⟨h0, _⟩ | ⟨g1, cur, h0, _, h1, _⟩
  · cases h0
  · cases h0
    exact ⟨_, _, h1⟩
theorem Ty.ne {w : World} {a b : Nat} {e e' : TypeId} (h : Ty w a e) (k : Ty w b e') (hn : e ≠ e') : a ≠ b := by
  rintro rfl
  obtain ⟨_, _, h1⟩ := h
  obtain ⟨_, _, k1⟩ := k
  rw [h1] at k1
  injection k1 with k1
  injection k1 with _ k2
  exact hn k2
theorem Ty.map0 {w : World} {a b : Nat} {e : TypeId} (h : Ty w a e) (k : Mp0 w b) : a ≠ b := by
  rintro rfl
  obtain ⟨_, _, h1⟩ := h
  obtain ⟨_, k1⟩ := k
  rw [h1] at k1
  cases k1
theorem Ty.map1 {w : World} {a b : Nat} {e : TypeId} (h : Ty w a e) (k : Mp1 w b) : a ≠ b := by
  rintro rfl
  obtain ⟨_, _, h1⟩ := h
  obtain ⟨_, _, k1⟩ := k
  rw [h1] at k1
  cases k1
structure Gp where
  G : Nat
  rb : Nat
  rc : Nat
  ub : Nat
  uc : Nat
  tk : Nat
  s : Nat
  kr : Option Addr
  kn : Nat
  kc : Nat
  bat : Int
def gL (g : Gp) (now : Int) (oa : Option Addr) (l c : Nat) : List Value :=
  [.int .i64 now, .slice g.kr g.kn g.kc, .bool true, .slice (some ⟨g.rb, 0, none⟩) 2 g.rc, .slice (some ⟨g.ub, 0, none⟩) 1 g.uc, .int .i64 0, .int .u32 3405803785, .int .i64 5000, .int .i64 5100, .slice none 0 0, .int .i64 1000, .int .i64 100, .int .i64 5, .int .i64 65536, .int .i64 30, .int .i64 now, .slice none 0 0, .pointer (some ⟨g.s, 0, none⟩), .slice oa l c, .int .i64 5, .int .i64 5, .int .i64 g.bat, .map (some g.tk)]
def roL : List Value := [.int .u32 167772160, .int .i64 8, .int .i64 1, .int .i64 1500, .int .u32 0, .int .i64 0, .int .i64 0, .int .i64 1500]
def ruL : List Value := [.int .i64 1, .int .i64 0, .int .i64 0, .int .u32 0, .int .u32 0, .int .i64 0, .int .i64 0, .int .i64 0, .int .i64 65535, .int .i64 2]
def ruM : List Ru := [⟨1, 0, 0, 0, 0, 0, 0, 0, 65535, 2⟩]
structure GS (w : World) (g : Gp) (now : Int) (oa : Option Addr) (l c : Nat) : Prop where
  b : Box w g.G 100 (gL g now oa l c)
  r : Own 0 w 139 4 (some ⟨g.rb, 0, none⟩) g.rc 2 roL
  u : Own 0 w 141 10 (some ⟨g.ub, 0, none⟩) g.uc 1 ruL
  t : Mp0 w g.tk
section
variable {L : Nat → Prop} {w w' : World} {g : Gp} {now : Int} {oa : Option Addr} {l c : Nat}
theorem GS.tch (h : GS w g now oa l c) (t : Tch L w w') (h1 : ¬ L g.G) (h2 : ¬ L g.rb) (h3 : ¬ L g.ub) (h4 : ¬ L g.tk) : GS w' g now oa l c :=
  ⟨h.b.tch t h1, own_keep h.r t h2, own_keep h.u t h3, h.t.tch t h4⟩
theorem GS.on (h : GS w g now oa l c) (j : Junk w w') : GS w' g now oa l c := h.tch (L := fun _ => False) (Tch.of_junk j) (fun e => e) (fun e => e) (fun e => e) (fun e => e)
theorem GS.sep {k : Nat} {e : TypeId} (h : GS w g now oa l c) (hk : Ty w k e) (h1 : e ≠ 100) (h2 : e ≠ 139) (h3 : e ≠ 141) : k ≠ g.G ∧ k ≠ g.rb ∧ k ≠ g.ub ∧ k ≠ g.tk :=
  ⟨hk.ne (box_ty h.b) h1, hk.ne (own_ty h.r) h2, hk.ne (own_ty h.u) h3, hk.map0 h.t⟩
theorem GS.ros (h : GS w g now oa l c) : RosAt w (some ⟨g.rb, 0, none⟩) roM := by
  have hc : ∀ k v, roL[k]? = some v → g.rb < w.heap.size ∧ w.cell? ⟨g.rb, 0 + k, none⟩ = some v := fun k v hv => by
    obtain ⟨g', h1, _, h3, h2, _⟩ := h.r.cells k v hv
    cases h1
    exact ⟨h3, by rw [Nat.zero_add]; exact h2⟩
  intro i x hx
  rcases i with _ | _ | i
  · cases hx
    exact ⟨_, _, rfl, (hc 0 _ rfl).1, (hc 0 _ rfl).2, (hc 1 _ rfl).2, (hc 2 _ rfl).2, (hc 3 _ rfl).2⟩
  · cases hx
    exact ⟨_, _, rfl, (hc 0 _ rfl).1, (hc 4 _ rfl).2, (hc 5 _ rfl).2, (hc 6 _ rfl).2, (hc 7 _ rfl).2⟩
  · cases hx
theorem GS.rus (h : GS w g now oa l c) : RusAt w (some ⟨g.ub, 0, none⟩) ruM := by
  have hc : ∀ k v, ruL[k]? = some v → g.ub < w.heap.size ∧ w.cell? ⟨g.ub, 0 + k, none⟩ = some v := fun k v hv => by
    obtain ⟨g', h1, _, h3, h2, _⟩ := h.u.cells k v hv
    cases h1
    exact ⟨h3, by rw [Nat.zero_add]; exact h2⟩
  intro i x hx
  rcases i with _ | i
  · cases hx
    exact ⟨_, _, rfl, (hc 0 _ rfl).1, (hc 0 _ rfl).2, (hc 1 _ rfl).2, (hc 2 _ rfl).2, (hc 3 _ rfl).2, (hc 4 _ rfl).2, (hc 5 _ rfl).2, (hc 6 _ rfl).2, (hc 7 _ rfl).2, (hc 8 _ rfl).2, (hc 9 _ rfl).2⟩
  · cases hx
theorem GS.rcap (h : GS w g now oa l c) : 2 ≤ g.rc := h.r.capLe.1
theorem GS.ucap (h : GS w g now oa l c) : 1 ≤ g.uc := h.u.capLe.1
end
end Go.Proofs.YtfhkhnoiolkkdaaGreatDoor
set_option linter.unusedVariables false
set_option maxRecDepth 100000
set_option linter.unusedSimpArgs false
namespace Go.Proofs.YtfhkhnoiolkkdaaGreatDoor
open Go.RowKit
theorem ruM_right : propB (rusP ruM) = true := propB_true (by
  refine ⟨by decide, fun r h => ?_⟩
  have : r = ⟨1, 0, 0, 0, 0, 0, 0, 0, 65535, 2⟩ := by simpa [ruM] using h
  subst this
  decide)
set_option maxHeartbeats 2000000 in
theorem ru_ask1 (s d : Int) (hd : 0 ≤ d ∧ d ≤ 65535) (oa : Option Addr) (c x y z : Nat) (w : World) (hS : RusAt w oa ruM) (h0 : w.cell? ⟨x, 0, none⟩ = some (.int .i64 1)) (h1 : w.cell? ⟨y, 0, none⟩ = some (.int .i64 0)) (t0 : w.cell? ⟨z, 0, none⟩ = some (.int .i64 17)) (t1 : w.cell? ⟨z, 1, none⟩ = some (.int .u32 167772161)) (t2 : w.cell? ⟨z, 2, none⟩ = some (.int .i64 s)) (t3 : w.cell? ⟨z, 3, none⟩ = some (.int .u32 134744072)) (t4 : w.cell? ⟨z, 4, none⟩ = some (.int .i64 d)) (hx : x < w.heap.size) (hy : y < w.heap.size) (hz : z < w.heap.size) :
    Calls Tryz.prog 222 #[.slice oa 1 c, .func (.func 223) #[] #[.pointer (some ⟨x, 0, none⟩), .pointer (some ⟨y, 0, none⟩), .pointer (some ⟨z, 0, none⟩)]] w fun e w' => e = .returned (.int .i64 0) ∧ Junk w w' := by
  obtain ⟨b, off, rfl, hb, c0, c1, c2, c3, c4, c5, c6, c7, c8, c9⟩ := hS 0 _ rfl
  simp only [Nat.zero_mul, Nat.add_zero] at c0 c1 c2 c3 c4 c5 c6 c7 c8 c9
  have c0 : w.cell? ⟨b, off, none⟩ = some (.int .i64 1) := c0
  have c1 : w.cell? ⟨b, off + 1, none⟩ = some (.int .i64 0) := c1
  have c2 : w.cell? ⟨b, off + 2, none⟩ = some (.int .i64 0) := c2
  have c3 : w.cell? ⟨b, off + 3, none⟩ = some (.int .u32 0) := c3
  have c4 : w.cell? ⟨b, off + 4, none⟩ = some (.int .u32 0) := c4
  have c5 : w.cell? ⟨b, off + 5, none⟩ = some (.int .i64 0) := c5
  have c6 : w.cell? ⟨b, off + 6, none⟩ = some (.int .i64 0) := c6
  have c7 : w.cell? ⟨b, off + 7, none⟩ = some (.int .i64 0) := c7
  have c8 : w.cell? ⟨b, off + 8, none⟩ = some (.int .i64 65535) := c8
  have c9 : w.cell? ⟨b, off + 9, none⟩ = some (.int .i64 2) := c9
  have HA := Lib.hid (fun w1 (hj : Junk w w1) => rask1_any s d hd x y z w1 (((hj.below (Nat.le_refl _)).cell hx).trans h0) (((hj.below (Nat.le_refl _)).cell hy).trans h1) (((hj.below (Nat.le_refl _)).cell hz).trans t0) (((hj.below (Nat.le_refl _)).cell hz).trans t1) (((hj.below (Nat.le_refl _)).cell hz).trans t2) (((hj.below (Nat.le_refl _)).cell hz).trans t3) (((hj.below (Nat.le_refl _)).cell hz).trans t4) (Nat.lt_of_lt_of_le hx hj.size) (Nat.lt_of_lt_of_le hy hj.size) (Nat.lt_of_lt_of_le hz hj.size))
  clear hS h0 h1 t0 t1 t2 t3 t4 hx hy hz
  go_enter Tryz.func222, Tryz.ntmps222
  go_wp2
  refine wp_loop_rounds 1 ?_
  rw [rounds_succ]
  go_wp2_with (first | (go_at_call 223; (with_reducible refine (HA.out _ (by (exact jkc))).mono ?_); rintro e w' ⟨rfl, ⟨osj, dj, rfl⟩⟩))
  go_ret
  exact ⟨rfl, by (exact jkc)⟩
set_option maxHeartbeats 2000000 in
theorem ruAsk_any (s d : Int) (hd : 0 ≤ d ∧ d ≤ 65535) (oa : Option Addr) (c : Nat) (w : World) (hc : 1 ≤ c) (hS : RusAt w oa ruM) :
    Calls Tryz.prog 146 #[.slice oa 1 c, .int .i64 1, .int .i64 0, .agg #[.int .i64 17, .int .u32 167772161, .int .i64 s, .int .u32 134744072, .int .i64 d]] w fun e w' => e = .returned (.tuple #[.int .i64 2, .int .i64 0]) ∧ Junk w w' := by
  have HR := Lib.hid (fun w1 (hj : Junk w w1) => show Calls Tryz.prog 101 #[.slice oa 1 c] w1 fun e w' => e = .returned (.bool true) ∧ Junk w1 w' by have := uright_any14 oa 1 c ruM w1 (by decide) rfl (hS.on hj); rw [ruM_right] at this; exact this)
  have hmf : ∀ (fn : Fn) (first cap : Array Value) (w : World), (Instr.makeFunc fn first cap).run Tryz.prog w = .ok (.func fn first cap) w := fun _ _ _ _ => rfl
  have HS := Lib.hid hS
  clear hS
  go_enter Tryz.func146, Tryz.ntmps146
  go_upto_region 1 with (fail)
  refine wp_keep (fun V => Junk w V ∧ Box V w.heap.size 3 [.int .i64 1] ∧ Box V (w.heap.size + 1) 3 [.int .i64 0] ∧ Box V (w.heap.size + 1 + 1) 38 [.int .i64 17, .int .u32 167772161, .int .i64 s, .int .u32 134744072, .int .i64 d]) ⟨by (exact jkc), (box_at' (V := w) rfl rfl).on (by (exact jkc)), (box_at' (V := w.alloc (.cells #[.int .i64 1] 3)) (by simp) rfl).on (by (exact jkc)), (box_at' (V := (w.alloc (.cells #[.int .i64 1] 3)).alloc (.cells #[.int .i64 0] 3)) (by simp) rfl).on (by (exact jkc))⟩ ?_
  intro V ⟨h1, h2, h3, h4⟩
  have H1 := Lib.hid (And.intro h1 (And.intro h2 (And.intro h3 h4)))
  obtain ⟨b, off, rfl, hb, -, -, -, -, -, -, -, -, -, c9⟩ := (HS.out.on h1) 0 _ rfl
  have c9 : V.cell? ⟨b, off + 9, none⟩ = some (.int .i64 2) := by simpa using c9
  have HI := Lib.hid (fun w1 (hj : Junk V w1) => ru_ask1 s d hd (some ⟨b, off, none⟩) c w.heap.size (w.heap.size + 1) (w.heap.size + 1 + 1) w1 (HS.out.on (h1.trans hj)) ((h2.on hj).cell rfl) ((h3.on hj).cell rfl) ((h4.on hj).cell (j := 0) rfl) ((h4.on hj).cell (j := 1) rfl) ((h4.on hj).cell (j := 2) rfl) ((h4.on hj).cell (j := 3) rfl) ((h4.on hj).cell (j := 4) rfl) (h2.on hj).lt (h3.on hj).lt (h4.on hj).lt)
  clear h1 h2 h3 h4
  go_wp2_with (first | (go_at_call 101; (with_reducible refine (HR.out _ (H1.out.1.trans (by (exact jkc)))).mono ?_); rintro e w' ⟨rfl, ⟨osj, dj, rfl⟩⟩) | (go_at_call 222; (with_reducible refine (HI.out _ (by (exact jkc))).mono ?_); rintro e w' ⟨rfl, ⟨osj, dj, rfl⟩⟩))
  go_returns
  exact ⟨rfl, H1.out.1.trans (by (exact jkc))⟩
end Go.Proofs.YtfhkhnoiolkkdaaGreatDoor
set_option linter.unusedVariables false
set_option maxRecDepth 100000
set_option linter.unusedSimpArgs false
namespace Go.Proofs.YtfhkhnoiolkkdaaGreatDoor
open Go.RowKit Go.Ix
variable {s sl tb tc wh mp li lc c : Nat} {oa : Option Addr} {f : Fl} {now : Int}
set_option maxHeartbeats 2000000 in
theorem fmay0 (w : World) (h : FS0 w s sl tb tc wh mp oa c now) (hf : FlOk f) (hn : now < f.till) : Calls Tryz.prog 235 #[.pointer (some ⟨s, 0, none⟩), .agg #[.int .i64 f.there.proto, .int .u32 f.there.src, .int .i64 f.there.sport, .int .u32 f.there.dst, .int .i64 f.there.dport, .int .i64 f.back.proto, .int .u32 f.back.src, .int .i64 f.back.sport, .int .u32 f.back.dst, .int .i64 f.back.dport, .int .i64 f.till, .int .i64 f.note]] w fun e w' => e = .returned (.int .i64 0) ∧ Junk w w' := by
  have z0 := h.bs.cell (j := 0) rfl
  have z2 := h.bs.cell (j := 2) rfl
  have z3 := h.bs.cell (j := 3) rfl
  have zs := h.bs.lt
  have y2 := h.bw.box.cell (j := 2) rfl
  have ys := h.bw.box.lt
  have HR1 := Lib.hid (fun w1 => show Calls Tryz.prog 164 #[.agg #[.int .i64 f.there.proto, .int .u32 f.there.src, .int .i64 f.there.sport, .int .u32 f.there.dst, .int .i64 f.there.dport]] w1 fun e w' => e = .returned (.bool true) ∧ Junk w1 w' by have := tup_right_any f.there w1; rw [hf.tr] at this; exact this)
  have HR2 := Lib.hid (fun w1 => show Calls Tryz.prog 164 #[.agg #[.int .i64 f.back.proto, .int .u32 f.back.src, .int .i64 f.back.sport, .int .u32 f.back.dst, .int .i64 f.back.dport]] w1 fun e w' => e = .returned (.bool true) ∧ Junk w1 w' by have := tup_right_any f.back w1; rw [hf.br] at this; exact this)
  have HK1 := Lib.hid (fun w1 (hj : Junk w w1) => known0 f.there w1 (h.on hj) hf.tw)
  have HK2 := Lib.hid (fun w1 (hj : Junk w w1) => known0 f.back w1 (h.on hj) hf.bw)
  have HN := Lib.hid (fun w1 (hj : Junk w w1) => wnow_any now w1 (Nat.lt_of_lt_of_le ys hj.size) ((h.bw.on hj).box.cell (j := 2) rfl))
  have hq : ∀ w, (binOp .eql 38 (.agg #[.int .i64 f.there.proto, .int .u32 f.there.src, .int .i64 f.there.sport, .int .u32 f.there.dst, .int .i64 f.there.dport]) (.agg #[.int .i64 f.back.proto, .int .u32 f.back.src, .int .i64 f.back.sport, .int .u32 f.back.dst, .int .i64 f.back.dport])).run Tryz.prog w = .ok (.bool false) w := fun w => by have := tupq_eql f.there f.back w; rw [decide_eq_false (fun e => hf.ne e.symm)] at this; exact this
  have q0 : ¬ 1099511627776 < f.till := by have := hf.t1; omega
  have q1 : ¬ f.till ≤ now := by omega
  clear h hf hn
  obtain ⟨⟨t0, t1, t2, t3, t4⟩, ⟨b0, b1, b2, b3, b4⟩, U, N⟩ := f
  go_enter Tryz.func235, Tryz.ntmps235
  go_wp2_with (first | (go_at_call 164; first | ((with_reducible refine (HR1.out _).mono ?_); rintro e w' ⟨rfl, ⟨osg, dg, rfl⟩⟩) | ((with_reducible refine (HR2.out _).mono ?_); rintro e w' ⟨rfl, ⟨osh, dh, rfl⟩⟩)))
  refine wp_region_junk (by kernel_rfl) (by kernel_rfl) ?_; (repeat (go_big_quiet_step (first | (go_at_call 261; with_reducible exact Calls.jc (HN.out _ (by (exact jkc))))))); refine wpQuiet_nil ?_; rintro _ ⟨⟨osq, dq⟩, rfl⟩
  go_wp2_with (first | (go_at_call 293; first | ((with_reducible refine (HK1.out _ (by (exact jkc))).mono ?_); rintro e w' ⟨rfl, ⟨osk, dk, rfl⟩⟩) | ((with_reducible refine (HK2.out _ (by (exact jkc))).mono ?_); rintro e w' ⟨rfl, ⟨osl, dl, rfl⟩⟩)))
  refine wp_region_junk (by kernel_rfl) (by kernel_rfl) ?_; (repeat (go_big_quiet_step (first | fail))); refine wpQuiet_nil ?_; rintro _ ⟨⟨osq, dq⟩, rfl⟩
  go_wp2
  go_ret
  exact ⟨rfl, by (exact jkc)⟩
end Go.Proofs.YtfhkhnoiolkkdaaGreatDoor
set_option linter.unusedVariables false
set_option maxRecDepth 100000
set_option linter.unusedSimpArgs false
namespace Go.Proofs.YtfhkhnoiolkkdaaGreatDoor
open Go.RowKit Go.Ix
def LF (s sl wh mp : Nat) : Nat → Prop := fun k => k = s ∨ k = sl ∨ k = wh ∨ k = mp
structure FN (w V : World) (s sl tb tc wh mp : Nat) (o : Option Fl) (T : Tb) (f : Fl) (fb : Nat) (now : Int) : Prop where
  bs : Box V s 188 [.slice (some ⟨sl, 0, none⟩) 256 256, .slice (some ⟨tb, 0, none⟩) 1024 tc, .pointer (some ⟨wh, 0, none⟩), .int .i64 0]
  bl : Box V sl 191 (slL o)
  bt : Own 0 V 324 7 (some ⟨tb, 0, none⟩) tc 1024 (tbL T)
  bw : Wh0 V wh mp none 0 now
  nd : s ≠ sl ∧ s ≠ tb ∧ s ≠ wh ∧ s ≠ mp ∧ sl ≠ tb ∧ sl ≠ wh ∧ sl ≠ mp ∧ tb ≠ wh ∧ tb ≠ mp
  b : Box V fb 50 f.cells
  lt : fb ≠ s ∧ fb ≠ sl ∧ fb ≠ wh ∧ fb ≠ mp
  t : Tch (LF s sl wh mp) w V
section
variable {w V V' : World} {s sl tb tc wh mp fb g g' : Nat} {o : Option Fl} {T T' : Tb} {f : Fl} {now : Int}
theorem FN.on (h : FN w V s sl tb tc wh mp o T f fb now) (j : Junk V V') : FN w V' s sl tb tc wh mp o T f fb now :=
  ⟨h.bs.on j, h.bl.on j, h.bt.on j, h.bw.on j, h.nd, h.b.on j, h.lt, h.t.on j⟩
theorem FN.slot (h : FN w V s sl tb tc wh mp o T f fb now) (hg : V.grownBy V' (some sl)) (hb : Box V' sl 191 (slL (some f))) : FN w V' s sl tb tc wh mp (some f) T f fb now := by
  have t : Tch (fun k => k = sl) V V' := Tch.of_grown hg rfl
  have n := h.nd
  have l := h.lt
  exact ⟨h.bs.tch t (by first | (simp only; omega) | omega), hb, own_keep h.bt t (by first | (simp only; omega) | omega), h.bw.tch t (by first | (simp only; omega) | omega) (by first | (simp only; omega) | omega), h.nd, h.b.tch t (by first | (simp only; omega) | omega), h.lt, h.t.trans (t.mono (fun k hk => .inr (.inl hk)))⟩
theorem FN.lts (h : FN w V s sl tb tc wh mp o T f fb now) : s < V.heap.size ∧ sl < V.heap.size ∧ wh < V.heap.size ∧ mp < V.heap.size ∧ fb < V.heap.size := ⟨h.bs.lt, h.bl.lt, h.bw.box.lt, h.bw.mm.lt, h.b.lt⟩
theorem FN.table {V1 : World} (h : FN w V s sl tb tc wh mp o T f fb now) (j : Junk V V1) (ho : Own V.heap.size V1 324 7 (some ⟨g, 0, none⟩) g' 1024 (tbL T')) : FN w (V1.setCell ⟨s, 1, none⟩ (.slice (some ⟨g, 0, none⟩) 1024 g')) s sl g g' wh mp o T' f fb now := by
  have h1 := h.on j
  have l := h.lts
  have n := h.nd
  have l2 := h.lt
  have hg := own_at_le ho
  have t : Tch (fun k => k = s) V1 (V1.setCell ⟨s, 1, none⟩ (.slice (some ⟨g, 0, none⟩) 1024 g')) := (Tch.refl (L := fun k => k = s) V1).set _ (fun _ => rfl)
  exact ⟨h1.bs.set 1 _, h1.bl.tch t (by first | (simp only; omega) | omega), (own_keep ho t (by first | (simp only; omega) | omega)).lower (Nat.zero_le _), h1.bw.tch t (by first | (simp only; omega) | omega) (by first | (simp only; omega) | omega), by omega, h1.b.tch t (by first | (simp only; omega) | omega), h.lt, h1.t.trans (t.mono (fun k hk => .inl hk))⟩
theorem FN.table2 (h : FN w V s sl tb tc wh mp o T f fb now) {X0 X : Array Obj} {d0 d : Nat} (ho : Own V.heap.size (V.junk X0 d0) 324 7 (some ⟨g, 0, none⟩) g' 1024 (tbL T')) (hx : Junk (V.junk X0 d0) (V.junk X d)) : FN w ((V.setCell ⟨s, 1, none⟩ (.slice (some ⟨g, 0, none⟩) 1024 g')).junk X d) s sl g g' wh mp o T' f fb now := by
  rw [← World.setCell_junk _ _ _ _ _ _ h.lts.1]
  exact h.table ⟨_, _, rfl⟩ (ho.on hx)
end
set_option maxHeartbeats 4000000 in
theorem fadd_any (s sl tb tc wh mp : Nat) (now : Int) (f : Fl) (w : World) (h : FS0 w s sl tb tc wh mp none 0 now) (hf : FlOk f) (hn : now < f.till) : Calls Tryz.prog 150 #[.pointer (some ⟨s, 0, none⟩), .agg #[.int .i64 f.there.proto, .int .u32 f.there.src, .int .i64 f.there.sport, .int .u32 f.there.dst, .int .i64 f.there.dport, .int .i64 f.back.proto, .int .u32 f.back.src, .int .i64 f.back.sport, .int .u32 f.back.dst, .int .i64 f.back.dport, .int .i64 f.till, .int .i64 f.note]] w fun e w' => e = .returned (.tuple #[.int .i64 0, .int .i64 0]) ∧ ∃ tb' tc' li lc, FS1 w' s sl tb' tc' wh mp li lc f now ∧ Tch (LF s sl wh mp) w w' ∧ w.heap.size ≤ li := by
  have hl : s < w.heap.size ∧ sl < w.heap.size ∧ wh < w.heap.size ∧ mp < w.heap.size := ⟨h.bs.lt, h.bl.lt, h.bw.box.lt, h.bw.mm.lt⟩
  have HF := Lib.hid (show FN w (w.alloc (.cells #[.int .i64 f.there.proto, .int .u32 f.there.src, .int .i64 f.there.sport, .int .u32 f.there.dst, .int .i64 f.there.dport, .int .i64 f.back.proto, .int .u32 f.back.src, .int .i64 f.back.sport, .int .u32 f.back.dst, .int .i64 f.back.dport, .int .i64 f.till, .int .i64 f.note] 50)) s sl tb tc wh mp none T0 f w.heap.size now from
    ⟨h.bs.on (by (exact jkc)), h.bl.on (by (exact jkc)), h.bt.on (by (exact jkc)), h.bw.on (by (exact jkc)), h.nd, box_at rfl, by omega, (Tch.refl w).new _⟩)
  have HM := Lib.hid (fun w1 (hj : Junk w w1) => fmay0 w1 (h.on hj) hf hn)
  have z0 := h.bs.cell (j := 0) rfl
  have zs := h.bs.lt
  have y0 := (sl_free h.bl (i := 0) (by decide) (fun _ => rfl)).1
  rw [Nat.zero_mul] at y0
  have ys := h.bl.lt
  have HFO := Lib.hid hf
  have HN := Lib.hid hn
  clear h hf hn
  go_enter Tryz.func150, Tryz.ntmps150
  go_wp2_with (first | (go_at_call 235; (with_reducible refine (HM.out _ (by (exact jkc))).mono ?_); rintro e w' ⟨rfl, ⟨osg, dg, rfl⟩⟩))
  refine wp_loop_rounds 1 ?_
  rw [rounds_succ]
  go_wp2
  refine wp_keep (fun V => FN w V s sl tb tc wh mp none T0 f w.heap.size now) (HF.out.on (by (exact jkc))) ?_
  intro V1 hV
  have H1 := Lib.hid hV
  have x0 := hV.bs.cell (j := 0) rfl
  have xs := hV.bs.lt
  have c0 := hV.b.cell (j := 0) rfl
  have c1 := hV.b.cell (j := 1) rfl
  have c2 := hV.b.cell (j := 2) rfl
  have c3 := hV.b.cell (j := 3) rfl
  have c4 := hV.b.cell (j := 4) rfl
  have c5 := hV.b.cell (j := 5) rfl
  have c6 := hV.b.cell (j := 6) rfl
  have c7 := hV.b.cell (j := 7) rfl
  have c8 := hV.b.cell (j := 8) rfl
  have c9 := hV.b.cell (j := 9) rfl
  have c10 := hV.b.cell (j := 10) rfl
  have c11 := hV.b.cell (j := 11) rfl
  have xb := hV.b.lt
  clear hV z0 zs y0 ys HF HM
  refine wp_region_mixl (V1) 8 [(0, true), (1, true), (2, true), (3, true), (4, true), (5, true), (6, true), (7, true), (8, false)] (by kernel_rfl) (by kernel_rfl) (by (exact jkc)) ?_; (iterate 8 (refine wpMixL_q rfl (fun K hK => ?_); (go_simp; try go_bits); (refine hK _ ?_; clear hK K))); refine wpMixL_last1 rfl rfl (fun osm9_0 dm9_0 K hK => ?_); (refine storeBox_wp 191 _ _ rfl (H1.out.bl.on (by (exact jkc))) 0 (slotL (some f)).toArray (show (Tryz.prog.info? 191).map (·.size) = some 13 from by kernel_rfl) rfl rfl (by rw [slL_len]; show 0 + 13 ≤ 3328; omega) (by simp [slotL, Fl.cells, Value.oneCell']) ?_; intro w2 hg2 hb2; rw [show (slotL (some f)).toArray.toList = slotL (some f) from rfl, slL_put] at hb2; have H2 := Lib.hid ((H1.out.on (show Junk V1 (V1.drew.junk osm9_0 dm9_0) by (exact jkc))).slot hg2 hb2); clear hg2 hb2); refine hK _ _ ?_; clear hK K; refine wpMixL_nil (fun osm dm => ?_)
  go_upto_region 10 with (fail)
  refine wp_keep (fun V => FN w V s sl tb tc wh mp (some f) (T0) f w.heap.size now) (H2.out.on (by (exact jkc))) ?_
  intro V3 hV
  have H3 := Lib.hid hV
  have x1 := hV.bs.cell (j := 1) rfl
  have xf := hV.bs.frozen 1
  have xs := hV.bs.lt
  have c0 := hV.b.cell (j := 0) rfl
  have c1 := hV.b.cell (j := 1) rfl
  have c2 := hV.b.cell (j := 2) rfl
  have c3 := hV.b.cell (j := 3) rfl
  have c4 := hV.b.cell (j := 4) rfl
  have xb := hV.b.lt
  clear hV H2 H1 x0 c5 c6 c7 c8 c9 c10 c11
  refine wp_region_mixa (V3) [] [15] [12] #[true, true, true, true, true, true, true, true, true, true, true, true, true, true, true, false] [(0, true), (1, true), (2, true), (3, true), (4, true), (5, true), (6, true), (7, true), (8, true), (9, false), (10, true), (11, true), (12, true), (13, true), (14, true)] [(15, false)] (by kernel_rfl) (by kernel_rfl) (by (exact jkc)) (by intro e he; simp at he) ?_; (iterate 9 (refine wpMixB_q rfl (fun K hK => ?_); (go_simp; try go_bits); (refine hK _ ?_; clear hK K))); refine wpMixB_e rfl (fun osm10_0 dm10_0 K hK => ?_); (go_simp; try go_bits); (go_at_call 236; (with_reducible refine (iput_any (T0) f.there tb tc (hN f.there % 1024) 0 _ T0_ok HFO.out.tw HFO.out.tr (TbAt.own (H3.out.bt.on (by (exact jkc))) (by decide)) (T0_find f.there) (Nat.mod_lt _ (by decide)) (by rw [T0_lenT]; decide)).mono ?_); rintro e w' ⟨g3, h3, rfl, ⟨osp3, dp3, rfl⟩, hO⟩; have HO3 := Lib.hid hO; clear hO); refine hK _ _ (by first | exact jkc | assumption) ?_; clear hK K; (iterate 5 (refine wpMixB_q rfl (fun K hK => ?_); (go_simp; try go_bits); (refine hK _ ?_; clear hK K))); refine wpMixB_nil (fun osm10_1 dm10_1 => ?_); change wpMix _ _ _ _ _ _ _; refine wpMix_e rfl (fun osm10_2 dm10_2 K hK => ?_); (go_simp; try go_bits); refine hK _ _ trivial ?_; clear hK K; refine wpMix_nil (fun osm dm => ?_)
  go_upto_region 11 with (fail)
  have ho3 : Own V3.heap.size (V3.junk (osm10_0 ++ osp3) dp3) 324 7 (some ⟨g3, 0, none⟩) h3 1024 (tbL (T1 f.there 0)) := by
    have := HO3.out.lower (B' := V3.heap.size) (by simp)
    rw [World.junk_junk] at this
    exact this
  have H4 := Lib.hid (H3.out.table2 (X := osm10_0 ++ (osp3 ++ (osm10_1 ++ osm10_2))) (d := dm10_2) ho3 (by (exact jkc)))
  refine wp_keep (fun V => FN w V s sl g3 h3 wh mp (some f) (T1 f.there 0) f w.heap.size now) (H4.out.on ⟨_, _, rfl⟩) ?_
  intro V5 hV
  have H5 := Lib.hid hV
  have x1 := hV.bs.cell (j := 1) rfl
  have xf := hV.bs.frozen 1
  have xs := hV.bs.lt
  have c5 := hV.b.cell (j := 5) rfl
  have c6 := hV.b.cell (j := 6) rfl
  have c7 := hV.b.cell (j := 7) rfl
  have c8 := hV.b.cell (j := 8) rfl
  have c9 := hV.b.cell (j := 9) rfl
  have xb := hV.b.lt
  clear hV H3 H4 HO3 ho3 c0 c1 c2 c3 c4
  refine wp_region_mixa (V5) [] [16] [13] #[true, true, true, true, true, true, true, true, true, true, true, true, true, true, true, true, false] [(0, true), (1, true), (2, true), (3, true), (4, true), (5, true), (6, true), (7, true), (8, true), (9, true), (10, false), (11, true), (12, true), (13, true), (14, true), (15, true)] [(16, false)] (by kernel_rfl) (by kernel_rfl) (by (exact jkc)) (by intro e he; simp at he) ?_; (iterate 10 (refine wpMixB_q rfl (fun K hK => ?_); (go_simp; try go_bits); (refine hK _ ?_; clear hK K))); refine wpMixB_e rfl (fun osm11_0 dm11_0 K hK => ?_); (go_simp; try go_bits); (go_at_call 236; (with_reducible refine (iput_any (T1 f.there 0) f.back g3 h3 (pl2 f.there f.back) 1 _ (T1_ok HFO.out.tw HFO.out.tr) HFO.out.bw HFO.out.br (TbAt.own (H5.out.bt.on (by (exact jkc))) (by decide)) (T1_find HFO.out.ne) (pl2_lt _ _) (by rw [T1_lenT HFO.out.tr]; decide)).mono ?_); rintro e w' ⟨g5, h5, rfl, ⟨osp5, dp5, rfl⟩, hO⟩; have HO5 := Lib.hid hO; clear hO); refine hK _ _ (by first | exact jkc | assumption) ?_; clear hK K; (iterate 5 (refine wpMixB_q rfl (fun K hK => ?_); (go_simp; try go_bits); (refine hK _ ?_; clear hK K))); refine wpMixB_nil (fun osm11_1 dm11_1 => ?_); change wpMix _ _ _ _ _ _ _; refine wpMix_e rfl (fun osm11_2 dm11_2 K hK => ?_); (go_simp; try go_bits); refine hK _ _ trivial ?_; clear hK K; refine wpMix_nil (fun osm dm => ?_)
  go_upto_region 12 with (fail)
  have ho5 : Own V5.heap.size (V5.junk (osm11_0 ++ osp5) dp5) 324 7 (some ⟨g5, 0, none⟩) h5 1024 (tbL (T2 f.there 0 f.back 1)) := by
    have := HO5.out.lower (B' := V5.heap.size) (by simp)
    rw [World.junk_junk, ← T2_eq HFO.out.ne] at this
    exact this
  have H6 := Lib.hid (H5.out.table2 (X := osm11_0 ++ (osp5 ++ (osm11_1 ++ osm11_2))) (d := dm11_2) ho5 (by (exact jkc)))
  refine wp_keep (fun V => FN w V s sl g5 h5 wh mp (some f) (T2 f.there 0 f.back 1) f w.heap.size now) (H6.out.on ⟨_, _, rfl⟩) ?_
  intro V7 hV
  have H7 := Lib.hid hV
  have x2 := hV.bs.cell (j := 2) rfl
  have xs := hV.bs.lt
  have c10 := hV.b.cell (j := 10) rfl
  have xb := hV.b.lt
  clear hV H5 H6 HO5 ho5 c5 c6 c7 c8 c9 x1 xf
  refine wp_region_mixn (V7) 7 [(0, true), (1, true), (2, true), (3, true), (4, true), (5, true), (6, true), (7, false)] (by kernel_rfl) (by kernel_rfl) (by (exact jkc)) ?_; (iterate 7 (refine wpMixL_q rfl (fun K hK => ?_); (go_simp; try go_bits); (refine hK _ ?_; clear hK K))); refine wpMixL_last rfl (fun osm12_0 dm12_0 K hK => ?_); (go_simp; try go_bits); (go_at_call 237; (with_reducible refine (wset_new wh mp f.till now _ (H7.out.bw.on (by (exact jkc))) HFO.out.t0 HFO.out.t1 HN.out).mono ?_); rintro e V8 ⟨rfl, li, lc, hli, hW, hT⟩; have H8 := Lib.hid (And.intro hli (And.intro hW hT)); clear hli hW hT); refine hK _ _ ?_; clear hK K; refine wpMixL_nil (fun osm dm => ?_)
  go_upto_region 13 with (fail)
  have J7 := H7.out.on (show Junk V7 (V7.junk osm12_0 dm12_0) from ⟨_, _, rfl⟩)
  have nd := H7.out.nd
  have l7 := J7.lts
  have l8 := own_at_le J7.bt
  have hli := H8.out.1
  have hli2 : w.heap.size ≤ li := by
    have a1 := J7.t.size
    have a2 := hli
    simp only [World.size_junk] at a1 a2
    omega
  have T8 := H8.out.2.2
  refine wp_keep (fun V => Box V s 188 [.slice (some ⟨sl, 0, none⟩) 256 256, .slice (some ⟨g5, 0, none⟩) 1024 h5, .pointer (some ⟨wh, 0, none⟩), .int .i64 0] ∧ Box V sl 191 (slL (some f)) ∧ Own 0 V 324 7 (some ⟨g5, 0, none⟩) h5 1024 (tbL (T2 f.there 0 f.back 1)) ∧ Wh1 V wh mp li lc f.till now ∧ Tch (LF s sl wh mp) w V)
    ⟨(J7.bs.tch T8 (fun e => by have e : s = wh ∨ s = mp := e; omega)).on ⟨_, _, rfl⟩, (J7.bl.tch T8 (fun e => by have e : sl = wh ∨ sl = mp := e; omega)).on ⟨_, _, rfl⟩, (own_keep J7.bt T8 (fun e => by have e : g5 = wh ∨ g5 = mp := e; omega)).on ⟨_, _, rfl⟩, H8.out.2.1.on ⟨_, _, rfl⟩, ((J7.t.trans (T8.mono (fun k hk => .inr (.inr hk)))).on ⟨_, _, rfl⟩)⟩ ?_
  intro V9 ⟨b1, b2, b3, b4, b5⟩
  have x3 := b1.cell (j := 3) rfl
  have xf := b1.frozen 3
  have xs := b1.lt
  have HV := Lib.hid (And.intro b1 (And.intro b2 (And.intro b3 (And.intro b4 b5))))
  clear b1 b2 b3 b4 b5 H7 H8 J7 T8 x2 c10
  go_wp2
  go_returns
  obtain ⟨b1, b2, b3, b4, b5⟩ := HV.out
  have T9 : Tch (fun k => k = s) V9 (V9.setCell ⟨s, 3, none⟩ (.int .i64 1)) := (Tch.refl (L := fun k => k = s) V9).set _ (fun _ => rfl)
  refine ⟨rfl, g5, h5, li, lc, FS1.on ⟨b1.set 3 _, b2.tch T9 (by first | (simp only; omega) | omega), own_keep b3 T9 (by first | (simp only; omega) | omega), b4.tch T9 (by first | (simp only; omega) | omega) (by first | (simp only; omega) | omega) (by first | (simp only; omega) | omega), by omega⟩ (by (exact jkc)), (b5.trans (T9.mono (fun k hk => .inl hk))).on (by (exact jkc)), hli2⟩
end Go.Proofs.YtfhkhnoiolkkdaaGreatDoor
set_option linter.unusedVariables false
set_option maxRecDepth 100000
set_option linter.unusedSimpArgs false
namespace Go.Proofs.YtfhkhnoiolkkdaaGreatDoor
open Go.RowKit Go.Ix
theorem store1_wp {P : Program} {o : Oper} {a : Act} {K : Act → World → Prop} {Q : Exit → Act → World → Prop} {V : World} {g : Nat} {e : TypeId} {cs : List Value} (t : TypeId) (x y : Operand) (ho : o.op = .store t x y)
    (h : Box V g e cs) (off : Nat) (k : IntKind) (n : Int) (hi : (P.info? t).map (·.size) = some 1) (hx : a.eval x = .pointer (some ⟨g, off, none⟩)) (hy : a.eval y = .int k n) (hfit : off + 1 ≤ cs.length)
    (hK : ∀ w', V.grownBy w' (some g) → Box w' g e (cs.set off (.int k n)) → K (a.put o.dst undef) w') : o.wp P a V K Q := by
  have hst := run_storeCells_at P g off e [.int k n] 0 cs.toArray V h (by simp; omega) (by simp [Value.oneCell'])
  simp only [Nat.add_zero] at hst
  cases hq : P.info? t with
  | none => simp [hq] at hi
  | some i =>
    have hs : i.size = 1 := by simpa [hq] using hi
    have hrun : (Instr.storeAt t (.pointer (some ⟨g, off, none⟩)) (.int k n)).run P V = .ok () (V.setRow g (cs.toArray.toList.take off ++ [Value.int k n] ++ cs.toArray.toList.drop (off + 1)).toArray) := by
      simp at hst
      simp [Instr.storeAt, Instr.sureAddr, storeVar, sizeOf, typeInfo, hq, hs, Value.cells, hst]
    have hb : Box (V.setRow g (cs.toArray.toList.take off ++ [Value.int k n] ++ cs.toArray.toList.drop (off + 1)).toArray) g e (cs.set off (.int k n)) := by
      have h1 := setRow_heap V g cs.toArray (cs.toArray.toList.take off ++ [Value.int k n] ++ cs.toArray.toList.drop (off + 1)).toArray e _ h
      unfold Box
      rw [h1, List.set_eq_take_append_cons_drop, if_pos (by omega)]
      simp
    have := hK (V.setRow g (cs.toArray.toList.take off ++ [Value.int k n] ++ cs.toArray.toList.drop (off + 1)).toArray) ⟨rfl, rfl, rfl, by simp, fun j _ hj => setRow_other V g j _ (fun e => hj (by simp [e]))⟩ hb
    unfold Oper.wp
    simp only [execOp, ho, hx, hy, hrun, Sem.run_bind, Sem.run_pure, Result.andThen]
    simpa [Oper.upon] using this
theorem slL_set (f : Fl) (t n : Int) : ((slL (some f)).set 11 (.int .i64 t)).set 12 (.int .i64 n) = slL (some { f with till := t, note := n }) := rfl
set_option maxHeartbeats 4000000 in
theorem fset_any (s sl tb tc wh mp li lc : Nat) (now t n : Int) (f : Fl) (w : World) (h : FS1 w s sl tb tc wh mp li lc f now) (h0 : 0 ≤ t) (h1 : t ≤ 1099511627776) (h2 : now < t) : Calls Tryz.prog 196 #[.pointer (some ⟨s, 0, none⟩), .int .i64 0, .int .i64 t, .int .i64 n] w fun e w' => e = .returned (.int .i64 0) ∧ FS1 w' s sl tb tc wh mp li lc { f with till := t, note := n } now ∧ Tch (fun k => k = sl ∨ k = li) w w' := by
  have HH := Lib.hid h
  have HTH := Lib.hid (fun w1 (hj : Junk w w1) => fthere1 w1 (h.on hj))
  have HNW := Lib.hid (fun w1 (hj : Junk w w1) => wnow_any now w1 (h.on hj).bw.box.lt ((h.on hj).bw.box.cell (j := 2) rfl))
  have z0 := h.bs.cell (j := 0) rfl
  have z2 := h.bs.cell (j := 2) rfl
  have zs := h.bs.lt
  have H012 := Lib.hid (And.intro h0 (And.intro h1 h2))
  have q0 : ¬ 1099511627776 < t := by omega
  have q1 : ¬ t ≤ now := by omega
  clear h h0 h1 h2
  go_enter Tryz.func196, Tryz.ntmps196
  go_wp2_with (first | (go_at_call 90; (with_reducible refine (HTH.out _ (by (exact jkc))).mono ?_); rintro e w' ⟨rfl, ⟨osg, dg, rfl⟩⟩) | (go_at_call 261; (with_reducible refine (HNW.out _ (by (exact jkc))).mono ?_); rintro e w' ⟨rfl, ⟨osh, dh, rfl⟩⟩))
  refine wp_keep (fun V => FS1 V s sl tb tc wh mp li lc f now ∧ Tch (fun k => k = sl ∨ k = li) w V) ⟨HH.out.on (by (exact jkc)), Tch.of_junk (by (exact jkc))⟩ ?_
  intro V ⟨hV, hT⟩
  have HV := Lib.hid (And.intro hV hT)
  have HB := Lib.hid hV.bs
  have xl := hV.bl.lt
  have xs := hV.bs.lt
  have f1 := hV.bl.frozen 11
  have f2 := hV.bl.frozen 12
  have hne := hV.nd.1
  clear z0 z2 zs HTH HNW q0 q1
  haveI hn : Nonempty (PW ((fun V => Box V s 188 [.slice (some ⟨sl, 0, none⟩) 256 256, .slice (some ⟨tb, 0, none⟩) 1024 tc, .pointer (some ⟨wh, 0, none⟩), .int .i64 1] ∧ sl < V.heap.size))) := ⟨⟨V, HB.out, xl⟩⟩
  have k0 : ∀ x : PW ((fun V => Box V s 188 [.slice (some ⟨sl, 0, none⟩) 256 256, .slice (some ⟨tb, 0, none⟩) 1024 tc, .pointer (some ⟨wh, 0, none⟩), .int .i64 1] ∧ sl < V.heap.size)), x.V.cell? ⟨s, 0, none⟩ = some (.slice (some ⟨sl, 0, none⟩) 256 256) := fun x => x.h.1.cell rfl
  have k1 : ∀ x : PW ((fun V => Box V s 188 [.slice (some ⟨sl, 0, none⟩) 256 256, .slice (some ⟨tb, 0, none⟩) 1024 tc, .pointer (some ⟨wh, 0, none⟩), .int .i64 1] ∧ sl < V.heap.size)), s < x.V.heap.size := fun x => x.h.1.lt
  have k2 : ∀ x : PW ((fun V => Box V s 188 [.slice (some ⟨sl, 0, none⟩) 256 256, .slice (some ⟨tb, 0, none⟩) 1024 tc, .pointer (some ⟨wh, 0, none⟩), .int .i64 1] ∧ sl < V.heap.size)), sl < x.V.heap.size := fun x => x.h.2
  clear hV hT
  refine wp_region_mixp ((fun V => Box V s 188 [.slice (some ⟨sl, 0, none⟩) 256 256, .slice (some ⟨tb, 0, none⟩) 1024 tc, .pointer (some ⟨wh, 0, none⟩), .int .i64 1] ∧ sl < V.heap.size)) (fun _ _ h hj => ⟨h.1.on hj, Nat.lt_of_lt_of_le h.2 hj.size⟩) [(0, true), (1, true), (2, true), (3, true), (4, true), (5, true), (6, true), (7, true), (8, true), (9, true), (10, true), (11, true), (12, true), (13, true), (14, true), (15, false), (16, true), (17, true), (18, true), (19, false)] (by kernel_rfl) (by kernel_rfl) (⟨HB.out, xl⟩) ?_; (iterate 15 (refine wpMix_q rfl (fun K hK => ?_); (go_simp; try go_bits); (refine hK _ ?_; clear hK K))); refine wpMix_e1 rfl rfl (fun osm9_0 dm9_0 K hK => ?_); (refine store1_wp 3 _ _ rfl (HV.out.1.bl.on (show Junk V (V.drew.junk osm9_0 dm9_0) by (exact jkc))) 11 .i64 t (by kernel_rfl) rfl rfl (by rw [slL_len]; omega) ?_; intro w9 hg9 hb9; have HF9 := Lib.hid (show ((fun V => Box V s 188 [.slice (some ⟨sl, 0, none⟩) 256 256, .slice (some ⟨tb, 0, none⟩) 1024 tc, .pointer (some ⟨wh, 0, none⟩), .int .i64 1] ∧ sl < V.heap.size)) w9 from ⟨(HB.out.on (show Junk V (V.drew.junk osm9_0 dm9_0) by (exact jkc))).grown hg9 (by simp; omega), hb9.lt⟩); have HG9 := Lib.hid (And.intro hg9 hb9); clear hg9 hb9); refine hK _ _ (⟨⟨_, by first | exact HF9.out | exact HF10.out⟩, rfl⟩) ?_; clear hK K; (iterate 3 (refine wpMix_q rfl (fun K hK => ?_); (go_simp; try go_bits); (refine hK _ ?_; clear hK K))); refine wpMix_e1 rfl rfl (fun osm9_1 dm9_1 K hK => ?_); (refine store1_wp 3 _ _ rfl (HG9.out.2.on (show Junk w9 (w9.junk osm9_1 dm9_1) by (exact jkc))) 12 .i64 n (by kernel_rfl) rfl rfl (by rw [List.length_set, slL_len]; omega) ?_; intro w10 hg10 hb10; have HF10 := Lib.hid (show ((fun V => Box V s 188 [.slice (some ⟨sl, 0, none⟩) 256 256, .slice (some ⟨tb, 0, none⟩) 1024 tc, .pointer (some ⟨wh, 0, none⟩), .int .i64 1] ∧ sl < V.heap.size)) w10 from ⟨(HF9.out.1.on (show Junk w9 (w9.junk osm9_1 dm9_1) by (exact jkc))).grown hg10 (by simp; omega), hb10.lt⟩); have HG10 := Lib.hid (And.intro hg10 hb10); clear hg10 hb10); refine hK _ _ (⟨⟨_, by first | exact HF9.out | exact HF10.out⟩, rfl⟩) ?_; clear hK K; refine wpMix_nil (fun osm dm => ?_)
  go_upto_region 10 with (fail)
  have J9 : Junk V (V.drew.junk osm9_0 dm9_0) := by (exact jkc)
  have J10 : Junk w9 (w9.junk osm9_1 dm9_1) := ⟨_, _, rfl⟩
  have T9 : Tch (fun k => k = sl) V w10 := (((Tch.of_junk (L := fun k => k = sl) J9).grown HG9.out.1 (fun _ => rfl)).on J10).grown HG10.out.1 (fun _ => rfl)
  have b10 := HG10.out.2
  rw [slL_set] at b10
  refine wp_keep (fun X => Tch (fun k => k = sl) V X ∧ Box X sl 191 (slL (some { f with till := t, note := n }))) ⟨T9.on ⟨_, _, rfl⟩, b10.on ⟨_, _, rfl⟩⟩ ?_
  intro X ⟨hT, hb⟩
  have nd := HV.out.1.nd
  have xb := HV.out.1.bs.tch hT (by first | (simp only; omega) | omega)
  have x2 := xb.cell (j := 2) rfl
  have x3 := xb.lt
  have HW := Lib.hid (HV.out.1.bw.tch hT (by first | (simp only; omega) | omega) (by first | (simp only; omega) | omega) (by first | (simp only; omega) | omega))
  have HT := Lib.hid (own_keep HV.out.1.bt hT (by first | (simp only; omega) | omega))
  have HX := Lib.hid (And.intro hT (And.intro hb xb))
  clear HG9 HG10 HF9 HF10 T9 b10 hT hb xb J9 J10 k0 k1 k2 hn HB
  go_wp2_with (first | (go_at_call 237; (with_reducible refine (wset_old wh mp li lc f.till t now _ (HW.out.on (by (exact jkc))) H012.out.1 H012.out.2.1 H012.out.2.2).mono ?_); rintro e V8 ⟨rfl, hW8, hT8⟩; have H8 := Lib.hid (And.intro hW8 hT8); clear hW8 hT8))
  go_ret
  have T8 := H8.out.2
  exact ⟨rfl, FS1.on ⟨HX.out.2.2.tch T8 (by first | (simp only; omega) | omega), HX.out.2.1.tch T8 (by first | (simp only; omega) | omega), own_keep HT.out T8 (by first | (simp only; omega) | omega), H8.out.1, nd⟩ (by (exact jkc)), ((HV.out.2.trans (HX.out.1.mono (fun k hk => .inl hk))).trans (T8.mono (fun k hk => .inr hk))).on (by (exact jkc))⟩
end Go.Proofs.YtfhkhnoiolkkdaaGreatDoor
set_option linter.unusedVariables false
set_option maxRecDepth 100000
set_option linter.unusedSimpArgs false
namespace Go.Proofs.YtfhkhnoiolkkdaaGreatDoor
open Go.RowKit Go.Ix
structure FG (w V : World) (s sl tb tc wh : Nat) (many : Int) (o : Option Fl) (T : Tb) (f : Fl) (rb fb : Nat) : Prop where
  bs : Box V s 188 [.slice (some ⟨sl, 0, none⟩) 256 256, .slice (some ⟨tb, 0, none⟩) 1024 tc, .pointer (some ⟨wh, 0, none⟩), .int .i64 many]
  bl : Box V sl 191 (slL o)
  bt : Own 0 V 324 7 (some ⟨tb, 0, none⟩) tc 1024 (tbL T)
  nd : s ≠ sl ∧ s ≠ tb ∧ sl ≠ tb
  b : Box V fb 50 f.cells
  r : Box V rb 50 fl0
  lt : fb ≠ s ∧ fb ≠ sl ∧ rb ≠ s ∧ rb ≠ sl
  nt : tb < w.heap.size ∨ fb < tb
  t : Tch (fun k => k = s ∨ k = sl) w V
section
variable {w V V' : World} {s sl tb tc wh fb rb g g' : Nat} {many : Int} {o : Option Fl} {T T' : Tb} {f : Fl}
theorem FG.on (h : FG w V s sl tb tc wh many o T f rb fb) (j : Junk V V') : FG w V' s sl tb tc wh many o T f rb fb :=
  ⟨h.bs.on j, h.bl.on j, h.bt.on j, h.nd, h.b.on j, h.r.on j, h.lt, h.nt, h.t.on j⟩
theorem FG.slot (h : FG w V s sl tb tc wh many o T f rb fb) (hg : V.grownBy V' (some sl)) (hb : Box V' sl 191 (slL none)) : FG w V' s sl tb tc wh many none T f rb fb := by
  have t : Tch (fun k => k = sl) V V' := Tch.of_grown hg rfl
  have n := h.nd
  have l := h.lt
  exact ⟨h.bs.tch t (by first | (simp only; omega) | omega), hb, own_keep h.bt t (by first | (simp only; omega) | omega), h.nd, h.b.tch t (by first | (simp only; omega) | omega), h.r.tch t (by first | (simp only; omega) | omega), h.lt, h.nt, h.t.trans (t.mono (fun k hk => .inr hk))⟩
theorem FG.table2 (h : FG w V s sl tb tc wh many o T f rb fb) {X0 X : Array Obj} {d0 d : Nat} (ho : Own V.heap.size (V.junk X0 d0) 324 7 (some ⟨g, 0, none⟩) g' 1024 (tbL T')) (hx : Junk (V.junk X0 d0) (V.junk X d)) : FG w ((V.setCell ⟨s, 1, none⟩ (.slice (some ⟨g, 0, none⟩) 1024 g')).junk X d) s sl g g' wh many o T' f rb fb := by
  rw [← World.setCell_junk _ _ _ _ _ _ h.bs.lt]
  have h1 := h.on (show Junk V (V.junk X d) from ⟨_, _, rfl⟩)
  have l1 := h.bs.lt
  have l2' := h.bl.lt
  have l3 := h.b.lt
  have n := h.nd
  have l2 := h.lt
  have hg := own_at_le ho
  have t : Tch (fun k => k = s) (V.junk X d) ((V.junk X d).setCell ⟨s, 1, none⟩ (.slice (some ⟨g, 0, none⟩) 1024 g')) := (Tch.refl (L := fun k => k = s) _).set _ (fun _ => rfl)
  exact ⟨h1.bs.set 1 _, h1.bl.tch t (by first | (simp only; omega) | omega), (own_keep (ho.on hx) t (by first | (simp only; omega) | omega)).lower (Nat.zero_le _), by omega, h1.b.tch t (by first | (simp only; omega) | omega), h1.r.tch t (by first | (simp only; omega) | omega), h.lt, by omega, h1.t.trans (t.mono (fun k hk => .inl hk))⟩
theorem FG.less (h : FG w V s sl tb tc wh many o T f rb fb) (n : Int) : FG w (V.setCell ⟨s, 3, none⟩ (.int .i64 n)) s sl tb tc wh n o T f rb fb := by
  have nd := h.nd
  have l2 := h.lt
  have t : Tch (fun k => k = s) V (V.setCell ⟨s, 3, none⟩ (.int .i64 n)) := (Tch.refl (L := fun k => k = s) _).set _ (fun _ => rfl)
  exact ⟨h.bs.set 3 _, h.bl.tch t (by first | (simp only; omega) | omega), own_keep h.bt t (by first | (simp only; omega) | omega), nd, h.b.tch t (by first | (simp only; omega) | omega), h.r.tch t (by first | (simp only; omega) | omega), h.lt, h.nt, h.t.trans (t.mono (fun k hk => .inl hk))⟩
end
theorem three_free (a b : Nat) : ∃ z, z < 1024 ∧ z ≠ a ∧ z ≠ b := by
  by_cases h0 : (0 : Nat) ≠ a ∧ (0 : Nat) ≠ b
  · exact ⟨0, by decide, h0.1, h0.2⟩
  · by_cases h1 : (1 : Nat) ≠ a ∧ (1 : Nat) ≠ b
    · exact ⟨1, by decide, h1.1, h1.2⟩
    · exact ⟨2, by decide, by omega, by omega⟩
set_option maxHeartbeats 4000000 in
theorem fforget_any (s sl tb tc wh : Nat) (f : Fl) (w : World) (hbs : Box w s 188 [.slice (some ⟨sl, 0, none⟩) 256 256, .slice (some ⟨tb, 0, none⟩) 1024 tc, .pointer (some ⟨wh, 0, none⟩), .int .i64 1]) (hbl : Box w sl 191 (slL (some f)))
    (hbt : Own 0 w 324 7 (some ⟨tb, 0, none⟩) tc 1024 (tbL (T2 f.there 0 f.back 1))) (hnd : s ≠ sl ∧ s ≠ tb ∧ sl ≠ tb) (hf : FlOk f) :
    Calls Tryz.prog 89 #[.pointer (some ⟨s, 0, none⟩), .int .i64 0] w fun e w' => e = .returned (.agg #[.int .i64 f.there.proto, .int .u32 f.there.src, .int .i64 f.there.sport, .int .u32 f.there.dst, .int .i64 f.there.dport, .int .i64 f.back.proto, .int .u32 f.back.src, .int .i64 f.back.sport, .int .u32 f.back.dst, .int .i64 f.back.dport, .int .i64 f.till, .int .i64 f.note]) ∧ ∃ tb' tc', Box w' s 188 [.slice (some ⟨sl, 0, none⟩) 256 256, .slice (some ⟨tb', 0, none⟩) 1024 tc', .pointer (some ⟨wh, 0, none⟩), .int .i64 0] ∧ Box w' sl 191 (slL none) ∧ Own 0 w' 324 7 (some ⟨tb', 0, none⟩) tc' 1024 (tbL T0) ∧ w.heap.size ≤ tb' ∧ Tch (fun k => k = s ∨ k = sl) w w' := by
  obtain ⟨z1, hzl1, hza, hzb⟩ := three_free (pl2 f.there f.back) (hN f.there % 1024)
  obtain ⟨z2, hzl2, hzc, _⟩ := three_free (hN f.back % 1024) 0
  have hz1 := Lib.hid (show (T2 f.there 0 f.back 1)[z1]? = some none by rw [T2_at hf.ne hzl1, if_neg hza, if_neg hzb])
  have hz2 := Lib.hid (show (T1 f.back 1)[z2]? = some none by rw [T1_at hzl2, if_neg hzc])
  clear hza hzb hzc hzl1 hzl2
  have HFO := Lib.hid hf
  have l1 := hbs.lt
  have l2 := hbl.lt
  have l3 := own_at_le hbt
  have HG0 := Lib.hid (show FG w ((w.alloc (.cells #[.int .i64 0, .int .u32 0, .int .i64 0, .int .u32 0, .int .i64 0, .int .i64 0, .int .u32 0, .int .i64 0, .int .u32 0, .int .i64 0, .int .i64 0, .int .i64 0] 50)).alloc (.cells #[.int .i64 f.there.proto, .int .u32 f.there.src, .int .i64 f.there.sport, .int .u32 f.there.dst, .int .i64 f.there.dport, .int .i64 f.back.proto, .int .u32 f.back.src, .int .i64 f.back.sport, .int .u32 f.back.dst, .int .i64 f.back.dport, .int .i64 f.till, .int .i64 f.note] 50)) s sl tb tc wh 1 (some f) (T2 f.there 0 f.back 1) f w.heap.size (w.heap.size + 1) from
    ⟨hbs.on (by (exact jkc)), hbl.on (by (exact jkc)), hbt.on (by (exact jkc)), hnd, box_at' (by simp) rfl, (box_at' (V := w) rfl rfl).on (by (exact jkc)), by omega, .inl l3.2, ((Tch.refl w).new _).new _⟩)
  have z0 := hbs.cell (j := 0) rfl
  obtain ⟨y0, y1, y2, y3, y4, y5, y6, y7, y8, y9, y10, y11, y12⟩ := sl_flow hbl
  clear hbs hbl hbt hf l3
  go_enter Tryz.func89, Tryz.ntmps89
  go_upto_region 2 with (fail)
  refine wp_keep (fun V => FG w V s sl tb tc wh 1 (some f) (T2 f.there 0 f.back 1) f w.heap.size (w.heap.size + 1)) (HG0.out.on (by (exact jkc))) ?_
  intro V1 hV
  have H1 := Lib.hid hV
  have x0 := hV.bs.cell (j := 0) rfl
  have xs := hV.bs.lt
  clear hV HG0 z0 y0 y1 y2 y3 y4 y5 y6 y7 y8 y9 y10 y11 y12
  go_upto_region 3 with (first | ((with_reducible show wpList _ _ _ _ _ _); refine wpList_storeBox rfl 191 _ _ rfl H1.out.bl 0 (slotL none).toArray (show (Tryz.prog.info? 191).map (·.size) = some 13 from by kernel_rfl) rfl rfl (by rw [slL_len]; show 0 + 13 ≤ 3328; omega) (by simp [slotL, fl0, Value.oneCell']) ?_; intro w2 hg2 hb2; rw [show (slotL none).toArray.toList = slotL none from rfl, slL_put] at hb2; have HF2 := Lib.hid (H1.out.slot hg2 hb2); clear hg2 hb2))
  refine wp_keep (fun V => FG w V s sl tb tc wh 1 none (T2 f.there 0 f.back 1) f w.heap.size (w.heap.size + 1)) (HF2.out.on (by (exact jkc))) ?_
  intro V3 hV
  have H3 := Lib.hid hV
  have x1 := hV.bs.cell (j := 1) rfl
  have xf := hV.bs.frozen 1
  have xs := hV.bs.lt
  have c0 := hV.b.cell (j := 0) rfl
  have c1 := hV.b.cell (j := 1) rfl
  have c2 := hV.b.cell (j := 2) rfl
  have c3 := hV.b.cell (j := 3) rfl
  have c4 := hV.b.cell (j := 4) rfl
  have xb := hV.b.lt
  clear hV HF2
  refine wp_region_mixa (V3) [] [13] [10] #[true, true, true, true, true, true, true, true, true, true, true, true, true, false] [(0, true), (1, true), (2, true), (3, true), (4, true), (5, true), (6, true), (7, false), (8, true), (9, true), (10, true), (11, true), (12, true)] [(13, false)] (by kernel_rfl) (by kernel_rfl) (by (exact jkc)) (by intro e he; simp at he) ?_; (iterate 7 (refine wpMixB_q rfl (fun K hK => ?_); (go_simp; try go_bits); (refine hK _ ?_; clear hK K))); refine wpMixB_e rfl (fun osm3_0 dm3_0 K hK => ?_); (go_simp; try go_bits); (go_at_call 158; (with_reducible refine (idel_any (T2 f.there 0 f.back 1) f.there tb tc (hN f.there % 1024) z1 _ HFO.out.tb HFO.out.tw (TbAt.own (H3.out.bt.on (by (exact jkc))) (by decide)) (T2_find1 HFO.out.ne) (Nat.mod_lt _ (by decide)) hz1.out).mono ?_); rintro e w' ⟨g3, h3, rfl, ⟨osp3, dp3, rfl⟩, hO⟩; rw [T2_delF HFO.out.ne 1024 rfl] at hO; have HO3 := Lib.hid hO; clear hO); refine hK _ _ (by first | exact jkc | assumption) ?_; clear hK K; (iterate 5 (refine wpMixB_q rfl (fun K hK => ?_); (go_simp; try go_bits); (refine hK _ ?_; clear hK K))); refine wpMixB_nil (fun osm3_1 dm3_1 => ?_); change wpMix _ _ _ _ _ _ _; refine wpMix_e rfl (fun osm3_2 dm3_2 K hK => ?_); (go_simp; try go_bits); refine hK _ _ trivial ?_; clear hK K; refine wpMix_nil (fun osm dm => ?_)
  go_upto_region 4 with (fail)
  have ho3 : Own V3.heap.size (V3.junk (osm3_0 ++ osp3) dp3) 324 7 (some ⟨g3, 0, none⟩) h3 1024 (tbL (T1 f.back 1)) := by
    have := HO3.out.lower (B' := V3.heap.size) (by simp)
    rw [World.junk_junk] at this
    exact this
  have K3 := Lib.hid (H3.out.table2 (X := osm3_0 ++ (osp3 ++ (osm3_1 ++ osm3_2))) (d := dm3_2) ho3 (by (exact jkc)))
  refine wp_keep (fun V => FG w V s sl g3 h3 wh 1 none (T1 f.back 1) f w.heap.size (w.heap.size + 1)) (K3.out.on ⟨_, _, rfl⟩) ?_
  intro V5 hV
  have H5 := Lib.hid hV
  have x1 := hV.bs.cell (j := 1) rfl
  have xf := hV.bs.frozen 1
  have xs := hV.bs.lt
  have c5 := hV.b.cell (j := 5) rfl
  have c6 := hV.b.cell (j := 6) rfl
  have c7 := hV.b.cell (j := 7) rfl
  have c8 := hV.b.cell (j := 8) rfl
  have c9 := hV.b.cell (j := 9) rfl
  have xb := hV.b.lt
  clear hV H3 K3 HO3 ho3 c0 c1 c2 c3 c4
  refine wp_region_mixa (V5) [] [13] [10] #[true, true, true, true, true, true, true, true, true, true, true, true, true, false] [(0, true), (1, true), (2, true), (3, true), (4, true), (5, true), (6, true), (7, false), (8, true), (9, true), (10, true), (11, true), (12, true)] [(13, false)] (by kernel_rfl) (by kernel_rfl) (by (exact jkc)) (by intro e he; simp at he) ?_; (iterate 7 (refine wpMixB_q rfl (fun K hK => ?_); (go_simp; try go_bits); (refine hK _ ?_; clear hK K))); refine wpMixB_e rfl (fun osm4_0 dm4_0 K hK => ?_); (go_simp; try go_bits); (go_at_call 158; (with_reducible refine (idel_any (T1 f.back 1) f.back g3 h3 (hN f.back % 1024) z2 _ (T1_ok HFO.out.bw HFO.out.br) HFO.out.bw (TbAt.own (H5.out.bt.on (by (exact jkc))) (by decide)) (T1_find1 f.back 1) (Nat.mod_lt _ (by decide)) hz2.out).mono ?_); rintro e w' ⟨g5, h5, rfl, ⟨osp5, dp5, rfl⟩, hO⟩; rw [T1_delF f.back 1 1024 rfl] at hO; have HO5 := Lib.hid hO; clear hO); refine hK _ _ (by first | exact jkc | assumption) ?_; clear hK K; (iterate 5 (refine wpMixB_q rfl (fun K hK => ?_); (go_simp; try go_bits); (refine hK _ ?_; clear hK K))); refine wpMixB_nil (fun osm4_1 dm4_1 => ?_); change wpMix _ _ _ _ _ _ _; refine wpMix_e rfl (fun osm4_2 dm4_2 K hK => ?_); (go_simp; try go_bits); refine hK _ _ trivial ?_; clear hK K; refine wpMix_nil (fun osm dm => ?_)
  go_upto_region 5 with (fail)
  have ho5 : Own V5.heap.size (V5.junk (osm4_0 ++ osp5) dp5) 324 7 (some ⟨g5, 0, none⟩) h5 1024 (tbL (T0)) := by
    have := HO5.out.lower (B' := V5.heap.size) (by simp)
    rw [World.junk_junk] at this
    exact this
  have K5 := Lib.hid (H5.out.table2 (X := osm4_0 ++ (osp5 ++ (osm4_1 ++ osm4_2))) (d := dm4_2) ho5 (by (exact jkc)))
  refine wp_keep (fun V => FG w V s sl g5 h5 wh 1 none T0 f w.heap.size (w.heap.size + 1) ∧ V5.heap.size ≤ g5) ⟨K5.out.on ⟨_, _, rfl⟩, (own_at_le ho5).1⟩ ?_
  intro V7 ⟨hV, hg5⟩
  have H7 := Lib.hid hV
  have x3 := hV.bs.cell (j := 3) rfl
  have xf := hV.bs.frozen 3
  have xs := hV.bs.lt
  have l5 := H5.out.t.size
  have hnt := hV.nt
  clear hV H5 K5 HO5 ho5 x1 c5 c6 c7 c8 c9 hz1 hz2
  go_upto_region 6 with (fail)
  refine wp_keep (fun V => FG w V s sl g5 h5 wh 0 none T0 f w.heap.size (w.heap.size + 1)) ((H7.out.less 0).on (by (exact jkc))) ?_
  intro V9 hV
  have H9 := Lib.hid hV
  have c0 := hV.b.cell (j := 0) rfl
  have c1 := hV.b.cell (j := 1) rfl
  have c2 := hV.b.cell (j := 2) rfl
  have c3 := hV.b.cell (j := 3) rfl
  have c4 := hV.b.cell (j := 4) rfl
  have c5 := hV.b.cell (j := 5) rfl
  have c6 := hV.b.cell (j := 6) rfl
  have c7 := hV.b.cell (j := 7) rfl
  have c8 := hV.b.cell (j := 8) rfl
  have c9 := hV.b.cell (j := 9) rfl
  have c10 := hV.b.cell (j := 10) rfl
  have c11 := hV.b.cell (j := 11) rfl
  have xb := hV.b.lt
  clear hV H7 x3 xf xs
  go_wp2_with (first | ((with_reducible show wpList _ _ _ _ _ _); refine wpList_storeBox rfl 50 _ _ rfl H9.out.r 0 #[.int .i64 f.there.proto, .int .u32 f.there.src, .int .i64 f.there.sport, .int .u32 f.there.dst, .int .i64 f.there.dport, .int .i64 f.back.proto, .int .u32 f.back.src, .int .i64 f.back.sport, .int .u32 f.back.dst, .int .i64 f.back.dport, .int .i64 f.till, .int .i64 f.note] (show (Tryz.prog.info? 50).map (·.size) = some 12 from by kernel_rfl) rfl rfl (by show 0 + 12 ≤ 12; omega) (by simp [Value.oneCell']) ?_; intro w8 hg8 hb8; have H8 := Lib.hid (And.intro hg8 (show Box w8 w.heap.size 50 f.cells from hb8)); clear hg8 hb8))
  have T8 : Tch (fun k => k = w.heap.size) V9 w8 := Tch.of_grown H8.out.1 rfl
  have ld := H9.out.lt
  have l9 := own_at_le H9.out.bt
  refine bodyPost_ret (results_cell1 Tryz.results89 rfl ((H8.out.2.on (by (exact jkc))).loadVar 50 Tryz.isAgg50 Tryz.sizeOf50)) rfl ?_
  have TF : Tch (fun k => k = s ∨ k = sl) w w8 := H9.out.t.then T8 (fun i hi e => by have e : i = w.heap.size := e; omega)
  exact ⟨rfl, g5, h5, (H9.out.bs.tch T8 (by first | (simp only; omega) | omega)).on (by (exact jkc)), (H9.out.bl.tch T8 (by first | (simp only; omega) | omega)).on (by (exact jkc)), (own_keep H9.out.bt T8 (by first | (simp only; omega) | omega)).on (by (exact jkc)), by omega, TF.on (by (exact jkc))⟩
end Go.Proofs.YtfhkhnoiolkkdaaGreatDoor
set_option linter.unusedVariables false
set_option maxRecDepth 100000
set_option linter.unusedSimpArgs false
namespace Go.Proofs.YtfhkhnoiolkkdaaGreatDoor
open Go.RowKit Go.Ix
set_option maxHeartbeats 1000000 in
theorem ftick0 (s sl tb tc wh mp : Nat) (oa : Option Addr) (c : Nat) (now n2 : Int) (w : World) (h : FS0 w s sl tb tc wh mp oa c now) (h1 : now ≤ n2) (h2 : n2 ≤ 1099511627776) :
    Calls Tryz.prog 35 #[.pointer (some ⟨s, 0, none⟩), .int .i64 n2] w fun e w' => e = .returned (.tuple #[.slice none 0 0, .int .i64 0]) ∧ FS0 w' s sl tb tc wh mp oa c n2 ∧ Tch (fun k => k = wh) w w' := by
  have HH := Lib.hid h
  have z2 := h.bs.cell (j := 2) rfl
  have zs := h.bs.lt
  have HT := Lib.hid (fun w1 (hj : Junk w w1) => wtick0 wh mp oa c now n2 w1 (h.on hj).bw h1 h2)
  clear h h1 h2
  go_enter Tryz.func35, Tryz.ntmps35
  go_wp2_with (first | (go_at_call 88; (with_reducible refine (HT.out _ (by (exact jkc))).mono ?_); rintro e V ⟨rfl, hW, hT⟩; have HW := Lib.hid (And.intro hW hT); clear hW hT))
  refine wp_loop_rounds 1 ?_
  rw [rounds_succ]
  go_wp2
  go_returns
  have nd := HH.out.nd
  have T := HW.out.2
  exact ⟨rfl, FS0.on ⟨HH.out.bs.tch T (by first | (simp only; omega) | omega), HH.out.bl.tch T (by first | (simp only; omega) | omega), own_keep HH.out.bt T (by first | (simp only; omega) | omega), HW.out.1, nd⟩ (by (exact jkc)), T.on (by (exact jkc))⟩
set_option maxHeartbeats 1000000 in
theorem ftick1a (s sl tb tc wh mp li lc : Nat) (f : Fl) (now n2 : Int) (w : World) (h : FS1 w s sl tb tc wh mp li lc f now) (h1 : now ≤ n2) (h2 : n2 ≤ 1099511627776) (h3 : n2 < f.till) :
    Calls Tryz.prog 35 #[.pointer (some ⟨s, 0, none⟩), .int .i64 n2] w fun e w' => e = .returned (.tuple #[.slice none 0 0, .int .i64 0]) ∧ FS1 w' s sl tb tc wh mp li lc f n2 ∧ Tch (fun k => k = wh) w w' := by
  have HH := Lib.hid h
  have z2 := h.bs.cell (j := 2) rfl
  have zs := h.bs.lt
  have HT := Lib.hid (fun w1 (hj : Junk w w1) => wtick1a wh mp li lc f.till now n2 w1 (h.on hj).bw h1 h2 h3)
  clear h h1 h2 h3
  go_enter Tryz.func35, Tryz.ntmps35
  go_wp2_with (first | (go_at_call 88; (with_reducible refine (HT.out _ (by (exact jkc))).mono ?_); rintro e V ⟨rfl, hW, hT⟩; have HW := Lib.hid (And.intro hW hT); clear hW hT))
  refine wp_loop_rounds 1 ?_
  rw [rounds_succ]
  go_wp2
  go_returns
  have nd := HH.out.nd
  have T := HW.out.2
  exact ⟨rfl, FS1.on ⟨HH.out.bs.tch T (by first | (simp only; omega) | omega), HH.out.bl.tch T (by first | (simp only; omega) | omega), own_keep HH.out.bt T (by first | (simp only; omega) | omega), HW.out.1, nd⟩ (by (exact jkc)), T.on (by (exact jkc))⟩
def LT (s sl wh mp li : Nat) : Nat → Prop := fun k => k = s ∨ k = sl ∨ k = wh ∨ k = mp ∨ k = li
set_option maxHeartbeats 4000000 in
theorem ftick1b (s sl tb tc wh mp li lc : Nat) (f : Fl) (now n2 : Int) (w : World) (h : FS1 w s sl tb tc wh mp li lc f now) (hf : FlOk f) (h1 : now ≤ n2) (h2 : n2 ≤ 1099511627776) (h3 : f.till ≤ n2) :
    Calls Tryz.prog 35 #[.pointer (some ⟨s, 0, none⟩), .int .i64 n2] w fun e w' => (∃ oa c, e = .returned (.tuple #[.slice oa 1 c, .int .i64 0])) ∧ ∃ tb' tc', FS0 w' s sl tb' tc' wh mp (some ⟨li, 0, none⟩) lc n2 ∧ Tch (LT s sl wh mp li) w w' := by
  have HH := Lib.hid h
  have z2 := h.bs.cell (j := 2) rfl
  have zs := h.bs.lt
  have HT := Lib.hid (fun w1 (hj : Junk w w1) => wtick1b wh mp li lc f.till now n2 w1 (h.on hj).bw h1 h2 h3)
  have HFO := Lib.hid hf
  clear h h1 h2 h3 hf
  go_enter Tryz.func35, Tryz.ntmps35
  go_wp2_with (first | (go_at_call 88; (with_reducible refine (HT.out _ (by (exact jkc))).mono ?_); rintro e V ⟨⟨g, cap, rfl, gl, gc, gb⟩, hW, hT⟩; have HW := Lib.hid (And.intro gb (And.intro hW hT)); clear hW hT gb))
  have nd := HH.out.nd
  have hbs := HH.out.bs.lt
  have hli := HH.out.bw.lt.1
  have T := HW.out.2.2
  have hsz := T.size
  have n1 : ∀ k, (k = s ∨ k = sl ∨ k = tb) → ¬ LX wh mp li k := fun k hk e => by
    have e : k = wh ∨ k = mp ∨ k = li := e
    omega
  have HB := Lib.hid (And.intro (HH.out.bs.tch T (n1 s (.inl rfl))) (And.intro (HH.out.bl.tch T (n1 sl (.inr (.inl rfl)))) (own_keep HH.out.bt T (n1 tb (.inr (.inr rfl))))))
  have HFG := Lib.hid (fun w1 (hj : Junk V w1) => fforget_any s sl tb tc wh f w1 (HB.out.1.on hj) (HB.out.2.1.on hj) (HB.out.2.2.on hj) (by omega) HFO.out)
  clear z2 HT T
  refine wp_loop_rounds 2 ?_
  rw [rounds_succ]
  go_wp2_with (first
    | (go_at_call 89; (with_reducible refine (HFG.out _ (by (exact jkc))).mono ?_); rintro e X ⟨rfl, tb2, tc2, b1, b2, b3, b4, b5⟩; have HX := Lib.hid (And.intro b1 (And.intro b2 (And.intro b3 (And.intro b4 b5)))); clear b1 b2 b3 b4 b5)
    | (at_builtin; (refine ap_own (W0 := X) rfl _ _ 44 rfl 50 (.agg #[.int .i64 0, .int .u32 0, .int .i64 0, .int .u32 0, .int .i64 0, .int .i64 0, .int .u32 0, .int .i64 0, .int .u32 0, .int .i64 0, .int .i64 0, .int .i64 0]) 12 96 (by kernel_rfl) rfl (by decide) Tryz.underlying44 (by (exact jkc)) _ 0 0 [] rfl (Own.nil _ _ _ _) _ 1 1 rfl [.int .i64 f.there.proto, .int .u32 f.there.src, .int .i64 f.there.sport, .int .u32 f.there.dst, .int .i64 f.there.dport, .int .i64 f.back.proto, .int .u32 f.back.src, .int .i64 f.back.sport, .int .u32 f.back.dst, .int .i64 f.back.dport, .int .i64 f.till, .int .i64 f.note] rfl (built_cells (by simp)) (fun h => by cases h) (by simp [Value.oneCell']) (by simp only [maxLen]; omega) (by omega) ?_; intro oa1 cap1 os1 d1 hown _; have HO := Lib.hid hown; clear hown)))
  rw [rounds_succ]
  go_wp2
  go_returns
  obtain ⟨b1, b2, b3, b4, b5⟩ := HX.out
  have l1 := HW.out.2.1.box.lt
  have l2 := HW.out.2.1.mm.lt
  have hbl := HH.out.bl.lt
  have J1 : Tch (LT s sl wh mp li) w V := HW.out.2.2.mono (fun k hk => .inr (.inr hk))
  have J2 : Tch (LT s sl wh mp li) V X := (Tch.of_junk (by (exact jkc))).trans (b5.mono (fun k hk => hk.elim .inl (fun e => .inr (.inl e))))
  have hs2 := J2.size
  have b4' : V.heap.size ≤ tb2 := Nat.le_trans (by simp) b4
  refine ⟨⟨oa1, cap1, rfl⟩, tb2, tc2, FS0.on ⟨b1, b2, b3, (HW.out.2.1.on (by (exact jkc))).tch b5 (by first | (simp only; omega) | omega) (by first | (simp only; omega) | omega), by omega⟩ (by (exact jkc)), (J1.trans J2).on (by (exact jkc))⟩
end Go.Proofs.YtfhkhnoiolkkdaaGreatDoor
set_option linter.unusedVariables false
set_option maxRecDepth 100000
set_option linter.unusedSimpArgs false
namespace Go.Proofs.YtfhkhnoiolkkdaaGreatDoor
open Go.RowKit
structure Fp where
  sl : Nat
  tb : Nat
  tc : Nat
  wh : Nat
  mp : Nat
  li : Nat
  ac : Nat
structure GF (B : Nat) (w : World) (g : Gp) (now : Int) (lb lc : Nat) (q : Fp) (f : Fl) (P : Int) : Prop where
  gs : GS w g now (some ⟨lb, 0, none⟩) 1 lc
  ls : Own 0 w 52 5 (some ⟨lb, 0, none⟩) lc 1 (lnsL [⟨17, f.there.src, f.there.sport, P, f.till⟩])
  fs : FS1 w g.s q.sl q.tb q.tc q.wh q.mp q.li q.ac f now
  ok : FlOk f
  ne : g.tk ≠ q.mp
  lo : B ≤ g.G ∧ B ≤ g.s ∧ B ≤ q.sl ∧ B ≤ q.wh ∧ B ≤ q.mp ∧ B ≤ q.li
  pt : PtOk P f.there.sport
theorem GF.on {B : Nat} {w w' : World} {g : Gp} {now : Int} {lb lc : Nat} {q : Fp} {f : Fl} {P : Int} (h : GF B w g now lb lc q f P) (j : Junk w w') : GF B w' g now lb lc q f P :=
  ⟨h.gs.on j, own_keep (L := fun _ => False) h.ls (Tch.of_junk j) (fun e => e), h.fs.on j, h.ok, h.ne, h.lo, h.pt⟩
theorem GF.sepSL {B : Nat} {w : World} {g : Gp} {now : Int} {lb lc : Nat} {q : Fp} {f : Fl} {P : Int} (h : GF B w g now lb lc q f P) : (q.sl ≠ g.G ∧ q.sl ≠ g.rb ∧ q.sl ≠ g.ub ∧ q.sl ≠ g.tk) ∧ (q.li ≠ g.G ∧ q.li ≠ g.rb ∧ q.li ≠ g.ub ∧ q.li ≠ g.tk) ∧ q.sl ≠ lb ∧ q.li ≠ lb :=
  ⟨h.gs.sep (box_ty h.fs.bl) (by decide) (by decide) (by decide), h.gs.sep (own_ty h.fs.bw.ls) (by decide) (by decide) (by decide), (box_ty h.fs.bl).ne (own_ty h.ls) (by decide), (own_ty h.fs.bw.ls).ne (own_ty h.ls) (by decide)⟩
structure KE (w X : World) (g : Gp) (now t n : Int) (lb lc : Nat) (q : Fp) (f : Fl) (P : Int) (v fb : Nat) (vl : List Value) : Prop where
  gs : GS X g now (some ⟨lb, 0, none⟩) 1 lc
  ls : Own 0 X 52 5 (some ⟨lb, 0, none⟩) lc 1 (lnsL [⟨17, f.there.src, f.there.sport, P, f.till⟩])
  fs : FS1 X g.s q.sl q.tb q.tc q.wh q.mp q.li q.ac { f with till := t, note := n } now
  bv : Box X v 107 vl
  bf : Box X fb 50 [.int .i64 17, .int .u32 f.there.src, .int .i64 f.there.sport, .int .u32 f.there.dst, .int .i64 f.there.dport, .int .i64 f.back.proto, .int .u32 f.back.src, .int .i64 f.back.sport, .int .u32 f.back.dst, .int .i64 f.back.dport, .int .i64 f.till, .int .i64 f.note]
  t : Tch (fun k => k = q.sl ∨ k = q.li) w X
theorem KE.on {w X Y : World} {g : Gp} {now t n : Int} {lb lc : Nat} {q : Fp} {f : Fl} {P : Int} {v fb : Nat} {vl : List Value} (h : KE w X g now t n lb lc q f P v fb vl) (j : Junk X Y) : KE w Y g now t n lb lc q f P v fb vl :=
  ⟨h.gs.on j, own_keep (L := fun _ => False) h.ls (Tch.of_junk j) (fun e => e), h.fs.on j, h.bv.on j, h.bf.on j, h.t.on j⟩
theorem GF.sepG {B : Nat} {w : World} {g : Gp} {now : Int} {oa : Option Addr} {l c : Nat} {s sl tb tc wh mp li ac : Nat} {f : Fl} (h : GS w g now oa l c) (k : FS1 w s sl tb tc wh mp li ac f now) : g.rb ≠ g.G ∧ g.ub ≠ g.G ∧ g.tk ≠ g.G ∧ s ≠ g.G ∧ sl ≠ g.G ∧ tb ≠ g.G ∧ wh ≠ g.G ∧ mp ≠ g.G ∧ li ≠ g.G :=
  ⟨(own_ty h.r).ne (box_ty h.b) (by decide), (own_ty h.u).ne (box_ty h.b) (by decide), ((box_ty h.b).map0 h.t).symm, (box_ty k.bs).ne (box_ty h.b) (by decide), (box_ty k.bl).ne (box_ty h.b) (by decide), (own_ty k.bt).ne (box_ty h.b) (by decide), (box_ty k.bw.box).ne (box_ty h.b) (by decide), ((box_ty h.b).map1 k.bw.mm).symm, (own_ty k.bw.ls).ne (box_ty h.b) (by decide)⟩
theorem KE.done {B : Nat} {w Z : World} {g : Gp} {now n0 t n : Int} {lb lc lb0 lc0 : Nat} {q : Fp} {f : Fl} {P : Int} {v fb : Nat} {vl : List Value} {ob : Option Addr} {cap : Nat} {X0 X : Array Obj} {d0 d : Nat} (h : KE w Z g now t n lb lc q f P v fb vl) (hH : GF B w g n0 lb0 lc0 q f P) (h0 : 0 ≤ t) (h2 : t ≤ 1099511627776)
    (ho : Own Z.heap.size (Z.junk X0 d0) 52 5 ob cap 1 (lnsL [⟨17, f.there.src, f.there.sport, P, t⟩])) (hx : Junk (Z.junk X0 d0) (Z.junk X d)) :
    ∃ lb' lc', GF B ((Z.setCell ⟨g.G, 18, none⟩ (.slice ob 1 cap)).junk X d) g now lb' lc' q { f with till := t, note := n } P ∧ Box ((Z.setCell ⟨g.G, 18, none⟩ (.slice ob 1 cap)).junk X d) v 107 vl ∧ Tch (fun k => k = g.G ∨ k = q.sl ∨ k = q.li) w ((Z.setCell ⟨g.G, 18, none⟩ (.slice ob 1 cap)).junk X d) := by
  rw [← World.setCell_junk _ _ _ _ _ _ h.gs.b.lt]
  obtain ⟨lb', rfl⟩ := own_at0 ho (by decide)
  have h1 := h.on (⟨_, _, rfl⟩ : Junk Z (Z.junk X d))
  have ho1 := ho.on hx
  have T : Tch (fun k => k = g.G) (Z.junk X d) ((Z.junk X d).setCell ⟨g.G, 18, none⟩ (.slice (some ⟨lb', 0, none⟩) 1 cap)) := (Tch.refl (L := fun k => k = g.G) _).set _ (fun _ => rfl)
  obtain ⟨n1, n2, n3, n4, n5, n6, n7, n8, n9⟩ := GF.sepG (B := B) h1.gs h1.fs
  have n10 : lb' ≠ g.G := (own_ty ho1).ne (box_ty h1.gs.b) (by decide)
  have n11 : v ≠ g.G := (box_ty h1.bv).ne (box_ty h1.gs.b) (by decide)
  refine ⟨lb', cap, ⟨⟨h1.gs.b.set 18 _, own_keep h1.gs.r T n1, own_keep h1.gs.u T n2, h1.gs.t.tch T n3⟩, (own_keep ho1 T n10).lower (Nat.zero_le _), h1.fs.tch T n4 n5 n6 n7 n8 n9, ⟨hH.ok.tw, hH.ok.tr, hH.ok.bw, hH.ok.br, hH.ok.ne, h0, h2⟩, hH.ne, hH.lo, hH.pt⟩, h1.bv.tch T n11, ?_⟩
  exact (h1.t.mono (fun k hk => .inr hk)).trans (T.mono (fun k hk => .inl hk))
set_option maxHeartbeats 4000000 in
theorem vkeep_any (B v : Nat) (vl : List Value) (g : Gp) (now t n : Int) (lb lc : Nat) (q : Fp) (f : Fl) (P : Int) (w : World) (h : GF B w g now lb lc q f P) (hV : Box w v 107 vl) (hv0 : vl[0]? = some (.pointer (some ⟨g.G, 0, none⟩))) (h17 : f.there.proto = 17) (hsp : 0 ≤ f.there.sport ∧ f.there.sport ≤ 65535) (h0 : now < t) (h1 : f.till ≤ t) (h2 : t ≤ 1099511627776) :
    Calls Tryz.prog 136 #[.pointer (some ⟨v, 0, none⟩), .int .i64 0, .agg #[.int .i64 f.there.proto, .int .u32 f.there.src, .int .i64 f.there.sport, .int .u32 f.there.dst, .int .i64 f.there.dport, .int .i64 f.back.proto, .int .u32 f.back.src, .int .i64 f.back.sport, .int .u32 f.back.dst, .int .i64 f.back.dport, .int .i64 f.till, .int .i64 f.note], .int .i64 t, .int .i64 n] w fun e w' => e = .returned (.tuple #[]) ∧ ∃ lb' lc', GF B w' g now lb' lc' q { f with till := t, note := n } P ∧ Box w' v 107 vl ∧ Tch (fun k => k = g.G ∨ k = q.sl ∨ k = q.li) w w' := by
  have HH := Lib.hid h
  have HV := Lib.hid hV
  have hp0 := h.ok.tw
  have HSET := Lib.hid (fun w1 (hj : Junk w w1) => fset_any g.s q.sl q.tb q.tc q.wh q.mp q.li q.ac now t n f w1 (h.fs.on hj) (by have := h.ok.t0; omega) h2 h0)
  have v0 := hV.cell (j := 0) hv0
  have vs := hV.lt
  have g17 := h.gs.b.cell (j := 17) rfl
  have gs := h.gs.b.lt
  clear h hV
  go_enter Tryz.func136, Tryz.ntmps136
  go_upto_region 2 with (first | (go_at_call 196; (with_reducible refine (HSET.out _ (by (exact jkc))).mono ?_); rintro e w2 ⟨rfl, hf2, ht2⟩; have H2 := Lib.hid (And.intro hf2 ht2); clear hf2 ht2))
  refine wp_keep (fun X => KE w X g now t n lb lc q f P v w.heap.size vl) (by
    obtain ⟨s1, s2, s3, s4⟩ := HH.out.sepSL
    have b1 : Box (w.alloc (.cells #[.int .i64 17, .int .u32 f.there.src, .int .i64 f.there.sport, .int .u32 f.there.dst, .int .i64 f.there.dport, .int .i64 f.back.proto, .int .u32 f.back.src, .int .i64 f.back.sport, .int .u32 f.back.dst, .int .i64 f.back.dport, .int .i64 f.till, .int .i64 f.note] 50)) w.heap.size 50 [.int .i64 17, .int .u32 f.there.src, .int .i64 f.there.sport, .int .u32 f.there.dst, .int .i64 f.there.dport, .int .i64 f.back.proto, .int .u32 f.back.src, .int .i64 f.back.sport, .int .u32 f.back.dst, .int .i64 f.back.dport, .int .i64 f.till, .int .i64 f.note] := box_at' rfl rfl
    have h1 := HH.out.on (show Junk w (w.alloc (.cells #[.int .i64 17, .int .u32 f.there.src, .int .i64 f.there.sport, .int .u32 f.there.dst, .int .i64 f.there.dport, .int .i64 f.back.proto, .int .u32 f.back.src, .int .i64 f.back.sport, .int .u32 f.back.dst, .int .i64 f.back.dport, .int .i64 f.till, .int .i64 f.note] 50)) by (exact jkc))
    have hv1 := HV.out.on (show Junk w (w.alloc (.cells #[.int .i64 17, .int .u32 f.there.src, .int .i64 f.there.sport, .int .u32 f.there.dst, .int .i64 f.there.dport, .int .i64 f.back.proto, .int .u32 f.back.src, .int .i64 f.back.sport, .int .u32 f.back.dst, .int .i64 f.back.dport, .int .i64 f.till, .int .i64 f.note] 50)) by (exact jkc))
    have T := H2.out.2
    have l1 := HH.out.fs.bl.lt
    have l2 := (own_at_le HH.out.fs.bw.ls).2
    have n1 : ∀ k, (k = q.sl ∨ k = q.li) → k ≠ w.heap.size := fun k hk => by rcases hk with rfl | rfl <;> omega
    have n2 : v ≠ q.sl ∧ v ≠ q.li := ⟨(box_ty HV.out).ne (box_ty HH.out.fs.bl) (by decide), (box_ty HV.out).ne (own_ty HH.out.fs.bw.ls) (by decide)⟩
    exact ⟨h1.gs.tch T (fun e => by rcases e with e | e; exact s1.1 e.symm; exact s2.1 e.symm) (fun e => by rcases e with e | e; exact s1.2.1 e.symm; exact s2.2.1 e.symm) (fun e => by rcases e with e | e; exact s1.2.2.1 e.symm; exact s2.2.2.1 e.symm) (fun e => by rcases e with e | e; exact s1.2.2.2 e.symm; exact s2.2.2.2 e.symm),
      own_keep h1.ls T (fun e => by rcases e with e | e; exact s3 e.symm; exact s4 e.symm), H2.out.1, hv1.tch T (fun e => by rcases e with e | e; exact n2.1 e; exact n2.2 e), b1.tch T (fun e => n1 _ e rfl), ((Tch.refl w).new _).trans T⟩) ?_
  intro X hX
  have H3 := Lib.hid hX
  have v0 := hX.bv.cell (j := 0) hv0
  have vs := hX.bv.lt
  have g18 := hX.gs.b.cell (j := 18) rfl
  have gs := hX.gs.b.lt
  have f0 := hX.bf.cell (j := 0) rfl
  have f1 := hX.bf.cell (j := 1) rfl
  have f2 := hX.bf.cell (j := 2) rfl
  have fs := hX.bf.lt
  have HW := Lib.hid (fun w1 (hj : Junk X w1) => show Calls Tryz.prog 197 #[.slice (some ⟨lb, 0, none⟩) 1 lc, .int .i64 17, .int .u32 f.there.src, .int .i64 f.there.sport] w1 fun e w' => e = .returned (.tuple #[.agg #[.int .i64 17, .int .u32 f.there.src, .int .i64 f.there.sport, .int .i64 P, .int .i64 f.till], .bool true]) ∧ Junk w1 w' by
    have := whose_any 17 f.there.src f.there.sport (some ⟨lb, 0, none⟩) 1 lc [⟨17, f.there.src, f.there.sport, P, f.till⟩] w1 (by decide) rfl ((own_ls hX.ls).on hj)
    rw [whose_one] at this
    exact this)
  clear hX H2 HSET g17
  go_upto_region 3 with (fail)
  refine wp_keep (fun Y => KE w Y g now t n lb lc q f P v w.heap.size vl ∧ Junk X Y ∧ Box Y X.heap.size 52 [.int .i64 17, .int .u32 f.there.src, .int .i64 f.there.sport, .int .i64 0, .int .i64 t]) ⟨H3.out.on (by (exact jkc)), by (exact jkc), (box_at' (V := X) rfl rfl).on (by (exact jkc))⟩ ?_
  intro Y ⟨hX, hj, hb⟩
  have H4 := Lib.hid (And.intro hX (And.intro hj hb))
  have v0 := hX.bv.cell (j := 0) hv0
  have vs := hX.bv.lt
  have g18 := hX.gs.b.cell (j := 18) rfl
  have gs := hX.gs.b.lt
  have x0 := hb.cell (j := 0) rfl
  have x1 := hb.cell (j := 1) rfl
  have x2 := hb.cell (j := 2) rfl
  have xs := hb.lt
  clear hX hj hb f0 f1 f2 fs H3
  refine wp_region_mixa (Y) [(17, 52, [.int .i64 0, .int .u32 0, .int .i64 0, .int .i64 0, .int .i64 0])] [18, 19] [16] #[true, true, true, true, true, true, true, true, true, true, true, true, true, true, true, true, true, true, false, false] [(0, true), (1, true), (2, true), (3, true), (4, true), (5, true), (6, true), (7, true), (8, true), (9, true), (10, true), (11, true), (12, true), (13, false), (14, true), (15, true), (16, true)] [(18, false), (19, false)] (by kernel_rfl) (by kernel_rfl) (by (exact jkc)) (by intro e he a w hj; rcases (show e = 17 by simpa using he) with rfl <;> exact newVar_wpE rfl rfl rfl rfl (fun w => by first | rfl | kernel_rfl | simp [Instr.alloc]) a w hj) ?_; (iterate 13 (refine wpMixB_q rfl (fun K hK => ?_); (go_simp; try go_bits); (refine hK _ ?_; clear hK K))); refine wpMixB_e rfl (fun osm3_0 dm3_0 K hK => ?_); (go_simp; try go_bits); (go_at_call 197; (with_reducible refine (HW.out _ (H4.out.2.1.trans (by (exact jkc)))).mono ?_); rintro e w' ⟨rfl, ⟨osF, dF, rfl⟩⟩); refine hK _ _ (by first | exact jkc | assumption) ?_; clear hK K; (iterate 3 (refine wpMixB_q rfl (fun K hK => ?_); (go_simp; try go_bits); (refine hK _ ?_; clear hK K))); refine wpMixB_nil (fun osm3_1 dm3_1 => ?_); rintro _ ⟨r3_0, rfl, hr3_0, hv3_0⟩; change wpMix _ _ _ _ _ (Act.put _ (some 11) _) _; have HV3_0 := Lib.hid (show (Y).heap.size ≤ r3_0 ∧ Box _ r3_0 52 [.int .i64 0, .int .u32 0, .int .i64 0, .int .i64 0, .int .i64 0] from And.intro hr3_0 hv3_0); clear hr3_0 hv3_0; refine wpMix_e1 rfl rfl (fun osm3_2 dm3_2 K hK => ?_); (refine storeBox_wp 52 _ _ rfl (HV3_0.out.2.on ⟨osm3_2, dm3_2, rfl⟩) 0 #[.int .i64 17, .int .u32 f.there.src, .int .i64 f.there.sport, .int .i64 P, .int .i64 f.till] (show (Tryz.prog.info? 52).map (·.size) = some 5 from by kernel_rfl) rfl rfl (by simp) (by simp [Value.oneCell']) ?_; intro w6 hg6 hb6; have HJ6 := Lib.hid (below_of_grown (show Junk Y _ by (exact jkc)) hg6 (fun k hk => by cases hk; exact HV3_0.out.1)); clear hg6 hb6); refine hK _ _ trivial ?_; clear hK K; refine wpMix_e rfl (fun osm3_3 dm3_3 K hK => ?_); (go_simp; try go_bits); refine hK _ _ trivial ?_; clear hK K; refine wpMix_nil (fun osm dm => ?_)
  go_upto_region 5 with (fail)
  refine wp_keep (fun Z => KE w Z g now t n lb lc q f P v w.heap.size vl ∧ Box Z X.heap.size 52 [.int .i64 17, .int .u32 f.there.src, .int .i64 f.there.sport, .int .i64 0, .int .i64 t]) ⟨H4.out.1.on (HJ6.out.trans (by (exact jkc))), H4.out.2.2.on (HJ6.out.trans (by (exact jkc)))⟩ ?_
  intro Z ⟨hX, hb⟩
  have H5 := Lib.hid (And.intro hX hb)
  have v0 := hX.bv.cell (j := 0) hv0
  have vs := hX.bv.lt
  have g18 := hX.gs.b.cell (j := 18) rfl
  have g7 := hX.gs.b.cell (j := 7) rfl
  have g8 := hX.gs.b.cell (j := 8) rfl
  have gf := hX.gs.b.frozen 18
  have gs := hX.gs.b.lt
  have x0 := hb.cell (j := 0) rfl
  have x1 := hb.cell (j := 1) rfl
  have x2 := hb.cell (j := 2) rfl
  have x3 := hb.cell (j := 3) rfl
  have x4 := hb.cell (j := 4) rfl
  have xs := hb.lt
  clear hX hb HJ6 H4 HV3_0 HW
  have HA := Lib.hid (fun w1 (hj : Junk Z w1) => show Calls Tryz.prog 149 #[.slice (some ⟨lb, 0, none⟩) 1 lc, .int .i64 5000, .int .i64 5100, .agg #[.int .i64 17, .int .u32 f.there.src, .int .i64 f.there.sport, .int .i64 0, .int .i64 t], .int .u32 0] w1 fun e w' => ∃ ob cap, e = .returned (.tuple #[.slice ob 1 cap, .int .i64 P, .int .i64 0]) ∧ Junk w1 w' ∧ Own w1.heap.size w' 52 5 ob cap 1 (lnsL [⟨17, f.there.src, f.there.sport, P, t⟩]) by
    have hr := HH.out.ok.tr
    have hb : 0 ≤ f.there.sport ∧ f.there.sport ≤ 65535 := hsp
    have hlc : 1 ≤ lc := H5.out.1.ls.capLe.1
    have := ask_any 5000 5100 (some ⟨lb, 0, none⟩) 1 lc [⟨17, f.there.src, f.there.sport, P, f.till⟩] ⟨17, f.there.src, f.there.sport, 0, t⟩ 0 w1 (by decide) hlc rfl ((own_ls H5.out.1.ls).on hj) (fun h => by cases h) (by decide)
    rw [ask_again f.there.src f.there.sport P f.till t hb.1 hb.2 HH.out.pt.1.1 HH.out.pt.1.2 HH.out.ok.t0 h1 h2] at this
    refine this.mono fun e w' ⟨ob, cap, he, hj, ho, _⟩ => ⟨ob, cap, he, hj, ho⟩)
  refine wp_region_mixa (Z) [] [35] [31, 32] #[true, true, true, true, true, true, true, true, true, true, true, true, true, true, true, true, true, true, true, true, true, true, true, true, true, true, true, true, true, true, true, true, true, true, true, false] [(0, true), (1, true), (2, true), (3, true), (4, true), (5, true), (6, true), (7, true), (8, true), (9, true), (10, true), (11, true), (12, true), (13, true), (14, true), (15, true), (16, true), (17, true), (18, true), (19, true), (20, true), (21, true), (22, true), (23, true), (24, true), (25, true), (26, true), (27, true), (28, false), (29, true), (30, true), (31, true), (32, true), (33, true), (34, true)] [(35, false)] (by kernel_rfl) (by kernel_rfl) (by (exact jkc)) (by intro e he; simp at he) ?_; (iterate 28 (refine wpMixB_q rfl (fun K hK => ?_); (go_simp; try go_bits); (refine hK _ ?_; clear hK K))); refine wpMixB_e rfl (fun osm5_0 dm5_0 K hK => ?_); (go_simp; try go_bits); (go_at_call 149; (with_reducible refine (HA.out _ (by (exact jkc))).mono ?_); rintro e w' ⟨ob, cap, rfl, ⟨osA, dA, rfl⟩, ho⟩; have HO := Lib.hid ho; clear ho); refine hK _ _ (by first | exact jkc | assumption) ?_; clear hK K; (iterate 6 (refine wpMixB_q rfl (fun K hK => ?_); (go_simp; try go_bits); (refine hK _ ?_; clear hK K))); refine wpMixB_nil (fun osm5_1 dm5_1 => ?_); change wpMix _ _ _ _ _ _ _; refine wpMix_e rfl (fun osm5_2 dm5_2 K hK => ?_); (go_simp; try go_bits); refine hK _ _ trivial ?_; clear hK K; refine wpMix_nil (fun osm dm => ?_)
  go_wp2
  go_end0
  refine ⟨rfl, ?_⟩
  have ho : Own Z.heap.size (Z.junk (osm5_0 ++ osA) dA) 52 5 ob cap 1 (lnsL [⟨17, f.there.src, f.there.sport, P, t⟩]) := by
    have := HO.out.lower (B' := Z.heap.size) (by simp)
    rw [World.junk_junk] at this
    exact this
  obtain ⟨lb', lc', k1, k2, k3⟩ := H5.out.1.done HH.out (by have := HH.out.ok.t0; omega) h2 (X := osm5_0 ++ (osA ++ (osm5_1 ++ osm5_2))) (d := dm5_2) ho (by (exact jkc))
  exact ⟨lb', lc', k1.on (by (exact jkc)), k2.on (by (exact jkc)), k3.on (by (exact jkc))⟩
end Go.Proofs.YtfhkhnoiolkkdaaGreatDoor
set_option linter.unusedVariables false
set_option maxRecDepth 100000
set_option linter.unusedSimpArgs false
namespace Go.Proofs.YtfhkhnoiolkkdaaGreatDoor
open Go.RowKit
def visL (G : Nat) (z dr src dst : Int) (oo ob : Option Addr) (oc bl bc : Nat) (t : Tup) : List Value :=
  [.pointer (some ⟨G, 0, none⟩), .int .i64 z, .int .u32 dr, .int .i64 0, .int .i64 0, .bool false, .bool false, .int .i64 0, .int .i64 64, .int .i64 17, .int .u32 src, .int .u32 dst, .slice oo 0 oc, .slice ob bl bc, .int .i64 t.proto, .int .u32 t.src, .int .i64 t.sport, .int .u32 t.dst, .int .i64 t.dport, .int .i64 0, .int .i64 0, .int .u32 0, .int .u32 0, .int .i64 0, .int .i64 0, .int .i64 0, .slice none 0 0, .slice none 0 0]
structure Out (w' : World) (n cn : Nat) (z src a : Int) (bl : Nat) (body : Nat → Int) (o : Option Addr) (c : Nat) : Prop where
  own : Own 0 w' 70 2 (some ⟨n, 0, none⟩) cn 1 [.int .i64 z, .slice o (20 + bl) c]
  b : Bts w' o (20 + bl) c (pktB (Pk 63 src a bl body))
theorem Out.on {w w' : World} {n cn bl c : Nat} {z src a : Int} {body : Nat → Int} {o : Option Addr} (h : Out w n cn z src a bl body o c) (j : Junk w w') : Out w' n cn z src a bl body o c :=
  ⟨own_keep (L := fun _ => False) h.own (Tch.of_junk j) (fun e => e), h.b.on j⟩
theorem Snt.out {w w' : World} {n cn bl c : Nat} {z src a : Int} {body : Nat → Int} {o : Option Addr} (h : Snt w w' n cn z 63 src a bl body o c) : Out w' n cn z src a bl body o c := ⟨h.own.lower (Nat.zero_le _), h.b⟩
theorem bts_newer {L : Nat → Prop} {w w' : World} {N : Nat} {oa : Option Addr} {l c : Nat} {xs : Nat → Int} (h : Bts w oa l c xs) (hf : Fresh N oa) (t : Tch L w w') (hL : ∀ k, L k → k < N) : Bts w' oa l c xs := by
  refine ⟨fun i hi => ?_, h.byte, h.nil, h.le, h.cap⟩
  obtain ⟨b, off, he, hlt, hc⟩ := h.at_ i hi
  have hb : N ≤ b := hf _ he
  exact ⟨b, off, he, Nat.lt_of_lt_of_le hlt t.size, t.cell (a := ⟨b, off + i, none⟩) hc (fun e => by have : b < N := hL _ e; omega)⟩
theorem ip_newer {L : Nat → Prop} {w w' : World} {N : Nat} {oo ob : Option Addr} {oc bc : Nat} {p : Ip} (h : IpAt w p oo oc ob bc) (hf : Fresh N oo) (hg : Fresh N ob) (t : Tch L w w') (hL : ∀ k, L k → k < N) : IpAt w' p oo oc ob bc :=
  ⟨bts_newer h.opts hf t hL, bts_newer h.body hg t hL, h.src, h.dst⟩
set_option maxHeartbeats 4000000 in
theorem vknown_back (B v N : Nat) (dr : Int) (g : Gp) (now t : Int) (lb lc : Nat) (q : Fp) (f : Fl) (P fr tt : Int) (bl : Nat) (body : Nat → Int) (oo ob : Option Addr) (oc bc : Nat) (w : World) (h : GF B w g now lb lc q f P)
    (hV : Box w v 107 (visL g.G 0 dr 134744072 3405803785 oo ob oc bl bc ⟨17, 134744072, tt, 3405803785, P⟩)) (hI : IpAt w (Pk 64 134744072 3405803785 bl body) oo oc ob bc) (hU : UdP (Pk 64 134744072 3405803785 bl body) tt P) (hb : bl ≤ 1000) (hth : f.there = ⟨17, 167772161, fr, 134744072, tt⟩) (hfr : 0 ≤ fr ∧ fr ≤ 65535) (htt : 0 ≤ tt ∧ tt ≤ 65535)
    (hF1 : Fresh N oo) (hF2 : Fresh N ob) (hN : g.G < N ∧ q.sl < N ∧ q.li < N) (hn : 0 ≤ now ∧ now ≤ 1000000) (ht : now + 100 = t) (h1 : f.till ≤ t) :
    Calls Tryz.prog 80 #[.pointer (some ⟨v, 0, none⟩), .int .i64 0, .bool true] w fun e w' => ∃ n cn o c lb' lc', e = .returned (.tuple #[.slice (some ⟨n, 0, none⟩) 1 cn, .int .i64 0]) ∧ GF B w' g now lb' lc' q { f with till := t } P ∧ Out w' n cn 1 134744072 167772161 bl (tn2 body 134744072 3405803785 134744072 tt 167772161 fr) o c ∧ Tch (fun k => k = g.G ∨ k = q.sl ∨ k = q.li) w w' := by
  have HH := Lib.hid h
  have HV := Lib.hid hV
  have HI := Lib.hid hI
  have HTH := Lib.hid hth
  have HFN := Lib.hid (And.intro hF1 (And.intro hF2 hN))
  have HFR := Lib.hid hfr
  have HTT := Lib.hid htt
  have HU := Lib.hid hU
  have HT := Lib.hid ht
  have HN := Lib.hid hn
  have H11 := Lib.hid h1
  have v0 := hV.cell (j := 0) rfl
  have v14 : w.cell? ⟨v, 14, none⟩ = some (.int .i64 17) := hV.cell (j := 14) rfl
  have vs := hV.lt
  have g17 := h.gs.b.cell (j := 17) rfl
  have gs := h.gs.b.lt
  have HG := Lib.hid (fun w1 (hj : Junk w w1) => fget1 w1 (h.fs.on hj))
  clear hF1 hF2 hN h hV hI hth hfr htt hU ht hn h1
  go_enter Tryz.func80, Tryz.ntmps80
  go_upto_region 3 with (first | (go_at_call 36; (with_reducible refine (HG.out _ (by (exact jkc))).mono ?_); rintro e w' ⟨rfl, ⟨osF, dF, rfl⟩⟩))
  obtain ⟨fb, hfb⟩ : ∃ fb, w.heap.size + osF.size = fb := ⟨_, rfl⟩
  try rw [hfb]
  refine wp_keep (fun X => Junk w X ∧ Box X fb 50 [.int .i64 f.there.proto, .int .u32 f.there.src, .int .i64 f.there.sport, .int .u32 f.there.dst, .int .i64 f.there.dport, .int .i64 f.back.proto, .int .u32 f.back.src, .int .i64 f.back.sport, .int .u32 f.back.dst, .int .i64 f.back.dport, .int .i64 f.till, .int .i64 f.note]) ⟨by (exact jkc), (box_at' (V := w.junk osF dF) (by rw [← hfb]; simp) rfl).on (by (exact jkc))⟩ ?_
  intro X ⟨hj, hB⟩
  have H1 := Lib.hid (And.intro hj hB)
  have v0 := (HV.out.on hj).cell (j := 0) rfl
  have v14 : X.cell? ⟨v, 14, none⟩ = some (.int .i64 17) := (HV.out.on hj).cell (j := 14) rfl
  have vs := (HV.out.on hj).lt
  have f0 := hB.cell (j := 0) rfl
  have f1 := hB.cell (j := 1) rfl
  have f2 := hB.cell (j := 2) rfl
  have f3 := hB.cell (j := 3) rfl
  have f4 := hB.cell (j := 4) rfl
  have f5 := hB.cell (j := 5) rfl
  have f6 := hB.cell (j := 6) rfl
  have f7 := hB.cell (j := 7) rfl
  have f8 := hB.cell (j := 8) rfl
  have f9 := hB.cell (j := 9) rfl
  have f10 := hB.cell (j := 10) rfl
  have f11 := hB.cell (j := 11) rfl
  have fs := hB.lt
  have HL := Lib.hid (fun w1 (hj1 : Junk X w1) => vlasts_any v g.G now t 0 w1 ((HV.out.on (hj.trans hj1)).lt) ((HH.out.gs.b.on (hj.trans hj1)).lt) ((HV.out.on (hj.trans hj1)).cell (j := 0) rfl) ((HV.out.on (hj.trans hj1)).cell (j := 14) rfl) ((HH.out.gs.b.on (hj.trans hj1)).cell (j := 0) rfl) ((HH.out.gs.b.on (hj.trans hj1)).cell (j := 11) rfl) ⟨HN.out.1, by have := HN.out.2; omega⟩ HT.out)
  have HK := Lib.hid (fun w1 (hj1 : Junk X w1) => vkeep_any B v _ g now t f.note lb lc q f P w1 (HH.out.on (hj.trans hj1)) (HV.out.on (hj.trans hj1)) rfl (by rw [HTH.out]) (by rw [HTH.out]; exact HFR.out) (by have := HT.out; omega) H11.out (by have := HT.out; have := HN.out; omega))
  clear hj hB g17 HG
  refine wp_region_mixl (X) 7 [(0, true), (1, true), (2, true), (3, true), (5, true), (6, true), (4, false), (7, false)] (by kernel_rfl) (by kernel_rfl) (by (exact jkc)) ?_; (iterate 6 (refine wpMixL_q rfl (fun K hK => ?_); (go_simp; try go_bits); (refine hK _ ?_; clear hK K))); refine wpMixL_e rfl (fun osm3_0 dm3_0 K hK => ?_); (go_simp; try go_bits); (go_at_call 137; (with_reducible refine (HL.out _ (by (exact jkc))).mono ?_); rintro e w' ⟨rfl, ⟨osL, dL, rfl⟩⟩); refine hK _ _ (Junk.pair (by (first | exact jkc | repeat (first | with_reducible exact Junk.refl _ | with_reducible exact Junk.app _ _ _ _ _ | with_reducible apply Junk.alloc | with_reducible apply Junk.junk | with_reducible apply Junk.drew | with_reducible apply Junk.drewN | (with_reducible refine Junk.setCell ?_ (by simp) _))))) ?_; clear hK K; refine wpMixL_last rfl (fun osm3_1 dm3_1 K hK => ?_); (go_simp; try go_bits); (go_at_call 136; (with_reducible refine (HK.out _ (by (exact jkc))).mono ?_); rintro e w4 ⟨rfl, lb', lc', hg4, hv4, ht4⟩; have H4 := Lib.hid (And.intro hg4 (And.intro hv4 ht4)); clear hg4 hv4 ht4); refine hK _ _ ?_; clear hK K; refine wpMixL_nil (fun osm dm => ?_)
  go_upto_region 4 with (fail)
  refine wp_keep (fun Y => GF B Y g now lb' lc' q { f with till := t } P ∧ Box Y v 107 (visL g.G 0 dr 134744072 3405803785 oo ob oc bl bc ⟨17, 134744072, tt, 3405803785, P⟩) ∧ Box Y fb 50 [.int .i64 f.there.proto, .int .u32 f.there.src, .int .i64 f.there.sport, .int .u32 f.there.dst, .int .i64 f.there.dport, .int .i64 f.back.proto, .int .u32 f.back.src, .int .i64 f.back.sport, .int .u32 f.back.dst, .int .i64 f.back.dport, .int .i64 f.till, .int .i64 f.note] ∧ IpAt Y (Pk 64 134744072 3405803785 bl body) oo oc ob bc ∧ Tch (fun k => k = g.G ∨ k = q.sl ∨ k = q.li) w Y) (by
    have hj := H1.out.1
    have T := H4.out.2.2
    have hL : ∀ k, (k = g.G ∨ k = q.sl ∨ k = q.li) → k < N := fun k hk => by have := HFN.out.2.2; rcases hk with rfl | rfl | rfl <;> omega
    have n1 : fb ≠ g.G ∧ fb ≠ q.sl ∧ fb ≠ q.li := ⟨(box_ty H1.out.2).ne (box_ty (HH.out.gs.b.on hj)) (by decide), (box_ty H1.out.2).ne (box_ty (HH.out.fs.bl.on hj)) (by decide), (box_ty H1.out.2).ne (own_ty (HH.out.fs.on hj).bw.ls) (by decide)⟩
    exact ⟨H4.out.1.on (by (exact jkc)), H4.out.2.1.on (by (exact jkc)), ((H1.out.2.on (by (exact jkc))).tch T (fun e => by rcases e with e | e | e; exact n1.1 e; exact n1.2.1 e; exact n1.2.2 e)).on (by (exact jkc)), (ip_newer (HI.out.on (hj.trans (by (exact jkc)))) HFN.out.1 HFN.out.2.1 T hL).on (by (exact jkc)), ((Tch.of_junk (hj.trans (by (exact jkc)))).trans T).on (by (exact jkc))⟩) ?_
  intro Y ⟨k1, k2, k3, k4, k5⟩
  have H5 := Lib.hid (And.intro k1 (And.intro k2 (And.intro k3 (And.intro k4 k5))))
  clear v0 v14 vs f0 f1 f2 f3 f4 f5 f6 f7 f8 f9 f10 f11 fs HL HK H1 H4 gs
  have y0 : Y.cell? ⟨v, 0, none⟩ = some (.pointer (some ⟨g.G, 0, none⟩)) := k2.cell rfl
  have y3 : Y.cell? ⟨v, 3, none⟩ = some (.int .i64 0) := k2.cell rfl
  have y4 : Y.cell? ⟨v, 4, none⟩ = some (.int .i64 0) := k2.cell rfl
  have y5 : Y.cell? ⟨v, 5, none⟩ = some (.bool false) := k2.cell rfl
  have y6 : Y.cell? ⟨v, 6, none⟩ = some (.bool false) := k2.cell rfl
  have y7 : Y.cell? ⟨v, 7, none⟩ = some (.int .i64 0) := k2.cell rfl
  have y8 : Y.cell? ⟨v, 8, none⟩ = some (.int .i64 64) := k2.cell rfl
  have y9 : Y.cell? ⟨v, 9, none⟩ = some (.int .i64 17) := k2.cell rfl
  have y10 : Y.cell? ⟨v, 10, none⟩ = some (.int .u32 134744072) := k2.cell rfl
  have y11 : Y.cell? ⟨v, 11, none⟩ = some (.int .u32 3405803785) := k2.cell rfl
  have y12 : Y.cell? ⟨v, 12, none⟩ = some (.slice oo 0 oc) := k2.cell rfl
  have y13 : Y.cell? ⟨v, 13, none⟩ = some (.slice ob bl bc) := k2.cell rfl
  have ys := k2.lt
  have fs := k3.lt
  have f0 := k3.cell (j := 0) rfl
  have f1 := k3.cell (j := 1) rfl
  have f2 := k3.cell (j := 2) rfl
  have f3 := k3.cell (j := 3) rfl
  have f4 := k3.cell (j := 4) rfl
  have f5 := k3.cell (j := 5) rfl
  have f6 := k3.cell (j := 6) rfl
  have f7 := k3.cell (j := 7) rfl
  have f8 := k3.cell (j := 8) rfl
  have f9 := k3.cell (j := 9) rfl
  have f10 := k3.cell (j := 10) rfl
  have f11 := k3.cell (j := 11) rfl
  have HU2 := HU.out
  have HTU := Lib.hid (fun w1 (hj : Junk Y w1) => by
    have := vturned_any v g.G 167772161 8 1 (some ⟨g.rb, 0, none⟩) g.rc 134744072 3405803785 134744072 tt P tt fr bl body oo ob oc bc f true w1 ((k2.on hj).lt) ((k1.gs.b.on hj).lt) ((k2.on hj).cell (j := 0) rfl) ((k1.gs.b.on hj).cell (j := 3) rfl) way_mine k1.gs.rcap (k1.gs.on hj).ros (by rw [if_pos rfl, HTH.out]; rfl) HU2 (by decide) (by decide) HTT.out HFR.out hb (k4.on hj)
    exact this)
  clear k1 k2 k3 k4 k5 HU2
  refine wp_region_mixj (Y) [(0, true), (1, true), (2, true), (3, true), (4, true), (5, true), (6, true), (7, false), (8, true), (9, true), (10, true), (11, true)] (by kernel_rfl) (by kernel_rfl) (by (exact jkc)) ?_; (iterate 7 (refine wpMix_q rfl (fun K hK => ?_); (go_simp; try go_bits); (refine hK _ ?_; clear hK K))); refine wpMix_e rfl (fun osm4_0 dm4_0 K hK => ?_); (go_simp; try go_bits); (go_at_call 138; (with_reducible refine (HTU.out _ (by (exact jkc))).mono ?_); rintro e w5 ⟨n, cn, o, c, rfl, hs⟩; have HQ := Lib.hid hs; obtain ⟨os5, d5, rfl⟩ := hs.j; clear hs); refine hK _ _ (Junk.pair (by (first | exact jkc | repeat (first | with_reducible exact Junk.refl _ | with_reducible exact Junk.app _ _ _ _ _ | with_reducible apply Junk.alloc | with_reducible apply Junk.junk | with_reducible apply Junk.drew | with_reducible apply Junk.drewN | (with_reducible refine Junk.setCell ?_ (by simp) _))))) ?_; clear hK K; (iterate 4 (refine wpMix_q rfl (fun K hK => ?_); (go_simp; try go_bits); (refine hK _ ?_; clear hK K))); refine wpMix_nil (fun osm dm => ?_)
  go_wp2
  go_returns
  exact ⟨n, cn, o, c, lb', lc', rfl, H5.out.1.on (by (exact jkc)), HQ.out.out.on (by (exact jkc)), H5.out.2.2.2.2.on (by (exact jkc))⟩
end Go.Proofs.YtfhkhnoiolkkdaaGreatDoor
set_option linter.unusedVariables false
set_option maxRecDepth 100000
set_option linter.unusedSimpArgs false
namespace Go.Proofs.YtfhkhnoiolkkdaaGreatDoor
open Go.RowKit
theorem cl_fo (w : World) : Calls Tryz.prog 110 #[.slice none 0 0] w fun e w' => e = .returned (.slice none 0 0) ∧ Junk w w' := by
  have hne := fun (w : World) => Lib.run_eql_slice_nil (P := Tryz.prog) w 79 143 none 0 0 0 0 Tryz.underlying79
  go_enter Tryz.func110, Tryz.ntmps110
  go_wp2
  go_ret
  exact ⟨rfl, by (exact jkc)⟩
theorem own_src {B sz g c n : Nat} {w : World} {e : TypeId} {xs : List Value} (h : Own B w e sz (some ⟨g, 0, none⟩) c n xs) {w1 : World} (j : Junk w w1) : ∀ ad, (some ⟨g, 0, none⟩ : Option Addr) = some ad → ∀ i u, xs[i]? = some u → w1.cell? (ad.add i) = some u := by
  intro ad he i u hu
  cases he
  obtain ⟨g', h1, _, h3, h2, _⟩ := (own_keep (L := fun _ => False) h (Tch.of_junk j) (fun e => e)).cells i u hu
  cases h1
  rw [Addr.add_lit, Nat.zero_add]
  exact h2
set_option maxHeartbeats 1000000 in
theorem cl_ro (g c : Nat) (w : World) (h : Own 0 w 139 4 (some ⟨g, 0, none⟩) c 2 roL) :
    Calls Tryz.prog 108 #[.slice (some ⟨g, 0, none⟩) 2 c] w fun e w' => ∃ b cap, e = .returned (.slice (some ⟨b, 0, none⟩) 2 cap) ∧ Junk w w' ∧ Own w.heap.size w' 139 4 (some ⟨b, 0, none⟩) cap 2 roL := by
  have HS := Lib.hid h
  have hne := fun (w : World) => Lib.run_eql_slice_nil (P := Tryz.prog) w 77 139 (some ⟨g, 0, none⟩) 2 c 0 0 Tryz.underlying77
  clear h
  go_enter Tryz.func108, Tryz.ntmps108
  go_wp2_with (first
    | (at_builtin; (refine ap_own (W0 := w) rfl _ _ 77 rfl 139 (.agg #[.int .u32 0, .int .i64 0, .int .i64 0, .int .i64 0]) 4 32 (by kernel_rfl) rfl (by decide) Tryz.underlying77 (by (exact jkc)) _ 0 0 [] rfl (own_made _ _ 4 0 _ _ (by simp) (by simp) (by decide) (by simp)) (some ⟨g, 0, none⟩) 2 c rfl roL rfl (own_src HS.out (by (exact jkc))) (fun h => by cases h) (by simp [roL, Value.oneCell']) (by simp only [maxLen]; omega) (by omega) ?_; intro oa1 cap1 os1 d1 hown hn1; have HO := Lib.hid hown; clear hown hn1)))
  obtain ⟨b, hb⟩ := own_at0 HO.out (by decide)
  subst hb
  go_ret
  exact ⟨b, cap1, rfl, by (exact jkc), HO.out⟩
set_option maxHeartbeats 1000000 in
theorem cl_ru (g c : Nat) (w : World) (h : Own 0 w 141 10 (some ⟨g, 0, none⟩) c 1 ruL) :
    Calls Tryz.prog 109 #[.slice (some ⟨g, 0, none⟩) 1 c] w fun e w' => ∃ b cap, e = .returned (.slice (some ⟨b, 0, none⟩) 1 cap) ∧ Junk w w' ∧ Own w.heap.size w' 141 10 (some ⟨b, 0, none⟩) cap 1 ruL := by
  have HS := Lib.hid h
  have hne := fun (w : World) => Lib.run_eql_slice_nil (P := Tryz.prog) w 78 141 (some ⟨g, 0, none⟩) 1 c 0 0 Tryz.underlying78
  clear h
  go_enter Tryz.func109, Tryz.ntmps109
  go_wp2_with (first
    | (at_builtin; (refine ap_own (W0 := w) rfl _ _ 78 rfl 141 (.agg #[.int .i64 0, .int .i64 0, .int .i64 0, .int .u32 0, .int .u32 0, .int .i64 0, .int .i64 0, .int .i64 0, .int .i64 0, .int .i64 0]) 10 72 (by kernel_rfl) rfl (by decide) Tryz.underlying78 (by (exact jkc)) _ 0 0 [] rfl (own_made _ _ 10 0 _ _ (by simp) (by simp) (by decide) (by simp)) (some ⟨g, 0, none⟩) 1 c rfl ruL rfl (own_src HS.out (by (exact jkc))) (fun h => by cases h) (by simp [ruL, Value.oneCell']) (by simp only [maxLen]; omega) (by omega) ?_; intro oa1 cap1 os1 d1 hown hn1; have HO := Lib.hid hown; clear hown hn1)))
  obtain ⟨b, hb⟩ := own_at0 HO.out (by decide)
  subst hb
  go_ret
  exact ⟨b, cap1, rfl, by (exact jkc), HO.out⟩
theorem ring_none (f : Value) (w : World) : Calls Tryz.prog 165 #[.slice none 0 0, f] w fun e w' => e = .returned (.int .i64 (-1)) ∧ Junk w w' := by
  go_enter Tryz.func165, Tryz.ntmps165
  go_wp2
  refine wp_loop_rounds 1 ?_
  rw [rounds_succ]
  go_wp2
  go_ret
  exact ⟨rfl, by (exact jkc)⟩
theorem ring_has (f : Value) (w : World) : Calls Tryz.prog 96 #[.slice none 0 0, f] w fun e w' => e = .returned (.bool false) ∧ Junk w w' := by
  go_enter Tryz.func96, Tryz.ntmps96
  go_wp2_with (first | (go_at_call 165; (with_reducible refine (ring_none _ _).mono ?_); rintro e w' ⟨rfl, ⟨osj, dj, rfl⟩⟩))
  go_ret
  exact ⟨rfl, by (exact jkc)⟩
theorem ring_right (w : World) : Calls Tryz.prog 111 #[.slice none 0 0] w fun e w' => e = .returned (.bool true) ∧ Junk w w' := by
  go_enter Tryz.func111, Tryz.ntmps111
  go_wp2_with (first | (go_at_call 96; (with_reducible refine (ring_has _ _).mono ?_); rintro e w' ⟨rfl, ⟨osj, dj, rfl⟩⟩))
  go_ret
  exact ⟨rfl, by (exact jkc)⟩
set_option maxHeartbeats 1000000 in
theorem mturn_any (oa : Option Addr) (c : Nat) (xs : Nat → Int) (w : World) (hB : Bts w oa 3 c xs) :
    Calls Tryz.prog 53 #[.slice none 0 0, .slice oa 3 c] w fun e w' => ∃ ob cap, e = .returned (.tuple #[.slice ob 1 cap, .int .i64 0]) ∧ Junk w w' := by
  have HB := Lib.hid hB
  clear hB
  have hm : min (0 : Int) 1 = 0 := by decide
  go_enter Tryz.func53, Tryz.ntmps53
  go_wp2_with (first | (go_at_call 111; (with_reducible refine (ring_right _).mono ?_); rintro e w' ⟨rfl, ⟨osj, dj, rfl⟩⟩))
  refine wp_region_junk (by kernel_rfl) (by kernel_rfl) ?_; (repeat (go_big_quiet_step (first | fail))); refine wpQuiet_nil ?_; rintro _ ⟨⟨osq, dq⟩, rfl⟩
  go_wp2_with (first
    | (go_at_call 44; refine (clone_any oa 3 c xs _ (by omega) (HB.out.on (by (exact jkc)))).mono ?_; rintro e w1 ⟨oc1, cc1, rfl, ⟨os1, d1, rfl⟩, -, -, -⟩)
    | (at_builtin; (refine ap_own (W0 := w) rfl _ _ 67 rfl 27 (.slice none 0 0) 1 24 (by kernel_rfl) rfl (by decide) Tryz.underlying67 (by (exact jkc)) _ 0 0 [] rfl (Own.nil _ _ _ _) _ 1 1 rfl [.slice oc1 3 cc1] rfl (built_cells (by simp)) (fun h => by cases h) (by simp [Value.oneCell']) (by simp only [maxLen]; omega) (by omega) ?_; intro oa1 cap1 os2 d2 hown hn1; clear hown hn1)))
  refine wp_loop_rounds 1 ?_
  rw [rounds_succ]
  go_wp2
  go_returns
  exact ⟨oa1, cap1, rfl, by (exact jkc)⟩
end Go.Proofs.YtfhkhnoiolkkdaaGreatDoor
