/- gate.See. -/
import Derived.Test.YtfhkhnoiolkkdaaGreatDoorGzS
import Derived.Test.YtfhkhnoiolkkdaaGreatDoorTcpA
import Derived.Test.YtfhkhnoiolkkdaaGreatDoorMixP
import Derived.Test.YtfhkhnoiolkkdaaGreatDoorGzU
import Derived.Test.YtfhkhnoiolkkdaaGreatDoorGzG
import Derived.Test.YtfhkhnoiolkkdaaGreatDoorGzC
import Derived.Test.YtfhkhnoiolkkdaaGreatDoorXrP
set_option linter.unusedVariables false
set_option maxRecDepth 100000
set_option linter.unusedSimpArgs false
namespace Go.Proofs.YtfhkhnoiolkkdaaGreatDoor
open Go.RowKit
theorem pl_within (n a b : Int) (h : a ≤ n ∧ n ≤ b) (w : World) : Calls Tryz.prog 83 #[.int .i64 n, .int .i64 a, .int .i64 b] w fun e w' => e = .returned (.bool true) ∧ Junk w w' := by
  obtain ⟨h1, h2⟩ := h
  go_enter Tryz.func83, Tryz.ntmps83
  go_wp2
  go_ret
  exact ⟨rfl, by (exact jkc)⟩
theorem pl_new (w : World) : Calls Tryz.prog 50 #[.int .i64 65536, .int .i64 30] w fun e w' => e = .returned (.tuple #[.agg #[.int .i64 65536, .int .i64 30, .int .i64 0, .slice none 0 0], .int .i64 0]) ∧ Junk w w' := by
  go_enter Tryz.func50, Tryz.ntmps50
  go_wp2_with (first | (go_at_call 83; first | ((with_reducible refine (pl_within 65536 1 1048576 (by decide) _).mono ?_); rintro e w' ⟨rfl, ⟨osa, da, rfl⟩⟩) | ((with_reducible refine (pl_within 30 1 1048576 (by decide) _).mono ?_); rintro e w' ⟨rfl, ⟨osb, db, rfl⟩⟩)))
  go_returns
  exact ⟨rfl, by (exact jkc)⟩
theorem pl_clone (w : World) : Calls Tryz.prog 113 #[.slice none 0 0] w fun e w' => e = .returned (.slice none 0 0) ∧ Junk w w' := by
  have hne := fun (w : World) => Lib.run_eql_slice_nil (P := Tryz.prog) w 92 160 none 0 0 0 0 Tryz.underlying92
  go_enter Tryz.func113, Tryz.ntmps113
  go_wp2
  go_ret
  exact ⟨rfl, by (exact jkc)⟩
theorem pl_copied (room life now : Int) (w : World) : Calls Tryz.prog 66 #[.agg #[.int .i64 room, .int .i64 life, .int .i64 now, .slice none 0 0]] w fun e w' => e = .returned (.agg #[.int .i64 room, .int .i64 life, .int .i64 now, .slice none 0 0]) ∧ Junk w w' := by
  go_enter Tryz.func66, Tryz.ntmps66
  go_wp2_with (first | (go_at_call 113; (with_reducible refine (pl_clone _).mono ?_); rintro e w' ⟨rfl, ⟨osj, dj, rfl⟩⟩))
  refine wp_loop_rounds 1 ?_
  rw [rounds_succ]
  go_wp2
  go_returns
  exact ⟨rfl, by (exact jkc)⟩
theorem pl_held (room life now : Int) (w : World) : Calls Tryz.prog 39 #[.agg #[.int .i64 room, .int .i64 life, .int .i64 now, .slice none 0 0]] w fun e w' => e = .returned (.int .i64 0) ∧ Junk w w' := by
  go_enter Tryz.func39, Tryz.ntmps39
  go_wp2
  refine wp_loop_rounds 1 ?_
  rw [rounds_succ]
  go_wp2
  go_ret
  exact ⟨rfl, by (exact jkc)⟩
theorem pl_right (now : Int) (h : 0 ≤ now ∧ now ≤ 1099511627776) (w : World) : Calls Tryz.prog 68 #[.agg #[.int .i64 65536, .int .i64 30, .int .i64 now, .slice none 0 0]] w fun e w' => e = .returned (.bool true) ∧ Junk w w' := by
  have HN := Lib.hid h
  clear h
  go_enter Tryz.func68, Tryz.ntmps68
  go_wp2_with (first | (go_at_call 83; first | ((with_reducible refine (pl_within 65536 1 1048576 (by decide) _).mono ?_); rintro e w' ⟨rfl, ⟨osa, da, rfl⟩⟩) | ((with_reducible refine (pl_within 30 1 1048576 (by decide) _).mono ?_); rintro e w' ⟨rfl, ⟨osb, db, rfl⟩⟩) | ((with_reducible refine (pl_within now 0 1099511627776 HN.out _).mono ?_); rintro e w' ⟨rfl, ⟨osc, dc, rfl⟩⟩)))
  refine wp_loop_rounds 1 ?_
  rw [rounds_succ]
  go_wp2
  refine wp_region_junk (by kernel_rfl) (by kernel_rfl) ?_; (repeat (go_big_quiet_step (first | (go_at_call 39; with_reducible exact Calls.jc (pl_held 65536 30 now _))))); refine wpQuiet_nil ?_; rintro _ ⟨⟨osq, dq⟩, rfl⟩
  go_wp2
  go_ret
  exact ⟨rfl, by (exact jkc)⟩
theorem pl_index (v : Value) (w : World) : Calls Tryz.prog 69 #[.slice none 0 0, v] w fun e w' => e = .returned (.int .i64 (-1)) ∧ Junk w w' := by
  go_enter Tryz.func69, Tryz.ntmps69
  go_wp2
  refine wp_loop_rounds 1 ?_
  rw [rounds_succ]
  go_wp2
  go_ret
  exact ⟨rfl, by (exact jkc)⟩
theorem pl_delete (v : Value) (w : World) : Calls Tryz.prog 84 #[.slice none 0 0, v] w fun e w' => e = .returned (.slice none 0 0) ∧ Junk w w' := by
  go_enter Tryz.func84, Tryz.ntmps84
  go_wp2_with (first | (go_at_call 69; (with_reducible refine (pl_index _ _).mono ?_); rintro e w' ⟨rfl, ⟨osj, dj, rfl⟩⟩))
  go_ret
  exact ⟨rfl, by (exact jkc)⟩
end Go.Proofs.YtfhkhnoiolkkdaaGreatDoor
set_option linter.unusedVariables false
set_option maxRecDepth 100000
set_option linter.unusedSimpArgs false
namespace Go.Proofs.YtfhkhnoiolkkdaaGreatDoor
open Go.RowKit
def Bxn (V : World) (g : Nat) (e : TypeId) (n : Nat) : Prop := ∃ cs, Box V g e cs ∧ cs.length = n
theorem Bxn.on {V V' : World} {g : Nat} {e : TypeId} {n : Nat} (h : Bxn V g e n) (j : Junk V V') : Bxn V' g e n := by
  obtain ⟨cs, h1, h2⟩ := h
  exact ⟨cs, h1.on j, h2⟩
theorem all_boxL {V : World} {g : Nat} {e : TypeId} {cs l : List Value} (hb : Box V g e (cs.take 0 ++ l ++ cs.drop (0 + l.length))) (h : cs.length = l.length) : Box V g e l := by
  rw [List.take_zero, List.nil_append, Nat.zero_add, List.drop_eq_nil_of_le (by omega), List.append_nil] at hb
  exact hb
set_option maxHeartbeats 4000000 in
theorem pl_tick (now n2 : Int) (h0 : 0 ≤ now) (h1 : now ≤ n2) (h2 : n2 ≤ 1099511627776) (w : World) : Calls Tryz.prog 33 #[.agg #[.int .i64 65536, .int .i64 30, .int .i64 now, .slice none 0 0], .int .i64 n2] w fun e w' => e = .returned (.tuple #[.agg #[.int .i64 65536, .int .i64 30, .int .i64 n2, .slice none 0 0], .int .i64 0, .int .i64 0]) ∧ Junk w w' := by
  have HN := Lib.hid (And.intro h0 (And.intro h1 h2))
  have HR := Lib.hid (fun w1 => pl_right now ⟨h0, by omega⟩ w1)
  have HW := Lib.hid (fun w1 => pl_within n2 now 1099511627776 ⟨h1, h2⟩ w1)
  have hmf : ∀ (fn : Fn) (first cap : Array Value) (w : World), (Instr.makeFunc fn first cap).run Tryz.prog w = .ok (.func fn first cap) w := fun _ _ _ _ => rfl
  clear h0 h1 h2
  go_enter Tryz.func33, Tryz.ntmps33
  go_upto_region 7 with (first | (go_at_call 66; (with_reducible refine (pl_copied 65536 30 now _).mono ?_); rintro e w' ⟨rfl, ⟨osj, dj, rfl⟩⟩) | (go_at_call 68; (with_reducible refine (HR.out _).mono ?_); rintro e w' ⟨rfl, ⟨osj, dj, rfl⟩⟩) | (go_at_call 83; (with_reducible refine (HW.out _).mono ?_); rintro e w' ⟨rfl, ⟨osj, dj, rfl⟩⟩) | (go_at_call 84; (with_reducible refine (pl_delete _ _).mono ?_); rintro e w' ⟨rfl, ⟨osj, dj, rfl⟩⟩))
  refine wp_keep (fun V => Box V w.heap.size 94 [.int .i64 65536, .int .i64 30, .int .i64 n2, .slice none 0 0] ∧ Bxn V (w.heap.size + 2) 94 4 ∧ Junk w V) ⟨(box_at' (V := w) (cs := #[.int .i64 65536, .int .i64 30, .int .i64 n2, .slice none 0 0]) rfl rfl).on (by (exact jkc)), ⟨_, (box_at' (V := (w.alloc (.cells #[.int .i64 65536, .int .i64 30, .int .i64 n2, .slice none 0 0] 94)).alloc (.cells #[.int .i64 n2] 3)) (cs := #[.int .i64 0, .int .i64 0, .int .i64 0, .slice none 0 0]) (by simp) rfl).on (by (exact jkc)), rfl⟩, by (exact jkc)⟩ ?_
  intro V hV
  have HV := Lib.hid hV
  haveI hn : Nonempty (PW ((fun V => Box V w.heap.size 94 [.int .i64 65536, .int .i64 30, .int .i64 n2, .slice none 0 0] ∧ Bxn V (w.heap.size + 2) 94 4 ∧ Junk w V))) := ⟨⟨V, hV⟩⟩
  have k0 : ∀ x : PW ((fun V => Box V w.heap.size 94 [.int .i64 65536, .int .i64 30, .int .i64 n2, .slice none 0 0] ∧ Bxn V (w.heap.size + 2) 94 4 ∧ Junk w V)), x.V.cell? ⟨w.heap.size, 0, none⟩ = some (.int .i64 65536) := fun x => x.h.1.cell rfl
  have k1 : ∀ x : PW ((fun V => Box V w.heap.size 94 [.int .i64 65536, .int .i64 30, .int .i64 n2, .slice none 0 0] ∧ Bxn V (w.heap.size + 2) 94 4 ∧ Junk w V)), x.V.cell? ⟨w.heap.size, 1, none⟩ = some (.int .i64 30) := fun x => x.h.1.cell rfl
  have k2 : ∀ x : PW ((fun V => Box V w.heap.size 94 [.int .i64 65536, .int .i64 30, .int .i64 n2, .slice none 0 0] ∧ Bxn V (w.heap.size + 2) 94 4 ∧ Junk w V)), x.V.cell? ⟨w.heap.size, 2, none⟩ = some (.int .i64 n2) := fun x => x.h.1.cell rfl
  have k3 : ∀ x : PW ((fun V => Box V w.heap.size 94 [.int .i64 65536, .int .i64 30, .int .i64 n2, .slice none 0 0] ∧ Bxn V (w.heap.size + 2) 94 4 ∧ Junk w V)), x.V.cell? ⟨w.heap.size, 3, none⟩ = some (.slice none 0 0) := fun x => x.h.1.cell rfl
  have k4 : ∀ x : PW ((fun V => Box V w.heap.size 94 [.int .i64 65536, .int .i64 30, .int .i64 n2, .slice none 0 0] ∧ Bxn V (w.heap.size + 2) 94 4 ∧ Junk w V)), w.heap.size < x.V.heap.size := fun x => x.h.1.lt
  clear hV HN HR HW hmf
  refine wp_region_mixp ((fun V => Box V w.heap.size 94 [.int .i64 65536, .int .i64 30, .int .i64 n2, .slice none 0 0] ∧ Bxn V (w.heap.size + 2) 94 4 ∧ Junk w V)) (fun _ _ h hj => ⟨h.1.on hj, h.2.1.on hj, h.2.2.trans hj⟩) [(0, true), (1, true), (2, true), (3, true), (4, true), (5, true), (6, false), (7, true), (8, true)] (by kernel_rfl) (by kernel_rfl) (HV.out) ?_; (iterate 6 (refine wpMix_q rfl (fun K hK => ?_); (go_simp; try go_bits); (refine hK _ ?_; clear hK K))); refine wpMix_e1 rfl rfl (fun osm7_0 dm7_0 K hK => ?_); (obtain ⟨cz, hz1, hz2⟩ := HV.out.2.1.on (show Junk V (V.drew.junk osm7_0 dm7_0) by (exact jkc)); refine storeBox_wp 94 _ _ rfl hz1 0 #[.int .i64 65536, .int .i64 30, .int .i64 n2, .slice none 0 0] (show (Tryz.prog.info? 94).map (·.size) = some 4 from by kernel_rfl) rfl rfl (by rw [hz2]; exact Nat.le_refl 4) (by simp [Value.oneCell']) ?_; intro w9 hg9 hb9; have hb99 := all_boxL hb9 hz2; have HG9 := Lib.hid (show ((fun V => Box V w.heap.size 94 [.int .i64 65536, .int .i64 30, .int .i64 n2, .slice none 0 0] ∧ Bxn V (w.heap.size + 2) 94 4 ∧ Junk w V)) w9 ∧ Box w9 (w.heap.size + 2) 94 [.int .i64 65536, .int .i64 30, .int .i64 n2, .slice none 0 0] from ⟨⟨(HV.out.1.on (show Junk V (V.drew.junk osm7_0 dm7_0) by (exact jkc))).grown hg9 (by simp), ⟨_, hb99, rfl⟩, below_of_grown (HV.out.2.2.trans (show Junk V (V.drew.junk osm7_0 dm7_0) by (exact jkc))) hg9 (fun k hk => by cases hk; omega)⟩, hb99⟩); clear hz1 hz2 hg9 hb9 hb99); refine hK _ _ (⟨⟨_, by exact HG9.out.1⟩, rfl⟩) ?_; clear hK K; (iterate 2 (refine wpMix_q rfl (fun K hK => ?_); (go_simp; try go_bits); (refine hK _ ?_; clear hK K))); refine wpMix_nil (fun osm dm => ?_)
  go_wp2
  refine bodyPost_ret (results_cell1tt Tryz.results33 rfl ((HG9.out.2.on (by (exact jkc))).loadVar 94 Tryz.isAgg94 Tryz.sizeOf94)) rfl ?_
  exact ⟨rfl, HG9.out.1.2.2.trans (by (exact jkc))⟩
end Go.Proofs.YtfhkhnoiolkkdaaGreatDoor
set_option linter.unusedVariables false
set_option maxRecDepth 100000
set_option linter.unusedSimpArgs false
namespace Go.Proofs.YtfhkhnoiolkkdaaGreatDoor
open Go.RowKit
theorem ros_own {w : World} {rb rc : Nat} (h : Own 0 w 139 4 (some ⟨rb, 0, none⟩) rc 2 roL) : RosAt w (some ⟨rb, 0, none⟩) roM := by
  have hc : ∀ k v, roL[k]? = some v → rb < w.heap.size ∧ w.cell? ⟨rb, 0 + k, none⟩ = some v := fun k v hv => by
    obtain ⟨g', h1, _, h3, h2, _⟩ := h.cells k v hv
    cases h1
    exact ⟨h3, by rw [Nat.zero_add]; exact h2⟩
  intro i x hx
  rcases i with _ | _ | i
  · cases hx
    exact ⟨_, _, rfl, (hc 0 _ rfl).1, (hc 0 _ rfl).2, (hc 1 _ rfl).2, (hc 2 _ rfl).2, (hc 3 _ rfl).2⟩
  · cases hx
    exact ⟨_, _, rfl, (hc 0 _ rfl).1, (hc 4 _ rfl).2, (hc 5 _ rfl).2, (hc 6 _ rfl).2, (hc 7 _ rfl).2⟩
  · cases hx
theorem rus_own {w : World} {ub uc : Nat} (h : Own 0 w 141 10 (some ⟨ub, 0, none⟩) uc 1 ruL) : RusAt w (some ⟨ub, 0, none⟩) ruM := by
  have hc : ∀ k v, ruL[k]? = some v → ub < w.heap.size ∧ w.cell? ⟨ub, 0 + k, none⟩ = some v := fun k v hv => by
    obtain ⟨g', h1, _, h3, h2, _⟩ := h.cells k v hv
    cases h1
    exact ⟨h3, by rw [Nat.zero_add]; exact h2⟩
  intro i x hx
  rcases i with _ | i
  · cases hx
    exact ⟨_, _, rfl, (hc 0 _ rfl).1, (hc 0 _ rfl).2, (hc 1 _ rfl).2, (hc 2 _ rfl).2, (hc 3 _ rfl).2, (hc 4 _ rfl).2, (hc 5 _ rfl).2, (hc 6 _ rfl).2, (hc 7 _ rfl).2, (hc 8 _ rfl).2, (hc 9 _ rfl).2⟩
  · cases hx
def gz : List Value := [.int .i64 0, .slice none 0 0, .bool false, .slice none 0 0, .slice none 0 0, .int .i64 0, .int .u32 0, .int .i64 0, .int .i64 0, .slice none 0 0, .int .i64 0, .int .i64 0, .int .i64 0, .int .i64 0, .int .i64 0, .int .i64 0, .slice none 0 0, .pointer none, .slice none 0 0, .int .i64 0, .int .i64 0, .int .i64 0, .map none]
theorem gnew_any (w : World) : Calls Tryz.prog 22 #[] w fun e w' => ∃ G, e = .returned (.pointer (some ⟨G, 0, none⟩)) ∧ Junk w w' ∧ w.heap.size ≤ G ∧ Box w' G 100 gz := by
  go_enter Tryz.func22, Tryz.ntmps22
  go_wp2
  go_ret
  exact ⟨_, rfl, by (exact jkc), Nat.le_refl _, (box_at' (V := w) rfl rfl).on (by (exact jkc))⟩
theorem conf_right (rb rc ub uc : Nat) (w : World) (hr : Own 0 w 139 4 (some ⟨rb, 0, none⟩) rc 2 roL) (hu : Own 0 w 141 10 (some ⟨ub, 0, none⟩) uc 1 ruL) :
    Calls Tryz.prog 49 #[.agg #[.slice (some ⟨rb, 0, none⟩) 2 rc, .slice (some ⟨ub, 0, none⟩) 1 uc, .int .i64 0, .int .u32 3405803785, .int .i64 5000, .int .i64 5100, .slice none 0 0, .int .i64 1000, .int .i64 100, .int .i64 5]] w fun e w' => e = .returned (.bool true) ∧ Junk w w' := by
  have h := cright_any roM ruM [] (some ⟨rb, 0, none⟩) 2 rc (some ⟨ub, 0, none⟩) 1 uc 0 3405803785 5000 5100 none 0 0 1000 100 5 w rfl rfl rfl ⟨ros_own hr, rus_own hu, (fun i x hx => by cases hx), ⟨by decide, hr.capLe.1⟩, ⟨by decide, hu.capLe.1⟩, ⟨by decide, by decide⟩⟩
  rw [show propB (rightC ⟨roM, ruM, 0, 3405803785, 5000, 5100, [], 1000, 100, 5⟩) = true from propB_true ⟨propB_iff.1 roM_right, propB_iff.1 ruM_right, by decide, by decide, ⟨by decide, fun i x hx => by cases hx⟩, by decide, by decide, by decide⟩] at h
  exact h
theorem tch_under {L : Nat → Prop} {Y V : World} (t : Tch L Y V) (hs : V.heap.size = Y.heap.size) (X : Array Obj) (d : Nat) : Tch L (Y.junk X d) (V.junk X d) := by
  refine ⟨t.os, t.tape, t.output, by simp [World.junk, hs], fun i hi hn => ?_⟩
  · by_cases h : i < Y.heap.size
    · have := t.block i h hn
      simp only [World.junk, Array.getElem?_append, hs, h, if_true]
      exact this
    · simp only [World.junk, Array.getElem?_append, hs, h, if_false]
structure SE (w Z : World) (G pb r2 rc2 u2 uc2 s sl tb wh mp tk rb rc ub uc : Nat) (L : List Value) : Prop where
  t : Tch (fun k => k = G) w Z
  b : Box Z G 100 L
  f : FS0 Z s sl tb 1024 wh mp none 0 0
  r : Own 0 Z 139 4 (some ⟨r2, 0, none⟩) rc2 2 roL
  u : Own 0 Z 141 10 (some ⟨u2, 0, none⟩) uc2 1 ruL
  m : Mp0 Z tk
  p : Box Z pb 94 [.int .i64 65536, .int .i64 30, .int .i64 0, .slice none 0 0]
  c : Box Z w.heap.size 81 [.slice (some ⟨rb, 0, none⟩) 2 rc, .slice (some ⟨ub, 0, none⟩) 1 uc, .int .i64 0, .int .u32 3405803785, .int .i64 5000, .int .i64 5100, .slice none 0 0, .int .i64 1000, .int .i64 100, .int .i64 5]
  ne : tk ≠ mp
  lo : w.heap.size ≤ s ∧ w.heap.size ≤ sl ∧ w.heap.size ≤ wh ∧ w.heap.size ≤ mp
section
variable {w Z Z' : World} {G pb r2 rc2 u2 uc2 s sl tb wh mp tk rb rc ub uc : Nat} {L L' : List Value}
theorem SE.to (h : SE w Z G pb r2 rc2 u2 uc2 s sl tb wh mp tk rb rc ub uc L) (T : Tch (fun k => k = G) Z Z') (hb : Box Z' G 100 L') : SE w Z' G pb r2 rc2 u2 uc2 s sl tb wh mp tk rb rc ub uc L' :=
  have b := box_ty h.b
  ⟨h.t.trans T, hb, h.f.tch T ((box_ty h.f.bs).ne b (by decide)) ((box_ty h.f.bl).ne b (by decide)) ((own_ty h.f.bt).ne b (by decide)) ((box_ty h.f.bw.box).ne b (by decide)) (fun e => b.map0 h.f.bw.mm e.symm), own_keep h.r T ((own_ty h.r).ne b (by decide)), own_keep h.u T ((own_ty h.u).ne b (by decide)), h.m.tch T (fun e => b.map0 h.m e.symm), h.p.tch T ((box_ty h.p).ne b (by decide)), h.c.tch T ((box_ty h.c).ne b (by decide)), h.ne, h.lo⟩
theorem SE.on (h : SE w Z G pb r2 rc2 u2 uc2 s sl tb wh mp tk rb rc ub uc L) (j : Junk Z Z') : SE w Z' G pb r2 rc2 u2 uc2 s sl tb wh mp tk rb rc ub uc L := h.to (Tch.of_junk j) (h.b.on j)
theorem SE.ticked (h : SE w Z G pb r2 rc2 u2 uc2 s sl tb wh mp tk rb rc ub uc L) (T : Tch (fun k => k = wh) Z Z') (hf : FS0 Z' s sl tb 1024 wh mp none 0 0) : SE w Z' G pb r2 rc2 u2 uc2 s sl tb wh mp tk rb rc ub uc L :=
  have b := box_ty h.f.bw.box
  ⟨h.t.then T (fun i hi e => by have e : i = wh := e; have := h.lo; omega), h.b.tch T ((box_ty h.b).ne b (by decide)), hf, own_keep h.r T ((own_ty h.r).ne b (by decide)), own_keep h.u T ((own_ty h.u).ne b (by decide)), h.m.tch T (fun e => b.map0 h.m e.symm), h.p.tch T ((box_ty h.p).ne b (by decide)), h.c.tch T ((box_ty h.c).ne b (by decide)), h.ne, h.lo⟩
end
set_option maxHeartbeats 4000000 in
theorem gsetup_any (G rb rc ub uc : Nat) (w : World) (hG : Box w G 100 gz) (hr : Own 0 w 139 4 (some ⟨rb, 0, none⟩) rc 2 roL) (hu : Own 0 w 141 10 (some ⟨ub, 0, none⟩) uc 1 ruL) :
    Calls Tryz.prog 23 #[.pointer (some ⟨G, 0, none⟩), .agg #[.slice (some ⟨rb, 0, none⟩) 2 rc, .slice (some ⟨ub, 0, none⟩) 1 uc, .int .i64 0, .int .u32 3405803785, .int .i64 5000, .int .i64 5100, .slice none 0 0, .int .i64 1000, .int .i64 100, .int .i64 5]] w fun e w' => e = .returned (.int .i64 0) ∧ ∃ g q, g.G = G ∧ g.kr = none ∧ g.kn = 0 ∧ g.kc = 0 ∧ g.bat = 0 ∧ GE G w' g 0 none 0 q none 0 ∧ Tch (fun k => k = G) w w' := by
  have H0 := Lib.hid (And.intro hG (And.intro hr hu))
  have gs := hG.lt
  have HCR := Lib.hid (fun w1 (hj : Junk w w1) => conf_right rb rc ub uc w1 (own_keep (L := fun _ => False) hr (Tch.of_junk hj) (fun e => e)) (own_keep (L := fun _ => False) hu (Tch.of_junk hj) (fun e => e)))
  clear hG hr hu
  have hmm := @run_makeMap Tryz.prog
  go_enter Tryz.func23, Tryz.ntmps23
  go_upto_region 4 with (first
    | (go_at_call 49; (with_reducible refine (HCR.out _ (by (exact jkc))).mono ?_); rintro e w1 ⟨rfl, ⟨os1, d1, rfl⟩⟩)
    | (go_at_call 50; (with_reducible refine (pl_new _).mono ?_); rintro e w1 ⟨rfl, ⟨os2, d2, rfl⟩⟩))
  obtain ⟨pb, hpb⟩ : ∃ pb, w.heap.size + 1 + (os1.size + os2.size) = pb := ⟨_, rfl⟩
  rw [hpb]
  refine wp_keep (fun X => Junk w X ∧ Box X w.heap.size 81 [.slice (some ⟨rb, 0, none⟩) 2 rc, .slice (some ⟨ub, 0, none⟩) 1 uc, .int .i64 0, .int .u32 3405803785, .int .i64 5000, .int .i64 5100, .slice none 0 0, .int .i64 1000, .int .i64 100, .int .i64 5] ∧ Box X pb 94 [.int .i64 65536, .int .i64 30, .int .i64 0, .slice none 0 0]) ⟨by (exact jkc), (box_at' (V := w) rfl rfl).on (by (exact jkc)), box_at' (by rw [← hpb]; simp) rfl⟩ ?_
  intro X ⟨hj, hC, hP⟩
  have H1 := Lib.hid (And.intro hj (And.intro hC hP))
  clear HCR hpb hj hC hP gs
  go_upto_region 5 with (first
    | (go_at_call 51; (with_reducible refine (fnew_any _).mono ?_); rintro e w1 ⟨s, sl, tb, wh, mp, rfl, ⟨os3, d3, rfl⟩, hfs, b1, b2, b3, b4, b5⟩; have HFS := Lib.hid (And.intro hfs (And.intro b1 (And.intro b2 (And.intro b4 b5)))); clear hfs b1 b2 b3 b4 b5))
  refine wp_keep (fun Y => (Junk w Y ∧ Box Y w.heap.size 81 [.slice (some ⟨rb, 0, none⟩) 2 rc, .slice (some ⟨ub, 0, none⟩) 1 uc, .int .i64 0, .int .u32 3405803785, .int .i64 5000, .int .i64 5100, .slice none 0 0, .int .i64 1000, .int .i64 100, .int .i64 5] ∧ Box Y pb 94 [.int .i64 65536, .int .i64 30, .int .i64 0, .slice none 0 0]) ∧ FS0 Y s sl tb 1024 wh mp none 0 0) ⟨⟨H1.out.1.trans (by (exact jkc)), H1.out.2.1.on (by (exact jkc)), H1.out.2.2.on (by (exact jkc))⟩, HFS.out.1.on (by (exact jkc))⟩ ?_
  intro Y ⟨⟨hj, hC, hP⟩, hfs⟩
  have H2 := Lib.hid (And.intro hj (And.intro hC (And.intro hP hfs)))
  have HSZ := Lib.hid (And.intro (Nat.le_trans H1.out.1.size HFS.out.2.1) (And.intro (Nat.le_trans H1.out.1.size HFS.out.2.2.1) (And.intro (Nat.le_trans H1.out.1.size HFS.out.2.2.2.1) (Nat.le_trans H1.out.1.size HFS.out.2.2.2.2))))
  clear H1 HFS
  have hG := H0.out.1.on hj
  have c0 := hC.cell (j := 0) rfl
  have c1 := hC.cell (j := 1) rfl
  have c2 := hC.cell (j := 2) rfl
  have c3 := hC.cell (j := 3) rfl
  have c4 := hC.cell (j := 4) rfl
  have c5 := hC.cell (j := 5) rfl
  have c6 := hC.cell (j := 6) rfl
  have c7 := hC.cell (j := 7) rfl
  have c8 := hC.cell (j := 8) rfl
  have c9 := hC.cell (j := 9) rfl
  have cs := hC.lt
  have gs := hG.lt
  have g2 := hG.cell (j := 2) rfl
  have gf2 := hG.frozen 2
  have g3 := hG.cell (j := 3) rfl
  have gf3 := hG.frozen 3
  have g4 := hG.cell (j := 4) rfl
  have gf4 := hG.frozen 4
  have g5 := hG.cell (j := 5) rfl
  have gf5 := hG.frozen 5
  have g6 := hG.cell (j := 6) rfl
  have gf6 := hG.frozen 6
  have g7 := hG.cell (j := 7) rfl
  have gf7 := hG.frozen 7
  have g8 := hG.cell (j := 8) rfl
  have gf8 := hG.frozen 8
  have g9 := hG.cell (j := 9) rfl
  have gf9 := hG.frozen 9
  have g10 := hG.cell (j := 10) rfl
  have gf10 := hG.frozen 10
  have g11 := hG.cell (j := 11) rfl
  have gf11 := hG.frozen 11
  have g12 := hG.cell (j := 12) rfl
  have gf12 := hG.frozen 12
  have g17 := hG.cell (j := 17) rfl
  have gf17 := hG.frozen 17
  have g18 := hG.cell (j := 18) rfl
  have gf18 := hG.frozen 18
  have g22 := hG.cell (j := 22) rfl
  have gf22 := hG.frozen 22
  have HCL := Lib.hid (fun w1 (hj : Junk Y w1) => clone_conf rb rc ub uc w1 ((own_keep (L := fun _ => False) H0.out.2.1 (Tch.of_junk (H2.out.1.trans hj)) (fun e => e))) ((own_keep (L := fun _ => False) H0.out.2.2 (Tch.of_junk (H2.out.1.trans hj)) (fun e => e))))
  clear hj hC hP hfs hG
  go_upto_region 6 with (first
    | (go_at_call 52; (with_reducible refine (HCL.out _ (by (exact jkc))).mono ?_); rintro e w1 ⟨r2, rc2, u2, uc2, rfl, ⟨os4, d4, rfl⟩, hr, hu⟩; have HRU := Lib.hid (And.intro hr hu); clear hr hu))
  have hG := H0.out.1.on H2.out.1
  have hV : ∃ V, V = ((((((((((((((Y.setCell ⟨G, 2, none⟩ (.bool true)).setCell ⟨G, 3, none⟩ (.slice (some ⟨r2, 0, none⟩) 2 rc2)).setCell ⟨G, 4, none⟩ (.slice (some ⟨u2, 0, none⟩) 1 uc2)).setCell ⟨G, 5, none⟩ (.int .i64 0)).setCell ⟨G, 6, none⟩ (.int .u32 3405803785)).setCell ⟨G, 7, none⟩ (.int .i64 5000)).setCell ⟨G, 8, none⟩ (.int .i64 5100)).setCell ⟨G, 9, none⟩ (.slice none 0 0)).setCell ⟨G, 10, none⟩ (.int .i64 1000)).setCell ⟨G, 11, none⟩ (.int .i64 100)).setCell ⟨G, 12, none⟩ (.int .i64 5)).setCell ⟨G, 17, none⟩ (.pointer (some ⟨s, 0, none⟩))).setCell ⟨G, 18, none⟩ (.slice none 0 0)).setCell ⟨G, 22, none⟩ (.map (some (Y.heap.size + os4.size)))) ∧ Box V G 100 [.int .i64 0, .slice none 0 0, .bool true, .slice (some ⟨r2, 0, none⟩) 2 rc2, .slice (some ⟨u2, 0, none⟩) 1 uc2, .int .i64 0, .int .u32 3405803785, .int .i64 5000, .int .i64 5100, .slice none 0 0, .int .i64 1000, .int .i64 100, .int .i64 5, .int .i64 0, .int .i64 0, .int .i64 0, .slice none 0 0, .pointer (some ⟨s, 0, none⟩), .slice none 0 0, .int .i64 0, .int .i64 0, .int .i64 0, .map (some (Y.heap.size + os4.size))] ∧ Tch (fun k => k = G) Y V ∧ V.heap.size = Y.heap.size := ⟨_, rfl, ((((((((((((((hG.set 2 (.bool true)).set 3 (.slice (some ⟨r2, 0, none⟩) 2 rc2)).set 4 (.slice (some ⟨u2, 0, none⟩) 1 uc2)).set 5 (.int .i64 0)).set 6 (.int .u32 3405803785)).set 7 (.int .i64 5000)).set 8 (.int .i64 5100)).set 9 (.slice none 0 0)).set 10 (.int .i64 1000)).set 11 (.int .i64 100)).set 12 (.int .i64 5)).set 17 (.pointer (some ⟨s, 0, none⟩))).set 18 (.slice none 0 0)).set 22 (.map (some (Y.heap.size + os4.size)))), (((((((((((((((Tch.refl (L := fun k => k = G) Y).set (a := ⟨G, 2, none⟩) (.bool true) (fun _ => rfl)).set (a := ⟨G, 3, none⟩) (.slice (some ⟨r2, 0, none⟩) 2 rc2) (fun _ => rfl)).set (a := ⟨G, 4, none⟩) (.slice (some ⟨u2, 0, none⟩) 1 uc2) (fun _ => rfl)).set (a := ⟨G, 5, none⟩) (.int .i64 0) (fun _ => rfl)).set (a := ⟨G, 6, none⟩) (.int .u32 3405803785) (fun _ => rfl)).set (a := ⟨G, 7, none⟩) (.int .i64 5000) (fun _ => rfl)).set (a := ⟨G, 8, none⟩) (.int .i64 5100) (fun _ => rfl)).set (a := ⟨G, 9, none⟩) (.slice none 0 0) (fun _ => rfl)).set (a := ⟨G, 10, none⟩) (.int .i64 1000) (fun _ => rfl)).set (a := ⟨G, 11, none⟩) (.int .i64 100) (fun _ => rfl)).set (a := ⟨G, 12, none⟩) (.int .i64 5) (fun _ => rfl)).set (a := ⟨G, 17, none⟩) (.pointer (some ⟨s, 0, none⟩)) (fun _ => rfl)).set (a := ⟨G, 18, none⟩) (.slice none 0 0) (fun _ => rfl)).set (a := ⟨G, 22, none⟩) (.map (some (Y.heap.size + os4.size))) (fun _ => rfl)), by simp [World.setCell]⟩
  obtain ⟨V, hV0, hVB, hVT, hVS⟩ := hV
  rw [← hV0]
  clear hV0
  refine wp_keep (fun Z => ∃ tk, SE w Z G pb r2 rc2 u2 uc2 s sl tb wh mp tk rb rc ub uc [.int .i64 0, .slice none 0 0, .bool true, .slice (some ⟨r2, 0, none⟩) 2 rc2, .slice (some ⟨u2, 0, none⟩) 1 uc2, .int .i64 0, .int .u32 3405803785, .int .i64 5000, .int .i64 5100, .slice none 0 0, .int .i64 1000, .int .i64 100, .int .i64 5, .int .i64 0, .int .i64 0, .int .i64 0, .slice none 0 0, .pointer (some ⟨s, 0, none⟩), .slice none 0 0, .int .i64 0, .int .i64 0, .int .i64 0, .map (some tk)]) ?_ ?_
  · have T1 : Tch (fun k => k = G) Y ((V.junk os4 d4).alloc (.map #[] 0)) := hVT.on (by (exact jkc))
    have T2 : Tch (fun k => k = G) (Y.junk os4 d4) ((V.junk os4 d4).alloc (.map #[] 0)) := (tch_under hVT hVS os4 d4).on (by (exact jkc))
    have b := box_ty hG
    have f := H2.out.2.2.2
    have l1 := (own_at_le HRU.out.1).1
    have l2 := (own_at_le HRU.out.2).1
    have lm := f.bw.mm.lt
    refine ⟨Y.heap.size + os4.size, (Tch.of_junk H2.out.1).trans T1, hVB.on (by (exact jkc)), f.tch T1 ((box_ty f.bs).ne b (by decide)) ((box_ty f.bl).ne b (by decide)) ((own_ty f.bt).ne b (by decide)) ((box_ty f.bw.box).ne b (by decide)) (fun e => b.map0 f.bw.mm e.symm), own_keep (HRU.out.1.lower (Nat.zero_le _)) T2 (fun e => by have e : r2 = G := e; omega), own_keep (HRU.out.2.lower (Nat.zero_le _)) T2 (fun e => by have e : u2 = G := e; omega), ?_, H2.out.2.2.1.tch T1 ((box_ty H2.out.2.2.1).ne b (by decide)), H2.out.2.1.tch T1 ((box_ty H2.out.2.1).ne b (by decide)), by omega, HSZ.out⟩
    have := mp_made (V.junk os4 d4)
    rw [show (V.junk os4 d4).heap.size = Y.heap.size + os4.size from by simp [hVS]] at this
    exact this
  intro Z ⟨tk, hZ⟩
  have H3 := Lib.hid hZ
  clear H2 HRU HCL hG hVB hVT hVS c0 c1 c2 c3 c4 c5 c6 c7 c8 c9 cs gs g2 gf2 g3 gf3 g4 gf4 g5 gf5 g6 gf6 g7 gf7 g8 gf8 g9 gf9 g10 gf10 g11 gf11 g12 gf12 g17 gf17 g18 gf18 g22 gf22 HSZ
  have p0 := hZ.p.cell (j := 0) rfl
  have p1 := hZ.p.cell (j := 1) rfl
  have p2 := hZ.p.cell (j := 2) rfl
  have p3 := hZ.p.cell (j := 3) rfl
  have ps := hZ.p.lt
  have g0 := hZ.b.cell (j := 0) rfl
  have gs := hZ.b.lt
  clear hZ
  refine wp_region_mixa (Z) [] [13] [9, 10] #[true, true, true, true, true, true, true, true, true, true, true, true, true, false] [(0, true), (1, true), (2, true), (3, true), (4, true), (5, true), (6, false), (7, true), (8, true), (9, true), (10, true), (11, true), (12, true)] [(13, false)] (by kernel_rfl) (by kernel_rfl) (by (exact jkc)) (by intro e he; simp at he) ?_; (iterate 6 (refine wpMixB_q rfl (fun K hK => ?_); (go_simp; try go_bits); (refine hK _ ?_; clear hK K))); refine wpMixB_e rfl (fun osm6_0 dm6_0 K hK => ?_); (go_simp; try go_bits); (go_at_call 33; (with_reducible refine (pl_tick 0 0 (by decide) (by decide) (by decide) _).mono ?_); rintro e w1 ⟨rfl, ⟨os5, d5, rfl⟩⟩); refine hK _ _ (by first | exact jkc | assumption) ?_; clear hK K; (iterate 6 (refine wpMixB_q rfl (fun K hK => ?_); (go_simp; try go_bits); (refine hK _ ?_; clear hK K))); refine wpMixB_nil (fun osm6_1 dm6_1 => ?_); change wpMix _ _ _ _ _ _ _; refine wpMix_e1 rfl rfl (fun osm6_2 dm6_2 K hK => ?_); (refine storeBox_wp 94 _ _ rfl (H3.out.b.on (show Junk Z _ by (exact jkc))) 13 #[.int .i64 65536, .int .i64 30, .int .i64 0, .slice none 0 0] (show (Tryz.prog.info? 94).map (·.size) = some 4 from by kernel_rfl) rfl rfl (by simp) (by simp [Value.oneCell']) ?_; intro w2 hg2 hb2; have H4 := Lib.hid (H3.out.to ((Tch.of_junk (L := fun k => k = G) (show Junk Z _ by (exact jkc))).grown hg2 (fun _ => rfl)) (show Box w2 G 100 [.int .i64 0, .slice none 0 0, .bool true, .slice (some ⟨r2, 0, none⟩) 2 rc2, .slice (some ⟨u2, 0, none⟩) 1 uc2, .int .i64 0, .int .u32 3405803785, .int .i64 5000, .int .i64 5100, .slice none 0 0, .int .i64 1000, .int .i64 100, .int .i64 5, .int .i64 65536, .int .i64 30, .int .i64 0, .slice none 0 0, .pointer (some ⟨s, 0, none⟩), .slice none 0 0, .int .i64 0, .int .i64 0, .int .i64 0, .map (some tk)] from hb2)); clear hg2 hb2); refine hK _ _ trivial ?_; clear hK K; refine wpMix_nil (fun osm dm => ?_)
  go_upto_region 7 with (fail)
  refine wp_keep (fun X => SE w X G pb r2 rc2 u2 uc2 s sl tb wh mp tk rb rc ub uc [.int .i64 0, .slice none 0 0, .bool true, .slice (some ⟨r2, 0, none⟩) 2 rc2, .slice (some ⟨u2, 0, none⟩) 1 uc2, .int .i64 0, .int .u32 3405803785, .int .i64 5000, .int .i64 5100, .slice none 0 0, .int .i64 1000, .int .i64 100, .int .i64 5, .int .i64 65536, .int .i64 30, .int .i64 0, .slice none 0 0, .pointer (some ⟨s, 0, none⟩), .slice none 0 0, .int .i64 0, .int .i64 0, .int .i64 0, .map (some tk)]) (H4.out.on (by (exact jkc))) ?_
  intro X hX
  have H5 := Lib.hid hX
  clear p0 p1 p2 p3 ps g0 gs H3 H4
  have g0 := hX.b.cell (j := 0) rfl
  have gs := hX.b.lt
  have HFT := Lib.hid (fun w1 (hj : Junk X w1) => ftick0 s sl tb 1024 wh mp none 0 0 0 w1 (hX.f.on hj) (by decide) (by decide))
  clear hX
  go_upto_region 8 with (first
    | (go_at_call 35; (with_reducible refine (HFT.out _ (by (exact jkc))).mono ?_); rintro e w3 ⟨rfl, hf3, ht3⟩; have H6 := Lib.hid ((H5.out.on (show Junk X _ by (exact jkc))).ticked ht3 hf3); clear hf3 ht3))
  refine wp_keep (fun X => SE w X G pb r2 rc2 u2 uc2 s sl tb wh mp tk rb rc ub uc [.int .i64 0, .slice none 0 0, .bool true, .slice (some ⟨r2, 0, none⟩) 2 rc2, .slice (some ⟨u2, 0, none⟩) 1 uc2, .int .i64 0, .int .u32 3405803785, .int .i64 5000, .int .i64 5100, .slice none 0 0, .int .i64 1000, .int .i64 100, .int .i64 5, .int .i64 65536, .int .i64 30, .int .i64 0, .slice none 0 0, .pointer (some ⟨s, 0, none⟩), .slice none 0 0, .int .i64 0, .int .i64 0, .int .i64 0, .map (some tk)]) (H6.out.on (by (exact jkc))) ?_
  intro X2 hX
  have H7 := Lib.hid hX
  clear g0 gs HFT H5 H6
  have g0 := hX.b.cell (j := 0) rfl
  have c9 := hX.c.cell (j := 9) rfl
  have gs := hX.b.lt
  have cs := hX.c.lt
  clear hX
  refine wp_region_mixl (X2) 12 [(0, true), (1, true), (2, true), (3, true), (4, true), (5, true), (6, true), (7, true), (8, true), (9, true), (10, true), (11, true), (12, false)] (by kernel_rfl) (by kernel_rfl) (by (exact jkc)) ?_; (iterate 12 (refine wpMixL_q rfl (fun K hK => ?_); (go_simp; try go_bits); (refine hK _ ?_; clear hK K))); refine wpMixL_last1 rfl rfl (fun osm8_0 dm8_0 K hK => ?_); (refine storeBox_wp 97 _ _ rfl (H7.out.b.on (show Junk X2 _ by (exact jkc))) 19 #[.int .i64 5, .int .i64 5, .int .i64 0] (show (Tryz.prog.info? 97).map (·.size) = some 3 from by kernel_rfl) rfl rfl (by simp) (by simp [Value.oneCell']) ?_; intro w5 hg5 hb5; have H8 := Lib.hid (H7.out.to ((Tch.of_junk (L := fun k => k = G) (show Junk X2 _ by (exact jkc))).grown hg5 (fun _ => rfl)) (show Box w5 G 100 [.int .i64 0, .slice none 0 0, .bool true, .slice (some ⟨r2, 0, none⟩) 2 rc2, .slice (some ⟨u2, 0, none⟩) 1 uc2, .int .i64 0, .int .u32 3405803785, .int .i64 5000, .int .i64 5100, .slice none 0 0, .int .i64 1000, .int .i64 100, .int .i64 5, .int .i64 65536, .int .i64 30, .int .i64 0, .slice none 0 0, .pointer (some ⟨s, 0, none⟩), .slice none 0 0, .int .i64 5, .int .i64 5, .int .i64 0, .map (some tk)] from hb5)); clear hg5 hb5); refine hK _ _ ?_; clear hK K; refine wpMixL_nil (fun osm dm => ?_)
  go_upto_region 9 with (fail)
  refine wp_keep (fun X => SE w X G pb r2 rc2 u2 uc2 s sl tb wh mp tk rb rc ub uc [.int .i64 0, .slice none 0 0, .bool true, .slice (some ⟨r2, 0, none⟩) 2 rc2, .slice (some ⟨u2, 0, none⟩) 1 uc2, .int .i64 0, .int .u32 3405803785, .int .i64 5000, .int .i64 5100, .slice none 0 0, .int .i64 1000, .int .i64 100, .int .i64 5, .int .i64 65536, .int .i64 30, .int .i64 0, .slice none 0 0, .pointer (some ⟨s, 0, none⟩), .slice none 0 0, .int .i64 5, .int .i64 5, .int .i64 0, .map (some tk)]) (H8.out.on (by (exact jkc))) ?_
  intro X3 h
  clear H7 H8 g0 c9 gs cs
  go_wp2
  go_ret
  exact ⟨rfl, ⟨G, r2, rc2, u2, uc2, tk, s, none, 0, 0, 0⟩, ⟨sl, tb, 1024, wh, mp, 0, 0⟩, rfl, rfl, rfl, rfl, rfl, ⟨⟨h.b, h.r, h.u, h.m⟩, h.f, h.ne, by have := h.lo; have := H0.out.1.lt; show G ≤ G ∧ G ≤ s ∧ G ≤ sl ∧ G ≤ wh ∧ G ≤ mp; omega⟩, h.t⟩
theorem gkey_any (B : Nat) (g : Gp) (q : Fp) (oa : Option Addr) (c : Nat) (xs : Nat → Int) (w : World) (h : GE B w g 0 none 0 q none 0) (hr : g.kr = none) (hn : g.kn = 0) (hc : g.kc = 0) (hB : Bts w oa 3 c xs) :
    Calls Tryz.prog 26 #[.pointer (some ⟨g.G, 0, none⟩), .slice oa 3 c] w fun e w' => e = .returned (.int .i64 0) ∧ ∃ g', g'.G = g.G ∧ GE B w' g' 0 none 0 q none 0 ∧ Tch (fun k => k = g.G) w w' := by
  obtain ⟨G, rb, rc, ub, uc, tk, s, kr, kn, kc, bat⟩ := g
  dsimp only at hr hn hc
  subst hr hn hc
  have g1 := h.gs.b.cell (j := 1) rfl
  have gf1 := h.gs.b.frozen 1
  have gs := h.gs.b.lt
  have HH := Lib.hid h
  have HT := Lib.hid (fun w1 (hj : Junk w w1) => mturn_any oa c xs w1 (hB.on hj))
  clear h hB
  go_enter Tryz.func26, Tryz.ntmps26
  go_wp2_with (first
    | (go_at_call 53; (with_reducible refine (HT.out _ (by (exact jkc))).mono ?_); rintro e w1 ⟨ob, cap, rfl, ⟨os1, d1, rfl⟩⟩))
  go_ret
  have h := HH.out
  have T : Tch (fun k => k = G) w (w.setCell ⟨G, 1, none⟩ (.slice ob 1 cap)) := (Tch.refl (L := fun k => k = G) w).set _ (fun _ => rfl)
  obtain ⟨n1, n2, n3, n4, n5, n6, n7, n8⟩ := FS0.sepG h.gs h.fs
  have hG : GE B (w.setCell ⟨G, 1, none⟩ (.slice ob 1 cap)) ⟨G, rb, rc, ub, uc, tk, s, ob, 1, cap, bat⟩ 0 none 0 q none 0 := ⟨⟨h.gs.b.set 1 _, own_keep h.gs.r T n1, own_keep h.gs.u T n2, h.gs.t.tch T n3⟩, h.fs.tch T n4 n5 n6 n7 n8, h.ne, h.lo⟩
  exact ⟨rfl, _, rfl, hG.on (by (exact jkc)), T.on (by (exact jkc))⟩
theorem bts_cells {V : World} {g n : Nat} {e : TypeId} {cs : List Value} {xs : Nat → Int} (h : Box V g e cs) (hc : ∀ i, i < n → cs[i]? = some (.int .u8 (xs i))) (hx : ∀ i, i < n → 0 ≤ xs i ∧ xs i ≤ 255) (hm : n ≤ maxLen) : Bts V (some ⟨g, 0, none⟩) n n xs :=
  ⟨fun i hi => ⟨g, 0, rfl, h.lt, by rw [Nat.zero_add]; exact h.cell (hc i hi)⟩, hx, (fun e => by cases e), Nat.le_refl _, hm⟩
theorem GE.lower {B B' : Nat} {w : World} {g : Gp} {now : Int} {oa o2 : Option Addr} {c c2 : Nat} {q : Fp} (h : GE B w g now oa c q o2 c2) (hB : B' ≤ B) : GE B' w g now oa c q o2 c2 :=
  ⟨h.gs, h.fs, h.ne, by have := h.lo; omega⟩
end Go.Proofs.YtfhkhnoiolkkdaaGreatDoor
set_option linter.unusedVariables false
set_option maxRecDepth 100000
set_option linter.unusedSimpArgs false
namespace Go.Proofs.YtfhkhnoiolkkdaaGreatDoor
open Go.RowKit
theorem vis_set {X : World} {G v : Nat} {z dr src dst : Int} {oo ob : Option Addr} {oc bl bc : Nat} {sp dp : Int} (h : Box X v 107 (visL G z dr src dst oo ob oc bl bc ⟨0, 0, 0, 0, 0⟩)) :
    Box (((((X.setCell ⟨v, 14, none⟩ (.int .i64 17)).setCell ⟨v, 15, none⟩ (.int .u32 src)).setCell ⟨v, 16, none⟩ (.int .i64 sp)).setCell ⟨v, 17, none⟩ (.int .u32 dst)).setCell ⟨v, 18, none⟩ (.int .i64 dp)) v 107 (visL G z dr src dst oo ob oc bl bc ⟨17, src, sp, dst, dp⟩) :=
  ((((h.set 14 _).set 15 _).set 16 _).set 17 _).set 18 _
theorem tch_set5 {w X : World} {v i0 i1 i2 i3 i4 : Nat} {a b c d e : Value} (hj : Junk w X) : Tch (fun k => k = v) w (((((X.setCell ⟨v, i0, none⟩ a).setCell ⟨v, i1, none⟩ b).setCell ⟨v, i2, none⟩ c).setCell ⟨v, i3, none⟩ d).setCell ⟨v, i4, none⟩ e) :=
  (((((Tch.of_junk (L := fun k => k = v) hj).set _ (fun _ => rfl)).set _ (fun _ => rfl)).set _ (fun _ => rfl)).set _ (fun _ => rfl)).set _ (fun _ => rfl)
def VS (w X : World) (v : Nat) (vl : List Value) : Prop := Tch (fun k => k = v) w X ∧ Box X v 107 vl
theorem VS.on {w X Y : World} {v : Nat} {vl : List Value} (h : VS w X v vl) (j : Junk X Y) : VS w Y v vl := ⟨h.1.on j, h.2.on j⟩
set_option maxHeartbeats 4000000 in
theorem vpacket_known (R : Option Addr → Nat → Nat → World → Prop) (vd : Int) (v : Nat) (g : Gp) (now z dr src dst s d : Int) (oa : Option Addr) (l c bl : Nat) (body : Nat → Int) (oo ob : Option Addr) (oc bc : Nat) (w : World) (hR : ∀ o n c w w', R o n c w → Junk w w' → R o n c w') (h : GS w g now oa l c) (hV : Box w v 107 (visL g.G z dr src dst oo ob oc bl bc ⟨0, 0, 0, 0, 0⟩)) (hI : IpAt w (Pk 64 src dst bl body) oo oc ob bc) (hU : UdP (Pk 64 src dst bl body) s d) (hb : bl ≤ 1000) (hZ : ∀ w1, Junk w w1 → Calls Tryz.prog 76 #[.slice (some ⟨g.rb, 0, none⟩) 2 g.rc, .int .u32 src] w1 fun e w' => e = .returned (.int .i64 z) ∧ Junk w1 w')
    (hF : ∀ X, VS w X v (visL g.G z dr src dst oo ob oc bl bc ⟨17, src, s, dst, d⟩) → Calls Tryz.prog 79 #[.pointer (some ⟨g.s, 0, none⟩), .agg #[.int .i64 17, .int .u32 src, .int .i64 s, .int .u32 dst, .int .i64 d]] X fun e w' => e = .returned (.tuple #[.int .i64 0, .bool true, .bool true]) ∧ Junk X w')
    (hK : ∀ X, VS w X v (visL g.G z dr src dst oo ob oc bl bc ⟨17, src, s, dst, d⟩) → Calls Tryz.prog 80 #[.pointer (some ⟨v, 0, none⟩), .int .i64 0, .bool true] X fun e w' => ∃ o n c, e = .returned (.tuple #[.slice o n c, .int .i64 vd]) ∧ R o n c w') :
    Calls Tryz.prog 31 #[.pointer (some ⟨v, 0, none⟩)] w fun e w' => ∃ o n c, e = .returned (.tuple #[.slice o n c, .int .i64 vd]) ∧ R o n c w' := by
  have HH := Lib.hid h
  have HV := Lib.hid hV
  have HZ := Lib.hid hZ
  have HER := Lib.hid (fun w1 (hj : Junk w w1) => verr_any v w1 (hV.on hj).lt ((hV.on hj).cell (j := 9) rfl))
  have HOF := Lib.hid (fun w1 (hj : Junk w w1) => pk_of 64 src dst bl body s d oo ob oc bc w1 hU hb (hI.on hj))
  have HR := Lib.hid hR
  have HF := Lib.hid hF
  have HK := Lib.hid hK
  have g3 := h.b.cell (j := 3) rfl
  have gs := h.b.lt
  have v0 : w.cell? ⟨v, 0, none⟩ = some (.pointer (some ⟨g.G, 0, none⟩)) := hV.cell rfl
  have v1 : w.cell? ⟨v, 1, none⟩ = some (.int .i64 z) := hV.cell rfl
  have v3 : w.cell? ⟨v, 3, none⟩ = some (.int .i64 0) := hV.cell rfl
  have v4 : w.cell? ⟨v, 4, none⟩ = some (.int .i64 0) := hV.cell rfl
  have v5 : w.cell? ⟨v, 5, none⟩ = some (.bool false) := hV.cell rfl
  have v6 : w.cell? ⟨v, 6, none⟩ = some (.bool false) := hV.cell rfl
  have v7 : w.cell? ⟨v, 7, none⟩ = some (.int .i64 0) := hV.cell rfl
  have v8 : w.cell? ⟨v, 8, none⟩ = some (.int .i64 64) := hV.cell rfl
  have v9 : w.cell? ⟨v, 9, none⟩ = some (.int .i64 17) := hV.cell rfl
  have v10 : w.cell? ⟨v, 10, none⟩ = some (.int .u32 src) := hV.cell rfl
  have v11 : w.cell? ⟨v, 11, none⟩ = some (.int .u32 dst) := hV.cell rfl
  have v12 : w.cell? ⟨v, 12, none⟩ = some (.slice oo 0 oc) := hV.cell rfl
  have v13 : w.cell? ⟨v, 13, none⟩ = some (.slice ob bl bc) := hV.cell rfl
  have vs := hV.lt
  clear h hV hI hU hZ hF hK hR
  go_enter Tryz.func31, Tryz.ntmps31
  go_wp2
  refine wp_region_mixj (w) [(0, true), (1, true), (2, true), (3, true), (4, true), (5, true), (6, true), (7, true), (8, true), (9, true), (10, true), (11, true), (12, true), (14, true), (15, true), (16, true), (17, true), (13, false), (18, true)] (by kernel_rfl) (by kernel_rfl) (by (exact jkc)) ?_; (iterate 17 (refine wpMix_q rfl (fun K hK => ?_); (go_simp; try go_bits); (refine hK _ ?_; clear hK K))); refine wpMix_e rfl (fun osm1_0 dm1_0 K hK => ?_); (go_simp; try go_bits); (go_at_call 76; (with_reducible refine (HZ.out _ (by (exact jkc))).mono ?_); rintro e w1 ⟨rfl, ⟨osz, dz, rfl⟩⟩); refine hK _ _ (Junk.pair (by (first | exact jkc | repeat (first | with_reducible exact Junk.refl _ | with_reducible exact Junk.app _ _ _ _ _ | with_reducible apply Junk.alloc | with_reducible apply Junk.junk | with_reducible apply Junk.drew | with_reducible apply Junk.drewN | (with_reducible refine Junk.setCell ?_ (by simp) _))))) ?_; clear hK K; (iterate 1 (refine wpMix_q rfl (fun K hK => ?_); (go_simp; try go_bits); (refine hK _ ?_; clear hK K))); refine wpMix_nil (fun osm dm => ?_)
  go_upto_region 3 with (fail)
  refine wp_keep (fun X => Junk w X) (by (exact jkc)) ?_
  intro X0 hj0
  have HJ0 := Lib.hid hj0
  clear g3 gs v0 v1 v3 v4 v5 v6 v7 v8 v9 v10 v11 v12 v13 vs HZ
  have vb := HV.out.on hj0
  have v0 : X0.cell? ⟨v, 0, none⟩ = some (.pointer (some ⟨g.G, 0, none⟩)) := vb.cell rfl
  have v3 : X0.cell? ⟨v, 3, none⟩ = some (.int .i64 0) := vb.cell rfl
  have v4 : X0.cell? ⟨v, 4, none⟩ = some (.int .i64 0) := vb.cell rfl
  have v5 : X0.cell? ⟨v, 5, none⟩ = some (.bool false) := vb.cell rfl
  have v6 : X0.cell? ⟨v, 6, none⟩ = some (.bool false) := vb.cell rfl
  have v7 : X0.cell? ⟨v, 7, none⟩ = some (.int .i64 0) := vb.cell rfl
  have v8 : X0.cell? ⟨v, 8, none⟩ = some (.int .i64 64) := vb.cell rfl
  have v9 : X0.cell? ⟨v, 9, none⟩ = some (.int .i64 17) := vb.cell rfl
  have v10 : X0.cell? ⟨v, 10, none⟩ = some (.int .u32 src) := vb.cell rfl
  have v11 : X0.cell? ⟨v, 11, none⟩ = some (.int .u32 dst) := vb.cell rfl
  have v12 : X0.cell? ⟨v, 12, none⟩ = some (.slice oo 0 oc) := vb.cell rfl
  have v13 : X0.cell? ⟨v, 13, none⟩ = some (.slice ob bl bc) := vb.cell rfl
  have vs := vb.lt
  clear hj0 vb
  go_upto_region 9 with (first
    | (go_at_call 77; (with_reducible refine (HER.out _ (HJ0.out.trans (by (exact jkc)))).mono ?_); rintro e w1 ⟨rfl, ⟨os2, d2, rfl⟩⟩)
    | (go_at_call 32; (with_reducible refine (HOF.out _ (HJ0.out.trans (by (exact jkc)))).mono ?_); rintro e w1 ⟨rfl, ⟨os3, d3, rfl⟩⟩))
  obtain ⟨tb, htb⟩ : ∃ tb, X0.heap.size + os2.size + 1 + os3.size = tb := ⟨_, rfl⟩
  rw [htb]
  refine wp_keep (fun X => Junk w X ∧ Box X tb 38 [.int .i64 17, .int .u32 src, .int .i64 s, .int .u32 dst, .int .i64 d]) ⟨HJ0.out.trans (by (exact jkc)), box_at' (by rw [← htb]; simp) rfl⟩ ?_
  intro X ⟨hj, hB⟩
  have H1 := Lib.hid (And.intro hj hB)
  clear htb HER HOF v0 v3 v4 v5 v6 v7 v8 v9 v10 v11 v12 v13 vs HJ0
  have t0 := hB.cell (j := 0) rfl
  have t1 := hB.cell (j := 1) rfl
  have t2 := hB.cell (j := 2) rfl
  have t3 := hB.cell (j := 3) rfl
  have t4 := hB.cell (j := 4) rfl
  have ts := hB.lt
  have hV := HV.out.on hj
  have v14 := hV.cell (j := 14) rfl
  have vf14 := hV.frozen 14
  have v15 := hV.cell (j := 15) rfl
  have vf15 := hV.frozen 15
  have v16 := hV.cell (j := 16) rfl
  have vf16 := hV.frozen 16
  have v17 := hV.cell (j := 17) rfl
  have vf17 := hV.frozen 17
  have v18 := hV.cell (j := 18) rfl
  have vf18 := hV.frozen 18
  have vs := hV.lt
  clear hj hB hV
  go_upto_region 10 with (fail)
  refine wp_keep (fun Y => VS w Y v (visL g.G z dr src dst oo ob oc bl bc ⟨17, src, s, dst, d⟩) ∧ Box Y tb 38 [.int .i64 17, .int .u32 src, .int .i64 s, .int .u32 dst, .int .i64 d] ∧ GS Y g now oa l c) ?_ ?_
  · have hj := H1.out.1
    have hs := HH.out.sep (box_ty HV.out) (by decide) (by decide) (by decide)
    exact ⟨⟨tch_set5 hj, vis_set (HV.out.on hj)⟩, H1.out.2.tch (tch_set5 (Junk.refl X)) (fun e => (box_ty H1.out.2).ne (box_ty (HV.out.on hj)) (by decide) e), HH.out.tch (tch_set5 hj) (fun e => hs.1 e.symm) (fun e => hs.2.1 e.symm) (fun e => hs.2.2.1 e.symm) (fun e => hs.2.2.2 e.symm)⟩
  intro Y ⟨hY, hB, hG⟩
  have H2 := Lib.hid (And.intro hY (And.intro hB hG))
  clear t0 t1 t2 t3 t4 ts v14 v15 v16 v17 v18 vf14 vf15 vf16 vf17 vf18 vs
  have t0 := hB.cell (j := 0) rfl
  have t1 := hB.cell (j := 1) rfl
  have t2 := hB.cell (j := 2) rfl
  have t3 := hB.cell (j := 3) rfl
  have t4 := hB.cell (j := 4) rfl
  have ts := hB.lt
  have v0 : Y.cell? ⟨v, 0, none⟩ = some (.pointer (some ⟨g.G, 0, none⟩)) := hY.2.cell rfl
  have vs := hY.2.lt
  have g17 := hG.b.cell (j := 17) rfl
  have gs := hG.b.lt
  clear hY hB hG H1 HH HV
  go_wp2
  refine wp_region_mixj (Y) [(0, true), (1, true), (2, true), (3, true), (4, true), (5, true), (6, true), (7, true), (8, false), (9, true), (10, true), (11, true), (12, true), (13, true), (14, true), (15, true)] (by kernel_rfl) (by kernel_rfl) (by (exact jkc)) ?_; (iterate 8 (refine wpMix_q rfl (fun K hK => ?_); (go_simp; try go_bits); (refine hK _ ?_; clear hK K))); refine wpMix_e rfl (fun osm12_0 dm12_0 K hK => ?_); (go_simp; try go_bits); (go_at_call 79; (with_reducible refine (HF.out _ (H2.out.1.on (by (exact jkc)))).mono ?_); rintro e w1 ⟨rfl, ⟨osf, df, rfl⟩⟩); refine hK _ _ (Junk.pair (by (first | exact jkc | repeat (first | with_reducible exact Junk.refl _ | with_reducible exact Junk.app _ _ _ _ _ | with_reducible apply Junk.alloc | with_reducible apply Junk.junk | with_reducible apply Junk.drew | with_reducible apply Junk.drewN | (with_reducible refine Junk.setCell ?_ (by simp) _))))) ?_; clear hK K; (iterate 7 (refine wpMix_q rfl (fun K hK => ?_); (go_simp; try go_bits); (refine hK _ ?_; clear hK K))); refine wpMix_nil (fun osm dm => ?_)
  go_wp2_with (first | (go_at_call 80; (with_reducible refine (HK.out _ (H2.out.1.on (by (exact jkc)))).mono ?_); rintro e w3 ⟨on, nn, cn, rfl, hr⟩; have HRR := Lib.hid hr; clear hr))
  go_returns
  exact ⟨on, nn, cn, rfl, HR.out _ _ _ _ _ HRR.out (by (exact jkc))⟩
set_option maxHeartbeats 4000000 in
theorem vpacket_fresh (R : Option Addr → Nat → Nat → World → Prop) (vd : Int) (v : Nat) (g : Gp) (now z dr src dst s d : Int) (oa : Option Addr) (l c bl : Nat) (body : Nat → Int) (oo ob : Option Addr) (oc bc : Nat) (w : World) (hR : ∀ o n c w w', R o n c w → Junk w w' → R o n c w') (h : GS w g now oa l c) (hV : Box w v 107 (visL g.G z dr src dst oo ob oc bl bc ⟨0, 0, 0, 0, 0⟩)) (hI : IpAt w (Pk 64 src dst bl body) oo oc ob bc) (hU : UdP (Pk 64 src dst bl body) s d) (hb : bl ≤ 1000) (hZ : ∀ w1, Junk w w1 → Calls Tryz.prog 76 #[.slice (some ⟨g.rb, 0, none⟩) 2 g.rc, .int .u32 src] w1 fun e w' => e = .returned (.int .i64 z) ∧ Junk w1 w')
    (hF : ∀ X, VS w X v (visL g.G z dr src dst oo ob oc bl bc ⟨17, src, s, dst, d⟩) → Calls Tryz.prog 79 #[.pointer (some ⟨g.s, 0, none⟩), .agg #[.int .i64 17, .int .u32 src, .int .i64 s, .int .u32 dst, .int .i64 d]] X fun e w' => e = .returned (.tuple #[.int .i64 0, .bool false, .bool false]) ∧ Junk X w')
    (hK : ∀ X, VS w X v (visL g.G z dr src dst oo ob oc bl bc ⟨17, src, s, dst, d⟩) → Calls Tryz.prog 81 #[.pointer (some ⟨v, 0, none⟩)] X fun e w' => ∃ o n c, e = .returned (.tuple #[.slice o n c, .int .i64 vd]) ∧ R o n c w') :
    Calls Tryz.prog 31 #[.pointer (some ⟨v, 0, none⟩)] w fun e w' => ∃ o n c, e = .returned (.tuple #[.slice o n c, .int .i64 vd]) ∧ R o n c w' := by
  have HH := Lib.hid h
  have HV := Lib.hid hV
  have HZ := Lib.hid hZ
  have HER := Lib.hid (fun w1 (hj : Junk w w1) => verr_any v w1 (hV.on hj).lt ((hV.on hj).cell (j := 9) rfl))
  have HOF := Lib.hid (fun w1 (hj : Junk w w1) => pk_of 64 src dst bl body s d oo ob oc bc w1 hU hb (hI.on hj))
  have HR := Lib.hid hR
  have HF := Lib.hid hF
  have HK := Lib.hid hK
  have g3 := h.b.cell (j := 3) rfl
  have gs := h.b.lt
  have v0 : w.cell? ⟨v, 0, none⟩ = some (.pointer (some ⟨g.G, 0, none⟩)) := hV.cell rfl
  have v1 : w.cell? ⟨v, 1, none⟩ = some (.int .i64 z) := hV.cell rfl
  have v3 : w.cell? ⟨v, 3, none⟩ = some (.int .i64 0) := hV.cell rfl
  have v4 : w.cell? ⟨v, 4, none⟩ = some (.int .i64 0) := hV.cell rfl
  have v5 : w.cell? ⟨v, 5, none⟩ = some (.bool false) := hV.cell rfl
  have v6 : w.cell? ⟨v, 6, none⟩ = some (.bool false) := hV.cell rfl
  have v7 : w.cell? ⟨v, 7, none⟩ = some (.int .i64 0) := hV.cell rfl
  have v8 : w.cell? ⟨v, 8, none⟩ = some (.int .i64 64) := hV.cell rfl
  have v9 : w.cell? ⟨v, 9, none⟩ = some (.int .i64 17) := hV.cell rfl
  have v10 : w.cell? ⟨v, 10, none⟩ = some (.int .u32 src) := hV.cell rfl
  have v11 : w.cell? ⟨v, 11, none⟩ = some (.int .u32 dst) := hV.cell rfl
  have v12 : w.cell? ⟨v, 12, none⟩ = some (.slice oo 0 oc) := hV.cell rfl
  have v13 : w.cell? ⟨v, 13, none⟩ = some (.slice ob bl bc) := hV.cell rfl
  have vs := hV.lt
  clear h hV hI hU hZ hF hK hR
  go_enter Tryz.func31, Tryz.ntmps31
  go_wp2
  refine wp_region_mixj (w) [(0, true), (1, true), (2, true), (3, true), (4, true), (5, true), (6, true), (7, true), (8, true), (9, true), (10, true), (11, true), (12, true), (14, true), (15, true), (16, true), (17, true), (13, false), (18, true)] (by kernel_rfl) (by kernel_rfl) (by (exact jkc)) ?_; (iterate 17 (refine wpMix_q rfl (fun K hK => ?_); (go_simp; try go_bits); (refine hK _ ?_; clear hK K))); refine wpMix_e rfl (fun osm1_0 dm1_0 K hK => ?_); (go_simp; try go_bits); (go_at_call 76; (with_reducible refine (HZ.out _ (by (exact jkc))).mono ?_); rintro e w1 ⟨rfl, ⟨osz, dz, rfl⟩⟩); refine hK _ _ (Junk.pair (by (first | exact jkc | repeat (first | with_reducible exact Junk.refl _ | with_reducible exact Junk.app _ _ _ _ _ | with_reducible apply Junk.alloc | with_reducible apply Junk.junk | with_reducible apply Junk.drew | with_reducible apply Junk.drewN | (with_reducible refine Junk.setCell ?_ (by simp) _))))) ?_; clear hK K; (iterate 1 (refine wpMix_q rfl (fun K hK => ?_); (go_simp; try go_bits); (refine hK _ ?_; clear hK K))); refine wpMix_nil (fun osm dm => ?_)
  go_upto_region 3 with (fail)
  refine wp_keep (fun X => Junk w X) (by (exact jkc)) ?_
  intro X0 hj0
  have HJ0 := Lib.hid hj0
  clear g3 gs v0 v1 v3 v4 v5 v6 v7 v8 v9 v10 v11 v12 v13 vs HZ
  have vb := HV.out.on hj0
  have v0 : X0.cell? ⟨v, 0, none⟩ = some (.pointer (some ⟨g.G, 0, none⟩)) := vb.cell rfl
  have v3 : X0.cell? ⟨v, 3, none⟩ = some (.int .i64 0) := vb.cell rfl
  have v4 : X0.cell? ⟨v, 4, none⟩ = some (.int .i64 0) := vb.cell rfl
  have v5 : X0.cell? ⟨v, 5, none⟩ = some (.bool false) := vb.cell rfl
  have v6 : X0.cell? ⟨v, 6, none⟩ = some (.bool false) := vb.cell rfl
  have v7 : X0.cell? ⟨v, 7, none⟩ = some (.int .i64 0) := vb.cell rfl
  have v8 : X0.cell? ⟨v, 8, none⟩ = some (.int .i64 64) := vb.cell rfl
  have v9 : X0.cell? ⟨v, 9, none⟩ = some (.int .i64 17) := vb.cell rfl
  have v10 : X0.cell? ⟨v, 10, none⟩ = some (.int .u32 src) := vb.cell rfl
  have v11 : X0.cell? ⟨v, 11, none⟩ = some (.int .u32 dst) := vb.cell rfl
  have v12 : X0.cell? ⟨v, 12, none⟩ = some (.slice oo 0 oc) := vb.cell rfl
  have v13 : X0.cell? ⟨v, 13, none⟩ = some (.slice ob bl bc) := vb.cell rfl
  have vs := vb.lt
  clear hj0 vb
  go_upto_region 9 with (first
    | (go_at_call 77; (with_reducible refine (HER.out _ (HJ0.out.trans (by (exact jkc)))).mono ?_); rintro e w1 ⟨rfl, ⟨os2, d2, rfl⟩⟩)
    | (go_at_call 32; (with_reducible refine (HOF.out _ (HJ0.out.trans (by (exact jkc)))).mono ?_); rintro e w1 ⟨rfl, ⟨os3, d3, rfl⟩⟩))
  obtain ⟨tb, htb⟩ : ∃ tb, X0.heap.size + os2.size + 1 + os3.size = tb := ⟨_, rfl⟩
  rw [htb]
  refine wp_keep (fun X => Junk w X ∧ Box X tb 38 [.int .i64 17, .int .u32 src, .int .i64 s, .int .u32 dst, .int .i64 d]) ⟨HJ0.out.trans (by (exact jkc)), box_at' (by rw [← htb]; simp) rfl⟩ ?_
  intro X ⟨hj, hB⟩
  have H1 := Lib.hid (And.intro hj hB)
  clear htb HER HOF v0 v3 v4 v5 v6 v7 v8 v9 v10 v11 v12 v13 vs HJ0
  have t0 := hB.cell (j := 0) rfl
  have t1 := hB.cell (j := 1) rfl
  have t2 := hB.cell (j := 2) rfl
  have t3 := hB.cell (j := 3) rfl
  have t4 := hB.cell (j := 4) rfl
  have ts := hB.lt
  have hV := HV.out.on hj
  have v14 := hV.cell (j := 14) rfl
  have vf14 := hV.frozen 14
  have v15 := hV.cell (j := 15) rfl
  have vf15 := hV.frozen 15
  have v16 := hV.cell (j := 16) rfl
  have vf16 := hV.frozen 16
  have v17 := hV.cell (j := 17) rfl
  have vf17 := hV.frozen 17
  have v18 := hV.cell (j := 18) rfl
  have vf18 := hV.frozen 18
  have vs := hV.lt
  clear hj hB hV
  go_upto_region 10 with (fail)
  refine wp_keep (fun Y => VS w Y v (visL g.G z dr src dst oo ob oc bl bc ⟨17, src, s, dst, d⟩) ∧ Box Y tb 38 [.int .i64 17, .int .u32 src, .int .i64 s, .int .u32 dst, .int .i64 d] ∧ GS Y g now oa l c) ?_ ?_
  · have hj := H1.out.1
    have hs := HH.out.sep (box_ty HV.out) (by decide) (by decide) (by decide)
    exact ⟨⟨tch_set5 hj, vis_set (HV.out.on hj)⟩, H1.out.2.tch (tch_set5 (Junk.refl X)) (fun e => (box_ty H1.out.2).ne (box_ty (HV.out.on hj)) (by decide) e), HH.out.tch (tch_set5 hj) (fun e => hs.1 e.symm) (fun e => hs.2.1 e.symm) (fun e => hs.2.2.1 e.symm) (fun e => hs.2.2.2 e.symm)⟩
  intro Y ⟨hY, hB, hG⟩
  have H2 := Lib.hid (And.intro hY (And.intro hB hG))
  clear t0 t1 t2 t3 t4 ts v14 v15 v16 v17 v18 vf14 vf15 vf16 vf17 vf18 vs
  have t0 := hB.cell (j := 0) rfl
  have t1 := hB.cell (j := 1) rfl
  have t2 := hB.cell (j := 2) rfl
  have t3 := hB.cell (j := 3) rfl
  have t4 := hB.cell (j := 4) rfl
  have ts := hB.lt
  have v0 : Y.cell? ⟨v, 0, none⟩ = some (.pointer (some ⟨g.G, 0, none⟩)) := hY.2.cell rfl
  have vs := hY.2.lt
  have g17 := hG.b.cell (j := 17) rfl
  have gs := hG.b.lt
  clear hY hB hG H1 HH HV
  go_wp2
  refine wp_region_mixj (Y) [(0, true), (1, true), (2, true), (3, true), (4, true), (5, true), (6, true), (7, true), (8, false), (9, true), (10, true), (11, true), (12, true), (13, true), (14, true), (15, true)] (by kernel_rfl) (by kernel_rfl) (by (exact jkc)) ?_; (iterate 8 (refine wpMix_q rfl (fun K hK => ?_); (go_simp; try go_bits); (refine hK _ ?_; clear hK K))); refine wpMix_e rfl (fun osm12_0 dm12_0 K hK => ?_); (go_simp; try go_bits); (go_at_call 79; (with_reducible refine (HF.out _ (H2.out.1.on (by (exact jkc)))).mono ?_); rintro e w1 ⟨rfl, ⟨osf, df, rfl⟩⟩); refine hK _ _ (Junk.pair (by (first | exact jkc | repeat (first | with_reducible exact Junk.refl _ | with_reducible exact Junk.app _ _ _ _ _ | with_reducible apply Junk.alloc | with_reducible apply Junk.junk | with_reducible apply Junk.drew | with_reducible apply Junk.drewN | (with_reducible refine Junk.setCell ?_ (by simp) _))))) ?_; clear hK K; (iterate 7 (refine wpMix_q rfl (fun K hK => ?_); (go_simp; try go_bits); (refine hK _ ?_; clear hK K))); refine wpMix_nil (fun osm dm => ?_)
  go_wp2_with (first | (go_at_call 81; (with_reducible refine (HK.out _ (H2.out.1.on (by (exact jkc)))).mono ?_); rintro e w3 ⟨on, nn, cn, rfl, hr⟩; have HRR := Lib.hid hr; clear hr))
  go_returns
  exact ⟨on, nn, cn, rfl, HR.out _ _ _ _ _ HRR.out (by (exact jkc))⟩
end Go.Proofs.YtfhkhnoiolkkdaaGreatDoor
set_option linter.unusedVariables false
set_option maxRecDepth 100000
set_option linter.unusedSimpArgs false
namespace Go.Proofs.YtfhkhnoiolkkdaaGreatDoor
open Go.RowKit
structure TkE (w V : World) (now : Int) (cs : List Value) : Prop where
  b0 : Box V w.heap.size 94 [.int .i64 65536, .int .i64 30, .int .i64 now, .slice none 0 0]
  b1 : Box V (w.heap.size + 1) 36 cs
  b2 : Bxn V (w.heap.size + 2) 94 4
  b3 : Bxn V (w.heap.size + 3) 36 11
  j : Junk w V
section
variable {w V V' : World} {now : Int} {cs : List Value}
theorem TkE.on (h : TkE w V now cs) (j : Junk V V') : TkE w V' now cs := ⟨h.b0.on j, h.b1.on j, h.b2.on j, h.b3.on j, h.j.trans j⟩
theorem Bxn.grown {g : Nat} {e : TypeId} {n : Nat} {row : Option Nat} (h : Bxn V g e n) (hg : V.grownBy V' row) (hne : some g ≠ row) : Bxn V' g e n := by
  obtain ⟨c, h1, h2⟩ := h
  exact ⟨c, h1.grown hg hne, h2⟩
theorem TkE.set2 (h : TkE w V now cs) (hg : V.grownBy V' (some (w.heap.size + 2))) {l : List Value} (hb : Box V' (w.heap.size + 2) 94 l) (hl : l.length = 4) : TkE w V' now cs :=
  ⟨h.b0.grown hg (by simp), h.b1.grown hg (by simp), ⟨l, hb, hl⟩, h.b3.grown hg (by simp), below_of_grown h.j hg (fun k hk => by cases hk; omega)⟩
theorem TkE.set3 (h : TkE w V now cs) (hg : V.grownBy V' (some (w.heap.size + 3))) {l : List Value} (hb : Box V' (w.heap.size + 3) 36 l) (hl : l.length = 11) : TkE w V' now cs :=
  ⟨h.b0.grown hg (by simp), h.b1.grown hg (by simp), h.b2.grown hg (by simp), ⟨l, hb, hl⟩, below_of_grown h.j hg (fun k hk => by cases hk; omega)⟩
end
theorem Box.bts {V : World} {g : Nat} {e : TypeId} {cs : List Value} {oa : Option Addr} {l c : Nat} {xs : Nat → Int} (h : Bts V oa l c xs) {V' : World} (t : Tch (fun k => k = g) V V') (hn : ∀ a, oa = some a → a.block ≠ g) : Bts V' oa l c xs :=
  ⟨fun i hi => by
    obtain ⟨b, off, he, hb, hc⟩ := h.at_ i hi
    have hne : b ≠ g := hn _ he
    exact ⟨b, off, he, Nat.lt_of_lt_of_le hb t.size, t.cell hc hne⟩, h.byte, h.nil, h.le, h.cap⟩
theorem TkE.two {w V : World} {now : Int} {p : Ip} {oo ob o1 o2 : Option Addr} {oc bc c1 c2 : Nat} {X : Array Obj} {d : Nat} (h : TkE w V now [.int .i64 p.tos, .int .i64 p.id, .bool p.df, .bool p.mf, .int .i64 p.off, .int .i64 p.ttl, .int .i64 p.proto, .int .u32 p.src, .int .u32 p.dst, .slice oo p.ol oc, .slice ob p.bl bc]) (h1 : Bts (V.junk X d) o1 p.ol c1 p.opts) (h2 : Bts (V.junk X d) o2 p.bl c2 p.body) (f1 : Fresh V.heap.size o1) (f2 : Fresh V.heap.size o2) :
    TkE w (((V.setCell ⟨w.heap.size + 1, 9, none⟩ (.slice o1 p.ol c1)).setCell ⟨w.heap.size + 1, 10, none⟩ (.slice o2 p.bl c2)).junk X d) now [.int .i64 p.tos, .int .i64 p.id, .bool p.df, .bool p.mf, .int .i64 p.off, .int .i64 p.ttl, .int .i64 p.proto, .int .u32 p.src, .int .u32 p.dst, .slice o1 p.ol c1, .slice o2 p.bl c2] ∧ Bts (((V.setCell ⟨w.heap.size + 1, 9, none⟩ (.slice o1 p.ol c1)).setCell ⟨w.heap.size + 1, 10, none⟩ (.slice o2 p.bl c2)).junk X d) o1 p.ol c1 p.opts ∧ Bts (((V.setCell ⟨w.heap.size + 1, 9, none⟩ (.slice o1 p.ol c1)).setCell ⟨w.heap.size + 1, 10, none⟩ (.slice o2 p.bl c2)).junk X d) o2 p.bl c2 p.body := by
  have s1 := h.b1.lt
  rw [← World.setCell_junk _ _ _ _ _ _ (by simpa [World.setCell] using s1), ← World.setCell_junk _ _ _ _ _ _ s1]
  have hj := h.on (show Junk V (V.junk X d) from ⟨_, _, rfl⟩)
  have T : Tch (fun k => k = w.heap.size + 1) (V.junk X d) (((V.junk X d).setCell ⟨w.heap.size + 1, 9, none⟩ (.slice o1 p.ol c1)).setCell ⟨w.heap.size + 1, 10, none⟩ (.slice o2 p.bl c2)) := ((Tch.refl (L := fun k => k = w.heap.size + 1) _).set _ (fun _ => rfl)).set _ (fun _ => rfl)
  have hg : (V.junk X d).grownBy (((V.junk X d).setCell ⟨w.heap.size + 1, 9, none⟩ (.slice o1 p.ol c1)).setCell ⟨w.heap.size + 1, 10, none⟩ (.slice o2 p.bl c2)) (some (w.heap.size + 1)) := ⟨T.os, T.tape, T.output, T.size, fun k hk hne => T.block k hk (fun e => hne (by rw [e]))⟩
  refine ⟨⟨hj.b0.grown hg (by simp), (hj.b1.set 9 _).set 10 _, hj.b2.grown hg (by simp), hj.b3.grown hg (by simp), below_of_grown hj.j hg (fun k hk => by cases hk; omega)⟩, Box.bts (e := 36) (cs := []) h1 T (fun a ha => ?_), Box.bts (e := 36) (cs := []) h2 T (fun a ha => ?_)⟩
  · have := f1 a ha; omega
  · have := f2 a ha; omega
set_option maxHeartbeats 8000000 in
theorem pl_take (now : Int) (p : Ip) (oo ob : Option Addr) (oc bc : Nat) (w : World) (hX : IpAt w p oo oc ob bc) (hpo : p.ol ≤ 1000) (hpb : p.bl ≤ 1000000) (hm : p.mf = false) (hf : p.off = 0) :
    Calls Tryz.prog 30 #[.agg #[.int .i64 65536, .int .i64 30, .int .i64 now, .slice none 0 0], .agg #[.int .i64 p.tos, .int .i64 p.id, .bool p.df, .bool p.mf, .int .i64 p.off, .int .i64 p.ttl, .int .i64 p.proto, .int .u32 p.src, .int .u32 p.dst, .slice oo p.ol oc, .slice ob p.bl bc]] w fun e w' => ∃ o1 c1 o2 c2, e = .returned (.tuple #[.agg #[.int .i64 65536, .int .i64 30, .int .i64 now, .slice none 0 0], .agg #[.int .i64 p.tos, .int .i64 p.id, .bool p.df, .bool p.mf, .int .i64 p.off, .int .i64 p.ttl, .int .i64 p.proto, .int .u32 p.src, .int .u32 p.dst, .slice o1 p.ol c1, .slice o2 p.bl c2], .bool true, .int .i64 0]) ∧ Junk w w' ∧ IpAt w' p o1 c1 o2 c2 ∧ Fresh w.heap.size o1 ∧ Fresh w.heap.size o2 := by
  have HPI := Lib.hid (fun w1 => show Calls Tryz.prog 67 #[.agg #[.int .i64 p.tos, .int .i64 p.id, .bool p.df, .bool p.mf, .int .i64 p.off, .int .i64 p.ttl, .int .i64 p.proto, .int .u32 p.src, .int .u32 p.dst, .slice oo p.ol oc, .slice ob p.bl bc]] w1 fun e w' => e = .returned (.bool false) ∧ Junk w1 w' by rw [hm, hf]; exact tup_piece_no _ _ _ _ _ _ _ _ _ w1)
  have HC1 := Lib.hid (fun w1 (hj : Junk w w1) => clone_any oo p.ol oc p.opts w1 (by omega) (hX.opts.on hj))
  have HC2 := Lib.hid (fun w1 (hj : Junk w w1) => clone_any ob p.bl bc p.body w1 (by omega) (hX.body.on hj))
  have HX := Lib.hid hX
  clear hX hm hf
  go_enter Tryz.func30, Tryz.ntmps30
  go_upto_region 3 with (first | (go_at_call 66; (with_reducible refine (pl_copied 65536 30 now _).mono ?_); rintro e w' ⟨rfl, ⟨osj, dj, rfl⟩⟩) | (go_at_call 67; (with_reducible refine (HPI.out _).mono ?_); rintro e w' ⟨rfl, ⟨osj, dj, rfl⟩⟩))
  refine wp_keep (fun V => TkE w V now [.int .i64 p.tos, .int .i64 p.id, .bool p.df, .bool p.mf, .int .i64 p.off, .int .i64 p.ttl, .int .i64 p.proto, .int .u32 p.src, .int .u32 p.dst, .slice oo p.ol oc, .slice ob p.bl bc]) ⟨(box_at' (V := w) (cs := #[.int .i64 65536, .int .i64 30, .int .i64 now, .slice none 0 0]) rfl rfl).on (by (exact jkc)), (box_at' (V := w.alloc (.cells #[.int .i64 65536, .int .i64 30, .int .i64 now, .slice none 0 0] 94)) (cs := #[.int .i64 p.tos, .int .i64 p.id, .bool p.df, .bool p.mf, .int .i64 p.off, .int .i64 p.ttl, .int .i64 p.proto, .int .u32 p.src, .int .u32 p.dst, .slice oo p.ol oc, .slice ob p.bl bc]) (by simp) rfl).on (by (exact jkc)), ⟨_, (box_at' (V := (w.alloc (.cells #[.int .i64 65536, .int .i64 30, .int .i64 now, .slice none 0 0] 94)).alloc (.cells #[.int .i64 p.tos, .int .i64 p.id, .bool p.df, .bool p.mf, .int .i64 p.off, .int .i64 p.ttl, .int .i64 p.proto, .int .u32 p.src, .int .u32 p.dst, .slice oo p.ol oc, .slice ob p.bl bc] 36)) (cs := #[.int .i64 0, .int .i64 0, .int .i64 0, .slice none 0 0]) (by simp) rfl).on (by (exact jkc)), rfl⟩, ⟨_, (box_at' (V := ((w.alloc (.cells #[.int .i64 65536, .int .i64 30, .int .i64 now, .slice none 0 0] 94)).alloc (.cells #[.int .i64 p.tos, .int .i64 p.id, .bool p.df, .bool p.mf, .int .i64 p.off, .int .i64 p.ttl, .int .i64 p.proto, .int .u32 p.src, .int .u32 p.dst, .slice oo p.ol oc, .slice ob p.bl bc] 36)).alloc (.cells #[.int .i64 0, .int .i64 0, .int .i64 0, .slice none 0 0] 94)) (cs := #[.int .i64 0, .int .i64 0, .bool false, .bool false, .int .i64 0, .int .i64 0, .int .i64 0, .int .u32 0, .int .u32 0, .slice none 0 0, .slice none 0 0]) (by simp) rfl).on (by (exact jkc)), rfl⟩, by (exact jkc)⟩ ?_
  intro V1 hV
  have H1 := Lib.hid hV
  have y9 := hV.b1.cell (j := 9) rfl
  have y10 := hV.b1.cell (j := 10) rfl
  have yf9 := hV.b1.frozen 9
  have yf10 := hV.b1.frozen 10
  have s1 := hV.b1.lt
  clear hV HPI
  refine wp_region_mixm (V1) [7, 8, 9] [(0, true), (1, true), (3, true), (4, true), (2, false), (6, true), (5, false), (7, false), (8, false), (9, false)] (by kernel_rfl) (by kernel_rfl) (by (first | exact jkc | repeat (first | with_reducible exact Junk.refl _ | with_reducible exact Junk.app _ _ _ _ _ | with_reducible apply Junk.alloc | with_reducible apply Junk.junk | with_reducible apply Junk.drew | with_reducible apply Junk.drewN | (with_reducible refine Junk.setCell ?_ (by simp) _)))) ?_; (iterate 4 (refine wpMixM_q rfl (fun K hK => ?_); (go_simp; try go_bits); (refine hK _ ?_; clear hK K))); refine wpMixM_e rfl (fun osm3_0 dm3_0 K hK => ?_); (go_simp; try go_bits); (go_at_call 44; (with_reducible refine (HC1.out _ (H1.out.j.trans (by (exact jkc)))).mono ?_); rintro e w' ⟨o1, c1, rfl, ⟨osc, dc, rfl⟩, hcb, hcn, hcf⟩; have HK1 := Lib.hid (And.intro hcb hcf); clear hcb hcn hcf); refine hK _ _ (Junk.pair (by (first | exact jkc | repeat (first | with_reducible exact Junk.refl _ | with_reducible exact Junk.app _ _ _ _ _ | with_reducible apply Junk.alloc | with_reducible apply Junk.junk | with_reducible apply Junk.drew | with_reducible apply Junk.drewN | (with_reducible refine Junk.setCell ?_ (by simp) _))))) ?_; clear hK K; (iterate 1 (refine wpMixM_q rfl (fun K hK => ?_); (go_simp; try go_bits); (refine hK _ ?_; clear hK K))); refine wpMixM_e rfl (fun osm3_1 dm3_1 K hK => ?_); (go_simp; try go_bits); (go_at_call 44; (with_reducible refine (HC2.out _ (H1.out.j.trans (by (exact jkc)))).mono ?_); rintro e w' ⟨o2, c2, rfl, ⟨osd, dd, rfl⟩, hcb, hcn, hcf⟩; have HK2 := Lib.hid (And.intro hcb hcf); clear hcb hcn hcf); refine hK _ _ (Junk.pair (by (first | exact jkc | repeat (first | with_reducible exact Junk.refl _ | with_reducible exact Junk.app _ _ _ _ _ | with_reducible apply Junk.alloc | with_reducible apply Junk.junk | with_reducible apply Junk.drew | with_reducible apply Junk.drewN | (with_reducible refine Junk.setCell ?_ (by simp) _))))) ?_; clear hK K; refine wpMixM_late (by decide) rfl (fun osm3_2 dm3_2 K hK => ?_); (go_simp; try go_bits); refine hK _ _ ?_; clear hK K; refine wpMixM_late (by decide) rfl (fun osm3_3 dm3_3 K hK => ?_); (go_simp; try go_bits); refine hK _ _ ?_; clear hK K; refine wpMixM_late (by decide) rfl (fun osm3_4 dm3_4 K hK => ?_); (go_simp; try go_bits); refine hK _ _ ?_; clear hK K; refine wpMixM_nil (fun osm dm => ?_)
  go_upto_region 4 with (fail)
  have h3 := H1.out.two (X := (osm3_0 ++ (osc ++ (osm3_1 ++ (osd ++ (osm3_2 ++ (osm3_3 ++ osm3_4))))))) (d := dm3_4) (HK1.out.1.on (show Junk _ (V1.junk (osm3_0 ++ (osc ++ (osm3_1 ++ (osd ++ (osm3_2 ++ (osm3_3 ++ osm3_4)))))) dm3_4) by (exact jkc))) (HK2.out.1.on (show Junk _ (V1.junk (osm3_0 ++ (osc ++ (osm3_1 ++ (osd ++ (osm3_2 ++ (osm3_3 ++ osm3_4)))))) dm3_4) by (exact jkc))) (HK1.out.2.lower (by simp)) (HK2.out.2.lower (by simp))
  have H3 := Lib.hid h3
  have F12 := Lib.hid (And.intro HK1.out.2 HK2.out.2)
  refine wp_keep (fun V => TkE w V now [.int .i64 p.tos, .int .i64 p.id, .bool p.df, .bool p.mf, .int .i64 p.off, .int .i64 p.ttl, .int .i64 p.proto, .int .u32 p.src, .int .u32 p.dst, .slice o1 p.ol c1, .slice o2 p.bl c2] ∧ Bts V o1 p.ol c1 p.opts ∧ Bts V o2 p.bl c2 p.body ∧ Fresh (w.heap.size + 4) o1 ∧ Fresh (w.heap.size + 4) o2) ⟨H3.out.1.on ⟨_, _, rfl⟩, H3.out.2.1.on ⟨_, _, rfl⟩, H3.out.2.2.on ⟨_, _, rfl⟩, ?_, ?_⟩ ?_
  · have := H1.out.b3; obtain ⟨_, hb, _⟩ := this; have := hb.lt; exact HK1.out.2.lower (by simp; omega)
  · have := H1.out.b3; obtain ⟨_, hb, _⟩ := this; have := hb.lt; exact HK2.out.2.lower (by simp; omega)
  intro V ⟨hV, hb1, hb2, hf1, hf2⟩
  have HG := Lib.hid (And.intro hV (And.intro hb1 (And.intro hb2 (And.intro hf1 hf2))))
  clear hb1 hb2 hf1 hf2 h3 H3 HK1 HK2 F12 H1 HC1 HC2 y9 y10 yf9 yf10 s1
  haveI hne : Nonempty (PW (fun V => TkE w V now [.int .i64 p.tos, .int .i64 p.id, .bool p.df, .bool p.mf, .int .i64 p.off, .int .i64 p.ttl, .int .i64 p.proto, .int .u32 p.src, .int .u32 p.dst, .slice o1 p.ol c1, .slice o2 p.bl c2])) := ⟨⟨V, hV⟩⟩
  have kp0 : ∀ x : PW (fun V => TkE w V now [.int .i64 p.tos, .int .i64 p.id, .bool p.df, .bool p.mf, .int .i64 p.off, .int .i64 p.ttl, .int .i64 p.proto, .int .u32 p.src, .int .u32 p.dst, .slice o1 p.ol c1, .slice o2 p.bl c2]), x.V.cell? ⟨w.heap.size, 0, none⟩ = some (.int .i64 65536) := fun x => x.h.b0.cell rfl
  have kp1 : ∀ x : PW (fun V => TkE w V now [.int .i64 p.tos, .int .i64 p.id, .bool p.df, .bool p.mf, .int .i64 p.off, .int .i64 p.ttl, .int .i64 p.proto, .int .u32 p.src, .int .u32 p.dst, .slice o1 p.ol c1, .slice o2 p.bl c2]), x.V.cell? ⟨w.heap.size, 1, none⟩ = some (.int .i64 30) := fun x => x.h.b0.cell rfl
  have kp2 : ∀ x : PW (fun V => TkE w V now [.int .i64 p.tos, .int .i64 p.id, .bool p.df, .bool p.mf, .int .i64 p.off, .int .i64 p.ttl, .int .i64 p.proto, .int .u32 p.src, .int .u32 p.dst, .slice o1 p.ol c1, .slice o2 p.bl c2]), x.V.cell? ⟨w.heap.size, 2, none⟩ = some (.int .i64 now) := fun x => x.h.b0.cell rfl
  have kp3 : ∀ x : PW (fun V => TkE w V now [.int .i64 p.tos, .int .i64 p.id, .bool p.df, .bool p.mf, .int .i64 p.off, .int .i64 p.ttl, .int .i64 p.proto, .int .u32 p.src, .int .u32 p.dst, .slice o1 p.ol c1, .slice o2 p.bl c2]), x.V.cell? ⟨w.heap.size, 3, none⟩ = some (.slice none 0 0) := fun x => x.h.b0.cell rfl
  have ki0 : ∀ x : PW (fun V => TkE w V now [.int .i64 p.tos, .int .i64 p.id, .bool p.df, .bool p.mf, .int .i64 p.off, .int .i64 p.ttl, .int .i64 p.proto, .int .u32 p.src, .int .u32 p.dst, .slice o1 p.ol c1, .slice o2 p.bl c2]), x.V.cell? ⟨w.heap.size + 1, 0, none⟩ = some (.int .i64 p.tos) := fun x => x.h.b1.cell rfl
  have ki1 : ∀ x : PW (fun V => TkE w V now [.int .i64 p.tos, .int .i64 p.id, .bool p.df, .bool p.mf, .int .i64 p.off, .int .i64 p.ttl, .int .i64 p.proto, .int .u32 p.src, .int .u32 p.dst, .slice o1 p.ol c1, .slice o2 p.bl c2]), x.V.cell? ⟨w.heap.size + 1, 1, none⟩ = some (.int .i64 p.id) := fun x => x.h.b1.cell rfl
  have ki2 : ∀ x : PW (fun V => TkE w V now [.int .i64 p.tos, .int .i64 p.id, .bool p.df, .bool p.mf, .int .i64 p.off, .int .i64 p.ttl, .int .i64 p.proto, .int .u32 p.src, .int .u32 p.dst, .slice o1 p.ol c1, .slice o2 p.bl c2]), x.V.cell? ⟨w.heap.size + 1, 2, none⟩ = some (.bool p.df) := fun x => x.h.b1.cell rfl
  have ki3 : ∀ x : PW (fun V => TkE w V now [.int .i64 p.tos, .int .i64 p.id, .bool p.df, .bool p.mf, .int .i64 p.off, .int .i64 p.ttl, .int .i64 p.proto, .int .u32 p.src, .int .u32 p.dst, .slice o1 p.ol c1, .slice o2 p.bl c2]), x.V.cell? ⟨w.heap.size + 1, 3, none⟩ = some (.bool p.mf) := fun x => x.h.b1.cell rfl
  have ki4 : ∀ x : PW (fun V => TkE w V now [.int .i64 p.tos, .int .i64 p.id, .bool p.df, .bool p.mf, .int .i64 p.off, .int .i64 p.ttl, .int .i64 p.proto, .int .u32 p.src, .int .u32 p.dst, .slice o1 p.ol c1, .slice o2 p.bl c2]), x.V.cell? ⟨w.heap.size + 1, 4, none⟩ = some (.int .i64 p.off) := fun x => x.h.b1.cell rfl
  have ki5 : ∀ x : PW (fun V => TkE w V now [.int .i64 p.tos, .int .i64 p.id, .bool p.df, .bool p.mf, .int .i64 p.off, .int .i64 p.ttl, .int .i64 p.proto, .int .u32 p.src, .int .u32 p.dst, .slice o1 p.ol c1, .slice o2 p.bl c2]), x.V.cell? ⟨w.heap.size + 1, 5, none⟩ = some (.int .i64 p.ttl) := fun x => x.h.b1.cell rfl
  have ki6 : ∀ x : PW (fun V => TkE w V now [.int .i64 p.tos, .int .i64 p.id, .bool p.df, .bool p.mf, .int .i64 p.off, .int .i64 p.ttl, .int .i64 p.proto, .int .u32 p.src, .int .u32 p.dst, .slice o1 p.ol c1, .slice o2 p.bl c2]), x.V.cell? ⟨w.heap.size + 1, 6, none⟩ = some (.int .i64 p.proto) := fun x => x.h.b1.cell rfl
  have ki7 : ∀ x : PW (fun V => TkE w V now [.int .i64 p.tos, .int .i64 p.id, .bool p.df, .bool p.mf, .int .i64 p.off, .int .i64 p.ttl, .int .i64 p.proto, .int .u32 p.src, .int .u32 p.dst, .slice o1 p.ol c1, .slice o2 p.bl c2]), x.V.cell? ⟨w.heap.size + 1, 7, none⟩ = some (.int .u32 p.src) := fun x => x.h.b1.cell rfl
  have ki8 : ∀ x : PW (fun V => TkE w V now [.int .i64 p.tos, .int .i64 p.id, .bool p.df, .bool p.mf, .int .i64 p.off, .int .i64 p.ttl, .int .i64 p.proto, .int .u32 p.src, .int .u32 p.dst, .slice o1 p.ol c1, .slice o2 p.bl c2]), x.V.cell? ⟨w.heap.size + 1, 8, none⟩ = some (.int .u32 p.dst) := fun x => x.h.b1.cell rfl
  have ki9 : ∀ x : PW (fun V => TkE w V now [.int .i64 p.tos, .int .i64 p.id, .bool p.df, .bool p.mf, .int .i64 p.off, .int .i64 p.ttl, .int .i64 p.proto, .int .u32 p.src, .int .u32 p.dst, .slice o1 p.ol c1, .slice o2 p.bl c2]), x.V.cell? ⟨w.heap.size + 1, 9, none⟩ = some (.slice o1 p.ol c1) := fun x => x.h.b1.cell rfl
  have ki10 : ∀ x : PW (fun V => TkE w V now [.int .i64 p.tos, .int .i64 p.id, .bool p.df, .bool p.mf, .int .i64 p.off, .int .i64 p.ttl, .int .i64 p.proto, .int .u32 p.src, .int .u32 p.dst, .slice o1 p.ol c1, .slice o2 p.bl c2]), x.V.cell? ⟨w.heap.size + 1, 10, none⟩ = some (.slice o2 p.bl c2) := fun x => x.h.b1.cell rfl
  have ks0 : ∀ x : PW (fun V => TkE w V now [.int .i64 p.tos, .int .i64 p.id, .bool p.df, .bool p.mf, .int .i64 p.off, .int .i64 p.ttl, .int .i64 p.proto, .int .u32 p.src, .int .u32 p.dst, .slice o1 p.ol c1, .slice o2 p.bl c2]), w.heap.size < x.V.heap.size := fun x => x.h.b0.lt
  have ks1 : ∀ x : PW (fun V => TkE w V now [.int .i64 p.tos, .int .i64 p.id, .bool p.df, .bool p.mf, .int .i64 p.off, .int .i64 p.ttl, .int .i64 p.proto, .int .u32 p.src, .int .u32 p.dst, .slice o1 p.ol c1, .slice o2 p.bl c2]), w.heap.size + 1 < x.V.heap.size := fun x => x.h.b1.lt
  clear hV
  refine wp_region_mixp (fun V => TkE w V now [.int .i64 p.tos, .int .i64 p.id, .bool p.df, .bool p.mf, .int .i64 p.off, .int .i64 p.ttl, .int .i64 p.proto, .int .u32 p.src, .int .u32 p.dst, .slice o1 p.ol c1, .slice o2 p.bl c2]) (fun _ _ h hj => h.on hj) [(0, true), (1, true), (2, false), (3, false), (4, true), (5, true)] (by kernel_rfl) (by kernel_rfl) (HG.out.1) ?_; (iterate 2 (refine wpMix_q rfl (fun K hK => ?_); (go_simp; try go_bits); (refine hK _ ?_; clear hK K))); refine wpMix_e1 rfl rfl (fun osm4_0 dm4_0 K hK => ?_); (obtain ⟨cz, hz1, hz2⟩ := (HG.out.1.on (show Junk V (V.drew.junk osm4_0 dm4_0) by (exact jkc))).b2; refine storeBox_wp 94 _ _ rfl hz1 0 #[.int .i64 65536, .int .i64 30, .int .i64 now, .slice none 0 0] (show (Tryz.prog.info? 94).map (·.size) = some 4 from by kernel_rfl) rfl rfl (by rw [hz2]; exact Nat.le_refl 4) (by simp [Value.oneCell']) ?_; intro w9 hg9 hb9; have hb99 := all_boxL hb9 hz2; have HG9 := Lib.hid (And.intro ((HG.out.1.on (show Junk V (V.drew.junk osm4_0 dm4_0) by (exact jkc))).set2 hg9 hb99 rfl) (And.intro hb99 (show Tch (fun k => k = w.heap.size + 2) V w9 from (Tch.of_junk (show Junk V (V.drew.junk osm4_0 dm4_0) by (exact jkc))).grown hg9 (fun _ => rfl)))); clear hz1 hz2 hg9 hb9 hb99); refine hK _ _ (⟨⟨_, by first | exact HG9.out.1 | exact HG10.out.1⟩, rfl⟩) ?_; clear hK K; refine wpMix_e1 rfl rfl (fun osm4_1 dm4_1 K hK => ?_); (obtain ⟨cz, hz1, hz2⟩ := (HG9.out.1.on (show Junk w9 (w9.junk osm4_1 dm4_1) by (exact jkc))).b3; refine storeBox_wp 36 _ _ rfl hz1 0 #[.int .i64 p.tos, .int .i64 p.id, .bool p.df, .bool p.mf, .int .i64 p.off, .int .i64 p.ttl, .int .i64 p.proto, .int .u32 p.src, .int .u32 p.dst, .slice o1 p.ol c1, .slice o2 p.bl c2] (show (Tryz.prog.info? 36).map (·.size) = some 11 from by kernel_rfl) rfl rfl (by rw [hz2]; exact Nat.le_refl 11) (by simp [Value.oneCell']) ?_; intro w10 hg10 hb10; have hb99 := all_boxL hb10 hz2; have HG10 := Lib.hid (And.intro ((HG9.out.1.on (show Junk w9 (w9.junk osm4_1 dm4_1) by (exact jkc))).set3 hg10 hb99 rfl) (And.intro hb99 (And.intro ((HG9.out.2.1.on (show Junk w9 (w9.junk osm4_1 dm4_1) by (exact jkc))).grown hg10 (by simp)) (show Tch (fun k => k = w.heap.size + 3) w9 w10 from (Tch.of_junk (show Junk w9 (w9.junk osm4_1 dm4_1) by (exact jkc))).grown hg10 (fun _ => rfl))))); clear hz1 hz2 hg10 hb10 hb99); refine hK _ _ (⟨⟨_, by first | exact HG9.out.1 | exact HG10.out.1⟩, rfl⟩) ?_; clear hK K; (iterate 2 (refine wpMix_q rfl (fun K hK => ?_); (go_simp; try go_bits); (refine hK _ ?_; clear hK K))); refine wpMix_nil (fun osm dm => ?_)
  go_wp2
  refine bodyPost_ret (results_cell2tt Tryz.results30 rfl rfl ((HG10.out.2.2.1.on (by (exact jkc))).loadVar 94 Tryz.isAgg94 Tryz.sizeOf94) ((HG10.out.2.1.on (by (exact jkc))).loadVar 36 Tryz.isAgg36 Tryz.sizeOf36)) rfl ?_
  refine ⟨o1, c1, o2, c2, rfl, (HG10.out.1.on (by (exact jkc))).j, ⟨?_, ?_, HX.out.src, HX.out.dst⟩, HG.out.2.2.2.1.lower (by omega), HG.out.2.2.2.2.lower (by omega)⟩
  · exact (Box.bts (e := 36) (cs := []) (Box.bts (e := 36) (cs := []) HG.out.2.1 HG9.out.2.2 (fun a ha => by have := HG.out.2.2.2.1 a ha; omega)) HG10.out.2.2.2 (fun a ha => by have := HG.out.2.2.2.1 a ha; omega)).on (by (exact jkc))
  · exact (Box.bts (e := 36) (cs := []) (Box.bts (e := 36) (cs := []) HG.out.2.2.1 HG9.out.2.2 (fun a ha => by have := HG.out.2.2.2.2 a ha; omega)) HG10.out.2.2.2 (fun a ha => by have := HG.out.2.2.2.2 a ha; omega)).on (by (exact jkc))
end Go.Proofs.YtfhkhnoiolkkdaaGreatDoor
set_option linter.unusedVariables false
set_option maxRecDepth 100000
set_option linter.unusedSimpArgs false
namespace Go.Proofs.YtfhkhnoiolkkdaaGreatDoor
open Go.RowKit
theorem boxg_cell {V : World} {r j : Nat} {e : TypeId} {cs : List Value} {v : Value} (h : Box V r e cs) (hv : V.cell? ⟨r, j, none⟩ = some v) : cs[j]? = some v := by
  rw [cell_of_row V r j cs.toArray e (0, 0) h] at hv
  simpa using hv
def noByte : Value → Bool
  | .int .u8 _ => false
  | _ => true
theorem bts_tch {V V' : World} {g : Nat} {e : TypeId} {cs : List Value} {oa : Option Addr} {l c : Nat} {xs : Nat → Int} (h : Bts V oa l c xs) (t : Tch (fun k => k = g) V V') (hb : Box V g e cs) (hn : cs.all noByte = true) : Bts V' oa l c xs := by
  refine ⟨fun i hi => ?_, h.byte, h.nil, h.le, h.cap⟩
  obtain ⟨b, off, he, hlt, hc⟩ := h.at_ i hi
  refine ⟨b, off, he, Nat.lt_of_lt_of_le hlt t.size, t.cell (a := ⟨b, off + i, none⟩) hc (fun e => ?_)⟩
  have e : b = g := e
  subst e
  have h2 := List.all_eq_true.1 hn _ (List.mem_of_getElem? (boxg_cell hb hc))
  cases h2
theorem ip_tch {V V' : World} {g : Nat} {e : TypeId} {cs : List Value} {p : Ip} {oo ob : Option Addr} {oc bc : Nat} (h : IpAt V p oo oc ob bc) (t : Tch (fun k => k = g) V V') (hb : Box V g e cs) (hn : cs.all noByte = true) : IpAt V' p oo oc ob bc :=
  ⟨bts_tch h.opts t hb hn, bts_tch h.body t hb hn, h.src, h.dst⟩
set_option maxHeartbeats 8000000 in
theorem frame_any (R : Option Addr → Nat → Nat → World → Prop) (hR : ∀ o n c w w', R o n c w → Junk w w' → R o n c w') (vd : Int) (g : Gp) (now z dr src dst s d : Int) (oa : Option Addr) (l c bl : Nat) (body : Nat → Int) (o : Option Addr) (cb : Nat) (w : World)
    (h : GS w g now oa l c) (hB : Bts w o (20 + bl) cb (pktB (Pk 64 src dst bl body))) (hU : UdP (Pk 64 src dst bl body) s d) (hb : bl ≤ 1000)
    (hP : ∀ X v oo ob oc bc, Tch (fun k => k = g.G) w X → GS X g now oa l c → Box X v 107 (visL g.G z dr src dst oo ob oc bl bc ⟨0, 0, 0, 0, 0⟩) → IpAt X (Pk 64 src dst bl body) oo oc ob bc → Fresh w.heap.size oo → Fresh w.heap.size ob → w.heap.size ≤ v →
      Calls Tryz.prog 31 #[.pointer (some ⟨v, 0, none⟩)] X fun e w' => ∃ o n c, e = .returned (.tuple #[.slice o n c, .int .i64 vd]) ∧ R o n c w') :
    Calls Tryz.prog 9 #[.pointer (some ⟨g.G, 0, none⟩), .int .i64 z, .slice o ((20 + bl : Nat)) cb, .int .u32 dr] w fun e w' => ∃ o n c, e = .returned (.tuple #[.slice o n c, .int .i64 vd]) ∧ R o n c w' := by
  have HH := Lib.hid h
  have HR := Lib.hid hR
  have HP := Lib.hid hP
  have HPA := Lib.hid (fun w1 (hj : Junk w w1) => pk_parse 64 src dst bl body o cb w1 (by decide) hb hU.w.src hU.w.dst hU.w.body (hB.on hj))
  have g2 := h.b.cell (j := 2) rfl
  have gs := h.b.lt
  clear h hB hU hP hR
  go_enter Tryz.func9, Tryz.ntmps9
  go_upto_region 6 with (first
    | (go_at_call 29; (with_reducible refine (HPA.out _ (by (exact jkc))).mono ?_); rintro e w1 ⟨oo, ob, oc, bc, rfl, ⟨os1, d1, rfl⟩, hI⟩; have HI := Lib.hid hI; clear hI))
  obtain ⟨pb, hpb⟩ : ∃ pb, w.heap.size + os1.size = pb := ⟨_, rfl⟩
  rw [hpb]
  refine wp_keep (fun X => Junk w X ∧ Box X pb 36 [.int .i64 0, .int .i64 0, .bool false, .bool false, .int .i64 0, .int .i64 64, .int .i64 17, .int .u32 src, .int .u32 dst, .slice oo 0 oc, .slice ob bl bc] ∧ IpAt X (Pk 64 src dst bl body) oo oc ob bc) ⟨by (exact jkc), box_at' (by rw [← hpb]; simp) rfl, HI.out.on (by (exact jkc))⟩ ?_
  intro X ⟨hj, hB, hI⟩
  have H1 := Lib.hid (And.intro hj hB)
  have HTK := Lib.hid (fun w1 (hj : Junk X w1) => show Calls Tryz.prog 30 #[.agg #[.int .i64 65536, .int .i64 30, .int .i64 now, .slice none 0 0], pkV 64 src dst bl oo ob oc bc] w1 fun e w' => ∃ o1 c1 o2 c2, e = .returned (.tuple #[.agg #[.int .i64 65536, .int .i64 30, .int .i64 now, .slice none 0 0], pkV 64 src dst bl o1 o2 c1 c2, .bool true, .int .i64 0]) ∧ Junk w1 w' ∧ IpAt w' (Pk 64 src dst bl body) o1 c1 o2 c2 ∧ Fresh w1.heap.size o1 ∧ Fresh w1.heap.size o2 from pl_take now (Pk 64 src dst bl body) oo ob oc bc w1 (hI.on hj) (Nat.zero_le _) (by show bl ≤ _; omega) rfl rfl)
  clear g2 gs HPA HI hpb
  have p0 := hB.cell (j := 0) rfl
  have p1 := hB.cell (j := 1) rfl
  have p2 := hB.cell (j := 2) rfl
  have p3 := hB.cell (j := 3) rfl
  have p4 := hB.cell (j := 4) rfl
  have p5 := hB.cell (j := 5) rfl
  have p6 := hB.cell (j := 6) rfl
  have p7 := hB.cell (j := 7) rfl
  have p8 := hB.cell (j := 8) rfl
  have p9 := hB.cell (j := 9) rfl
  have p10 := hB.cell (j := 10) rfl
  have ps := hB.lt
  have hG := HH.out.b.on hj
  have g13 := hG.cell (j := 13) rfl
  have g14 := hG.cell (j := 14) rfl
  have g15 := hG.cell (j := 15) rfl
  have g16 := hG.cell (j := 16) rfl
  have gs := hG.lt
  clear hj hB hI hG
  refine wp_region_mixa (X) [(11, 94, [.int .i64 0, .int .i64 0, .int .i64 0, .slice none 0 0]), (12, 36, [.int .i64 0, .int .i64 0, .bool false, .bool false, .int .i64 0, .int .i64 0, .int .i64 0, .int .u32 0, .int .u32 0, .slice none 0 0, .slice none 0 0])] [13, 14, 15, 16] [8, 9, 10] #[true, true, true, true, true, true, true, true, true, true, true, true, true, false, false, false, false] [(0, true), (1, true), (2, true), (3, true), (4, true), (5, false), (6, true), (7, true), (8, true), (9, true), (10, true)] [(13, false), (14, false), (15, false), (16, false)] (by kernel_rfl) (by kernel_rfl) (by (exact jkc)) (by intro e he a w hj; rcases (show e = 11 ∨ e = 12 by simpa using he) with rfl | rfl <;> exact newVar_wpE rfl rfl rfl rfl (fun w => by first | rfl | kernel_rfl | simp [Instr.alloc]) a w hj) ?_; (iterate 5 (refine wpMixB_q rfl (fun K hK => ?_); (go_simp; try go_bits); (refine hK _ ?_; clear hK K))); refine wpMixB_e rfl (fun osm6_0 dm6_0 K hK => ?_); (go_simp; try go_bits); (go_at_call 30; (with_reducible refine (HTK.out _ (by (exact jkc))).mono ?_); rintro e w5 ⟨o1, c1, o2, c2, rfl, ⟨os5, d5, rfl⟩, hi5, hf1, hf2⟩; have HI5 := Lib.hid (And.intro hi5 (And.intro hf1 hf2)); clear hi5 hf1 hf2); refine hK _ _ (by first | exact jkc | assumption) ?_; clear hK K; (iterate 5 (refine wpMixB_q rfl (fun K hK => ?_); (go_simp; try go_bits); (refine hK _ ?_; clear hK K))); refine wpMixB_nil (fun osm6_1 dm6_1 => ?_); rintro _ ⟨r6_1, rfl, hr6_1, hv6_1⟩; rintro _ ⟨r6_0, rfl, hr6_0, hv6_0⟩; change wpMix _ _ _ _ _ (Act.put (Act.put _ (some 13) _) (some 12) _) _; have HV6_0 := Lib.hid (show (X).heap.size ≤ r6_0 ∧ Box _ r6_0 94 [.int .i64 0, .int .i64 0, .int .i64 0, .slice none 0 0] from And.intro hr6_0 hv6_0); have HV6_1 := Lib.hid (show (X).heap.size ≤ r6_1 ∧ Box _ r6_1 36 [.int .i64 0, .int .i64 0, .bool false, .bool false, .int .i64 0, .int .i64 0, .int .i64 0, .int .u32 0, .int .u32 0, .slice none 0 0, .slice none 0 0] from And.intro hr6_1 hv6_1); clear hr6_0 hv6_0; clear hr6_1 hv6_1; refine wpMix_e1 rfl rfl (fun osm6_2 dm6_2 K hK => ?_); (refine storeBox_wp 94 _ _ rfl (HV6_0.out.2.on (by (exact jkc))) 0 #[.int .i64 65536, .int .i64 30, .int .i64 now, .slice none 0 0] (show (Tryz.prog.info? 94).map (·.size) = some 4 from by kernel_rfl) rfl rfl (by simp) (by simp [Value.oneCell']) ?_; intro w6 hg6 hb6; have HT6 := Lib.hid (show Tch (fun k => k = r6_0) X w6 from (Tch.of_junk (show Junk X _ by (exact jkc))).grown hg6 (fun _ => rfl)); have HS6 := Lib.hid (And.intro (show Box w6 r6_0 94 [.int .i64 65536, .int .i64 30, .int .i64 now, .slice none 0 0] from hb6) (And.intro ((HV6_1.out.2.on (by (exact jkc))).tch (Tch.of_grown (L := fun k => k = r6_0) hg6 rfl) (fun e => (box_ty HV6_1.out.2).ne (box_ty HV6_0.out.2) (by decide) e)) (ip_tch (HI5.out.1.on (by (exact jkc))) (Tch.of_grown (L := fun k => k = r6_0) hg6 rfl) (HV6_0.out.2.on (by (exact jkc))) rfl))); clear hg6 hb6); refine hK _ _ trivial ?_; clear hK K; refine wpMix_e1 rfl rfl (fun osm6_3 dm6_3 K hK => ?_); (refine storeBox_wp 36 _ _ rfl (HS6.out.2.1.on (by (exact jkc))) 0 #[.int .i64 0, .int .i64 0, .bool false, .bool false, .int .i64 0, .int .i64 64, .int .i64 17, .int .u32 src, .int .u32 dst, .slice o1 0 c1, .slice o2 bl c2] (show (Tryz.prog.info? 36).map (·.size) = some 11 from by kernel_rfl) rfl rfl (by simp) (by simp [Value.oneCell']) ?_; intro w7 hg7 hb7; have HT7 := Lib.hid (show Tch (fun k => k = r6_1) w6 w7 from (Tch.of_junk (show Junk w6 _ by (exact jkc))).grown hg7 (fun _ => rfl)); have HS7 := Lib.hid (And.intro (show Box w7 r6_1 36 [.int .i64 0, .int .i64 0, .bool false, .bool false, .int .i64 0, .int .i64 64, .int .i64 17, .int .u32 src, .int .u32 dst, .slice o1 0 c1, .slice o2 bl c2] from hb7) (And.intro ((HS6.out.1.on (by (exact jkc))).tch (Tch.of_grown (L := fun k => k = r6_1) hg7 rfl) (fun e => (box_ty HS6.out.1).ne (box_ty HS6.out.2.1) (by decide) e)) (ip_tch (HS6.out.2.2.on (by (exact jkc))) (Tch.of_grown (L := fun k => k = r6_1) hg7 rfl) (HS6.out.2.1.on (by (exact jkc))) rfl))); clear hg7 hb7); refine hK _ _ trivial ?_; clear hK K; refine wpMix_e rfl (fun osm6_4 dm6_4 K hK => ?_); (go_simp; try go_bits); refine hK _ _ trivial ?_; clear hK K; refine wpMix_e rfl (fun osm6_5 dm6_5 K hK => ?_); (go_simp; try go_bits); refine hK _ _ trivial ?_; clear hK K; refine wpMix_nil (fun osm dm => ?_)
  go_upto_region 7 with (fail)
  refine wp_keep (fun Y => Junk w Y ∧ Box Y r6_0 94 [.int .i64 65536, .int .i64 30, .int .i64 now, .slice none 0 0] ∧ Box Y r6_1 36 [.int .i64 0, .int .i64 0, .bool false, .bool false, .int .i64 0, .int .i64 64, .int .i64 17, .int .u32 src, .int .u32 dst, .slice o1 0 c1, .slice o2 bl c2] ∧ IpAt Y (Pk 64 src dst bl body) o1 c1 o2 c2) (by
    have hjX := H1.out.1
    have s0 : X.heap.size ≤ r6_0 := HV6_0.out.1
    have s1 : X.heap.size ≤ r6_1 := HV6_1.out.1
    have sX := hjX.size
    have t7 : Tch (fun _ => False) w w7 := ((Tch.of_junk (L := fun _ => False) hjX).then HT6.out (fun i hi e => by have e : i = r6_0 := e; omega)).then HT7.out (fun i hi e => by have e : i = r6_1 := e; omega)
    exact ⟨t7.junk.trans (by (exact jkc)), HS7.out.2.1.on (by (exact jkc)), HS7.out.1.on (by (exact jkc)), HS7.out.2.2.on (by (exact jkc))⟩) ?_
  intro Y ⟨hj, hP0, hI1, hIA⟩
  have HF := Lib.hid (show Fresh w.heap.size o1 ∧ Fresh w.heap.size o2 from ⟨HI5.out.2.1.lower (by have := H1.out.1.size; simp; omega), HI5.out.2.2.lower (by have := H1.out.1.size; simp; omega)⟩)
  have H2 := Lib.hid (And.intro hj (And.intro hP0 (And.intro hI1 hIA)))
  clear H1 HTK HI5 HV6_0 HV6_1 HT6 HS6 HT7 HS7 p0 p1 p2 p3 p4 p5 p6 p7 p8 p9 p10 ps g13 g14 g15 g16 gs
  have p0 := hP0.cell (j := 0) rfl
  have p1 := hP0.cell (j := 1) rfl
  have p2 := hP0.cell (j := 2) rfl
  have p3 := hP0.cell (j := 3) rfl
  have ps := hP0.lt
  have hG := HH.out.b.on hj
  have g13 := hG.cell (j := 13) rfl
  have g14 := hG.cell (j := 14) rfl
  have g15 := hG.cell (j := 15) rfl
  have g16 := hG.cell (j := 16) rfl
  have gf13 := hG.frozen 13
  have gf14 := hG.frozen 14
  have gf15 := hG.frozen 15
  have gf16 := hG.frozen 16
  have gs := hG.lt
  clear hj hP0 hI1 hIA hG
  go_upto_region 12 with (fail)
  refine wp_keep (fun Z => Tch (fun k => k = g.G) w Z ∧ GS Z g now oa l c ∧ Box Z r6_1 36 [.int .i64 0, .int .i64 0, .bool false, .bool false, .int .i64 0, .int .i64 64, .int .i64 17, .int .u32 src, .int .u32 dst, .slice o1 0 c1, .slice o2 bl c2] ∧ IpAt Z (Pk 64 src dst bl body) o1 c1 o2 c2) ?_ ?_
  · have T := ((((Tch.refl (L := fun k => k = g.G) Y).set (a := ⟨g.G, 13, none⟩) (.int .i64 65536) (fun _ => rfl)).set (a := ⟨g.G, 14, none⟩) (.int .i64 30) (fun _ => rfl)).set (a := ⟨g.G, 15, none⟩) (.int .i64 now) (fun _ => rfl)).set (a := ⟨g.G, 16, none⟩) (.slice none 0 0) (fun _ => rfl)
    have hS := HH.out.on H2.out.1
    have b := box_ty hS.b
    exact ⟨(Tch.of_junk H2.out.1).trans T, ⟨(((hS.b.set 13 _).set 14 _).set 15 _).set 16 _, own_keep hS.r T ((own_ty hS.r).ne b (by decide)), own_keep hS.u T ((own_ty hS.u).ne b (by decide)), hS.t.tch T (fun e => b.map0 hS.t e.symm)⟩, H2.out.2.2.1.tch T ((box_ty H2.out.2.2.1).ne b (by decide)), ip_newer H2.out.2.2.2 HF.out.1 HF.out.2 T (fun k hk => by have hk : k = g.G := hk; have := HH.out.b.lt; omega)⟩
  intro Z ⟨hT, hS, hI1, hIA⟩
  have H3 := Lib.hid (And.intro hT (And.intro hS hIA))
  clear H2 p0 p1 p2 p3 ps g13 g14 g15 g16 gf13 gf14 gf15 gf16 gs
  have p0 := hI1.cell (j := 0) rfl
  have p1 := hI1.cell (j := 1) rfl
  have p2 := hI1.cell (j := 2) rfl
  have p3 := hI1.cell (j := 3) rfl
  have p4 := hI1.cell (j := 4) rfl
  have p5 := hI1.cell (j := 5) rfl
  have p6 := hI1.cell (j := 6) rfl
  have p7 := hI1.cell (j := 7) rfl
  have p8 := hI1.cell (j := 8) rfl
  have p9 := hI1.cell (j := 9) rfl
  have p10 := hI1.cell (j := 10) rfl
  have ps := hI1.lt
  clear hT hS hI1 hIA
  go_upto_region 13 with (fail)
  obtain ⟨v, hv⟩ : ∃ v, Z.heap.size = v := ⟨_, rfl⟩
  rw [hv]
  refine wp_keep (fun X => Tch (fun k => k = g.G) w X ∧ GS X g now oa l c ∧ Box X v 107 (visL g.G z dr src dst o1 o2 c1 bl c2 ⟨0, 0, 0, 0, 0⟩) ∧ IpAt X (Pk 64 src dst bl body) o1 c1 o2 c2 ∧ w.heap.size ≤ v) ⟨H3.out.1.on (by (exact jkc)), H3.out.2.1.on (by (exact jkc)), box_at' (by rw [← hv]) rfl, H3.out.2.2.on (by (exact jkc)), by have := H3.out.1.size; omega⟩ ?_
  intro X hX
  have H4 := Lib.hid hX
  clear hX H3 hv p0 p1 p2 p3 p4 p5 p6 p7 p8 p9 p10 ps HH
  go_wp2_with (first | (go_at_call 31; (with_reducible refine (HP.out X v o1 o2 c1 c2 H4.out.1 H4.out.2.1 H4.out.2.2.1 H4.out.2.2.2.1 HF.out.1 HF.out.2 H4.out.2.2.2.2).mono ?_); rintro e w9 ⟨on, nn, cn, rfl, hr⟩; have HRR := Lib.hid hr; clear hr))
  go_returns
  exact ⟨on, nn, cn, rfl, HR.out _ _ _ _ _ HRR.out (by (exact jkc))⟩
end Go.Proofs.YtfhkhnoiolkkdaaGreatDoor
set_option linter.unusedVariables false
set_option maxRecDepth 100000
set_option linter.unusedSimpArgs false
namespace Go.Proofs.YtfhkhnoiolkkdaaGreatDoor
open Go.RowKit
section
variable {B v lb lc l c c2 : Nat} {oa o2 : Option Addr} {w X : World} {g : Gp} {now P : Int} {q : Fp} {f : Fl} {v0 vl : List Value}
theorem GF.vis (h : GF B w g now lb lc q f P) (hB : Box w v 107 v0) (hV : VS w X v vl) : GF B X g now lb lc q f P := by
  have b := box_ty hB
  have T := hV.1
  have hs := h.gs.sep b (by decide) (by decide) (by decide)
  exact ⟨h.gs.tch T (fun e => hs.1 e.symm) (fun e => hs.2.1 e.symm) (fun e => hs.2.2.1 e.symm) (fun e => hs.2.2.2 e.symm), own_keep h.ls T ((own_ty h.ls).ne b (by decide)), h.fs.tch T ((box_ty h.fs.bs).ne b (by decide)) ((box_ty h.fs.bl).ne b (by decide)) ((own_ty h.fs.bt).ne b (by decide)) ((box_ty h.fs.bw.box).ne b (by decide)) (fun e => b.map1 h.fs.bw.mm e.symm) ((own_ty h.fs.bw.ls).ne b (by decide)), h.ok, h.ne, h.lo, h.pt⟩
theorem GE.vis (h : GE B w g now oa c q o2 c2) (hB : Box w v 107 v0) (hV : VS w X v vl) : GE B X g now oa c q o2 c2 := by
  have b := box_ty hB
  have T := hV.1
  have hs := h.gs.sep b (by decide) (by decide) (by decide)
  exact ⟨h.gs.tch T (fun e => hs.1 e.symm) (fun e => hs.2.1 e.symm) (fun e => hs.2.2.1 e.symm) (fun e => hs.2.2.2 e.symm), h.fs.tch T ((box_ty h.fs.bs).ne b (by decide)) ((box_ty h.fs.bl).ne b (by decide)) ((own_ty h.fs.bt).ne b (by decide)) ((box_ty h.fs.bw.box).ne b (by decide)) (fun e => b.map0 h.fs.bw.mm e.symm), h.ne, h.lo⟩
theorem GF.frm (h : GF B w g now lb lc q f P) (T : Tch (fun k => k = g.G) w X) (hs : GS X g now (some ⟨lb, 0, none⟩) 1 lc) : GF B X g now lb lc q f P := by
  obtain ⟨n1, n2, n3, n4, n5, n6, n7, n8, n9⟩ := GF.sepG (B := B) h.gs h.fs
  exact ⟨hs, own_keep h.ls T ((own_ty h.ls).ne (box_ty h.gs.b) (by decide)), h.fs.tch T n4 n5 n6 n7 n8 n9, h.ok, h.ne, h.lo, h.pt⟩
theorem GE.frm (h : GE B w g now oa c q o2 c2) (T : Tch (fun k => k = g.G) w X) (hs : GS X g now oa 0 c) : GE B X g now oa c q o2 c2 := by
  obtain ⟨n1, n2, n3, n4, n5, n6, n7, n8⟩ := FS0.sepG h.gs h.fs
  exact ⟨hs, h.fs.tch T n4 n5 n6 n7 n8, h.ne, h.lo⟩
end
theorem frame_out (B : Nat) (g : Gp) (now : Int) (q : Fp) (fr tt : Int) (bl : Nat) (body : Nat → Int) (o : Option Addr) (cb : Nat) (w : World) (h : GE B w g now none 0 q none 0)
    (hB : Bts w o (20 + bl) cb (pktB (Pk 64 167772161 134744072 bl body))) (hU : UdP (Pk 64 167772161 134744072 bl body) fr tt) (hb : bl ≤ 1000) (hn : 0 ≤ now ∧ now ≤ 1000000) (hw : B ≤ w.heap.size) :
    Calls Tryz.prog 9 #[.pointer (some ⟨g.G, 0, none⟩), .int .i64 1, .slice o ((20 + bl : Nat)) cb, .int .u32 0] w fun e w' => ∃ on n c, e = .returned (.tuple #[.slice on n c, .int .i64 0]) ∧ ∃ nb lb lc q' P oy cy, on = some ⟨nb, 0, none⟩ ∧ n = 1 ∧ GF B w' g now lb lc q' ⟨⟨17, 167772161, fr, 134744072, tt⟩, ⟨17, 134744072, tt, 3405803785, P⟩, now + 100, 0⟩ P ∧ Out w' nb c 0 3405803785 134744072 bl (tn2 body 167772161 134744072 3405803785 P 134744072 tt) oy cy ∧ Tch (fun k => B ≤ k) w w' := by
  have hp := hU.ports
  refine frame_any (fun on n c w' => ∃ nb lb lc q' P oy cy, on = some ⟨nb, 0, none⟩ ∧ n = 1 ∧ GF B w' g now lb lc q' ⟨⟨17, 167772161, fr, 134744072, tt⟩, ⟨17, 134744072, tt, 3405803785, P⟩, now + 100, 0⟩ P ∧ Out w' nb c 0 3405803785 134744072 bl (tn2 body 167772161 134744072 3405803785 P 134744072 tt) oy cy ∧ Tch (fun k => B ≤ k) w w')
    (fun on n c w1 w2 ⟨nb, lb, lc, q', P, oy, cy, h1, h2, h3, h4, h5⟩ hj => ⟨nb, lb, lc, q', P, oy, cy, h1, h2, h3.on hj, h4.on hj, h5.on hj⟩) 0 g now 1 0 167772161 134744072 fr tt none 0 0 bl body o cb w h.gs hB hU hb ?_
  intro X v oo ob oc bc hT hS hV hI hf1 hf2 hv
  have hX := h.frm hT hS
  refine vpacket_fresh _ 0 v g now 1 0 167772161 134744072 fr tt none 0 0 bl body oo ob oc bc X (fun on n c w1 w2 ⟨nb, lb, lc, q', P, oy, cy, h1, h2, h3, h4, h5⟩ hj => ⟨nb, lb, lc, q', P, oy, cy, h1, h2, h3.on hj, h4.on hj, h5.on hj⟩) hS hV hI hU hb (fun w1 hj => zone13 167772161 8 1 (some ⟨g.rb, 0, none⟩) g.rc w1 way_mine hS.rcap (hS.on hj).ros) (fun Y hY => ?_) (fun Y hY => ?_)
  · exact ffind0 ⟨17, 167772161, fr, 134744072, tt⟩ Y (hX.vis hV hY).fs (tup17 (by decide) (by decide) hp.1 hp.2).1
  · have hG := hX.vis hV hY
    have lo := h.lo
    have hl := h.gs.b.lt
    have l1 := h.fs.bs.lt
    have l2 := h.fs.bl.lt
    have l3 := h.fs.bw.box.lt
    have l4 := h.fs.bw.mm.lt
    have hsz := hT.size
    have hN : ∀ k, k = v → ¬ k < w.heap.size := fun k e => by omega
    refine (vfresh_go B v w.heap.size g now (now + 100) q fr tt bl body oo ob oc bc Y hG hY.2 (ip_tch hI hY.1 hV rfl) hU hb hp.1 hp.2 hf1 hf2 ⟨hl, l1, l2, l3, l4⟩ hn rfl (by have := hY.1.size; omega)).mono ?_
    rintro e w' ⟨nb, cn, oy, cy, lb, lc, q', P, rfl, hF, -, hO, hT2⟩
    exact ⟨_, _, _, rfl, nb, lb, lc, q', P, oy, cy, rfl, rfl, hF, hO, ((hT.mono (fun k hk => by have hk : k = g.G := hk; omega)).trans (hY.1.mono (fun k hk => by have hk : k = v := hk; omega))).trans (hT2.mono (fun k hk => by omega))⟩
theorem frame_back (B : Nat) (g : Gp) (now : Int) (lb lc : Nat) (q : Fp) (f : Fl) (P fr tt : Int) (bl : Nat) (body : Nat → Int) (o : Option Addr) (cb : Nat) (w : World) (h : GF B w g now lb lc q f P)
    (hth : f.there = ⟨17, 167772161, fr, 134744072, tt⟩) (hbk : f.back = ⟨17, 134744072, tt, 3405803785, P⟩) (hfr : 0 ≤ fr ∧ fr ≤ 65535) (h1 : f.till ≤ now + 100)
    (hB : Bts w o (20 + bl) cb (pktB (Pk 64 134744072 3405803785 bl body))) (hU : UdP (Pk 64 134744072 3405803785 bl body) tt P) (hb : bl ≤ 1000) (hn : 0 ≤ now ∧ now ≤ 1000000) (hw : B ≤ w.heap.size) :
    Calls Tryz.prog 9 #[.pointer (some ⟨g.G, 0, none⟩), .int .i64 0, .slice o ((20 + bl : Nat)) cb, .int .u32 0] w fun e w' => ∃ on n c, e = .returned (.tuple #[.slice on n c, .int .i64 0]) ∧ (fun (on : Option Addr) (n c : Nat) (w' : World) => ∃ nb lb' lc' oy cy, on = some ⟨nb, 0, none⟩ ∧ n = 1 ∧ GF B w' g now lb' lc' q { f with till := now + 100 } P ∧ Out w' nb c 1 134744072 167772161 bl (tn2 body 134744072 3405803785 134744072 tt 167772161 fr) oy cy ∧ Tch (fun k => B ≤ k) w w') on n c w' := by
  have hp := hU.ports
  have hR : ∀ on n c w1 w2, (fun (on : Option Addr) (n c : Nat) (w' : World) => ∃ nb lb' lc' oy cy, on = some ⟨nb, 0, none⟩ ∧ n = 1 ∧ GF B w' g now lb' lc' q { f with till := now + 100 } P ∧ Out w' nb c 1 134744072 167772161 bl (tn2 body 134744072 3405803785 134744072 tt 167772161 fr) oy cy ∧ Tch (fun k => B ≤ k) w w') on n c w1 → Junk w1 w2 → (fun (on : Option Addr) (n c : Nat) (w' : World) => ∃ nb lb' lc' oy cy, on = some ⟨nb, 0, none⟩ ∧ n = 1 ∧ GF B w' g now lb' lc' q { f with till := now + 100 } P ∧ Out w' nb c 1 134744072 167772161 bl (tn2 body 134744072 3405803785 134744072 tt 167772161 fr) oy cy ∧ Tch (fun k => B ≤ k) w w') on n c w2 := fun on n c w1 w2 ⟨nb, lb, lc, oy, cy, h1, h2, h3, h4, h5⟩ hj => ⟨nb, lb, lc, oy, cy, h1, h2, h3.on hj, h4.on hj, h5.on hj⟩
  refine frame_any (fun (on : Option Addr) (n c : Nat) (w' : World) => ∃ nb lb' lc' oy cy, on = some ⟨nb, 0, none⟩ ∧ n = 1 ∧ GF B w' g now lb' lc' q { f with till := now + 100 } P ∧ Out w' nb c 1 134744072 167772161 bl (tn2 body 134744072 3405803785 134744072 tt 167772161 fr) oy cy ∧ Tch (fun k => B ≤ k) w w') hR 0 g now 0 0 134744072 3405803785 tt P (some ⟨lb, 0, none⟩) 1 lc bl body o cb w h.gs hB hU hb ?_
  intro X v oo ob oc bc hT hS hV hI hf1 hf2 hv
  have hX := h.frm hT hS
  refine vpacket_known _ 0 v g now 0 0 134744072 3405803785 tt P (some ⟨lb, 0, none⟩) 1 lc bl body oo ob oc bc X hR hS hV hI hU hb (fun w1 hj => zone13 134744072 6 0 (some ⟨g.rb, 0, none⟩) g.rc w1 way_peer hS.rcap (hS.on hj).ros) (fun Y hY => ?_) (fun Y hY => ?_)
  · exact ffind_back ⟨17, 134744072, tt, 3405803785, P⟩ Y (hX.vis hV hY).fs h.ok hbk.symm
  · have hG := hX.vis hV hY
    have lo := h.lo
    have hl := h.gs.b.lt
    have l1 := h.fs.bl.lt
    have l2 := (own_at_le h.fs.bw.ls).2
    have hsz := hT.size
    refine (vknown_back B v w.heap.size 0 g now (now + 100) lb lc q f P fr tt bl body oo ob oc bc Y hG hY.2 (ip_tch hI hY.1 hV rfl) hU hb hth hfr hp.1 hf1 hf2 ⟨hl, l1, l2⟩ hn rfl h1).mono ?_
    rintro e w' ⟨nb, cn, oy, cy, lb', lc', rfl, hF, hO, hT2⟩
    exact ⟨_, _, _, rfl, nb, lb', lc', oy, cy, rfl, rfl, hF, hO, ((hT.mono (fun k hk => by have hk : k = g.G := hk; omega)).trans (hY.1.mono (fun k hk => by have hk : k = v := hk; omega))).trans (hT2.mono (fun k hk => by omega))⟩
theorem frame_no (B : Nat) (g : Gp) (now : Int) (oa : Option Addr) (ca : Nat) (q : Fp) (o2 : Option Addr) (c2 : Nat) (P tt : Int) (bl : Nat) (body : Nat → Int) (o : Option Addr) (cb : Nat) (w : World) (h : GE B w g now oa ca q o2 c2)
    (hB : Bts w o (20 + bl) cb (pktB (Pk 64 134744072 3405803785 bl body))) (hU : UdP (Pk 64 134744072 3405803785 bl body) tt P) (hb : bl ≤ 1000) (hw : B ≤ w.heap.size) :
    Calls Tryz.prog 9 #[.pointer (some ⟨g.G, 0, none⟩), .int .i64 0, .slice o ((20 + bl : Nat)) cb, .int .u32 0] w fun e w' => ∃ on n c, e = .returned (.tuple #[.slice on n c, .int .i64 8]) ∧ (fun (on : Option Addr) (n c : Nat) (w' : World) => on = none ∧ n = 0 ∧ c = 0 ∧ GE B w' g now oa ca q o2 c2 ∧ Tch (fun k => B ≤ k) w w') on n c w' := by
  have hp := hU.ports
  have hR : ∀ on n c w1 w2, (fun (on : Option Addr) (n c : Nat) (w' : World) => on = none ∧ n = 0 ∧ c = 0 ∧ GE B w' g now oa ca q o2 c2 ∧ Tch (fun k => B ≤ k) w w') on n c w1 → Junk w1 w2 → (fun (on : Option Addr) (n c : Nat) (w' : World) => on = none ∧ n = 0 ∧ c = 0 ∧ GE B w' g now oa ca q o2 c2 ∧ Tch (fun k => B ≤ k) w w') on n c w2 := fun on n c w1 w2 ⟨h1, h2, h3, h4, h5⟩ hj => ⟨h1, h2, h3, h4.on hj, h5.on hj⟩
  refine frame_any (fun (on : Option Addr) (n c : Nat) (w' : World) => on = none ∧ n = 0 ∧ c = 0 ∧ GE B w' g now oa ca q o2 c2 ∧ Tch (fun k => B ≤ k) w w') hR 8 g now 0 0 134744072 3405803785 tt P oa 0 ca bl body o cb w h.gs hB hU hb ?_
  intro X v oo ob oc bc hT hS hV hI hf1 hf2 hv
  have hX := h.frm hT hS
  refine vpacket_fresh _ 8 v g now 0 0 134744072 3405803785 tt P oa 0 ca bl body oo ob oc bc X hR hS hV hI hU hb (fun w1 hj => zone13 134744072 6 0 (some ⟨g.rb, 0, none⟩) g.rc w1 way_peer hS.rcap (hS.on hj).ros) (fun Y hY => ?_) (fun Y hY => ?_)
  · exact ffind0 ⟨17, 134744072, tt, 3405803785, P⟩ Y (hX.vis hV hY).fs (tup17 (by decide) (by decide) hp.1 hp.2).1
  · have hG := hX.vis hV hY
    have lo := h.lo
    have hsz := hT.size
    refine (vfresh_no v g now oa 0 ca _ Y hG.gs hY.2 rfl rfl).mono ?_
    rintro e w' ⟨rfl, hj⟩
    exact ⟨_, _, _, rfl, rfl, rfl, rfl, hG.on hj, (((hT.mono (fun k hk => by have hk : k = g.G := hk; omega)).trans (hY.1.mono (fun k hk => by have hk : k = v := hk; omega)))).on hj⟩
end Go.Proofs.YtfhkhnoiolkkdaaGreatDoor
set_option linter.unusedVariables false
set_option maxRecDepth 100000
set_option linter.unusedSimpArgs false
namespace Go.Proofs.YtfhkhnoiolkkdaaGreatDoor
open Go.RowKit
theorem own_tch {L : Nat → Prop} {B sz cap n : Nat} {w w' : World} {e : TypeId} {oa : Option Addr} {xs : List Value} (h : Own B w e sz oa cap n xs) (t : Tch L w w') (hL : ∀ k, L k → k < B) : Own B w' e sz oa cap n xs := by
  rcases h.form with ⟨rfl, rfl, rfl⟩ | ⟨g, cur, rfl, hB, _⟩
  · have hx := h.len
    obtain rfl : xs = [] := by simpa using hx
    exact Own.nil _ _ _ _
  · exact own_keep h t (fun e => by have := hL _ e; omega)
structure SeO (w : World) (g : Gp) (now : Int) (nf : Nat) (FL : List Value) (nl : Nat) (LL : List Ln) : Prop where
  x : ∃ oa c, GS w g now oa nl c ∧ LsAt w oa LL ∧ LL.length = nl ∧ nl ≤ 1000 ∧ (oa = none → nl = 0 ∧ c = 0)
  f : ∀ w1, Junk w w1 → Calls Tryz.prog 37 #[.pointer (some ⟨g.s, 0, none⟩)] w1 fun e w' => ∃ oa c, e = .returned (.slice oa nf c) ∧ Junk w1 w' ∧ Own w1.heap.size w' 50 12 oa c nf FL
set_option maxHeartbeats 4000000 in
theorem gsee_any (g : Gp) (now : Int) (nf nl : Nat) (FL : List Value) (LL : List Ln) (w : World) (h : SeO w g now nf FL nl LL) :
    Calls Tryz.prog 13 #[.pointer (some ⟨g.G, 0, none⟩)] w fun e w' => ∃ of cf ol cl, e = .returned (.agg #[.int .i64 now, .slice of nf cf, .slice ol nl cl, .int .i64 0, .int .i64 0, .int .i64 5, .int .i64 g.kn]) ∧ Junk w w' ∧ Own w.heap.size w' 50 12 of cf nf FL ∧ Own w.heap.size w' 52 5 ol cl nl (lnsL LL) := by
  obtain ⟨⟨oa, c, hS, hL, hl, hb, hn⟩, hF⟩ := h
  have HA := Lib.hid hF
  have HC := Lib.hid (fun w1 (hj : Junk w w1) => cloneL_any oa nl c LL w1 (by omega) hl (hL.on hj) hn)
  have HE := Lib.hid (fun w1 => pl_held 65536 30 now w1)
  have HB := Lib.hid hS.b
  clear hF hL hl hn hb hS
  go_enter Tryz.func13, Tryz.ntmps13
  go_upto_region 3 with (fail)
  refine wp_keep (fun X => Junk w X ∧ Box X w.heap.size 47 [.int .i64 0, .slice none 0 0, .slice none 0 0, .int .i64 0, .int .i64 0, .int .i64 0, .int .i64 0]) ⟨by (exact jkc), (box_at' (V := w) rfl rfl).on (by (exact jkc))⟩ ?_
  intro X ⟨hj, hB⟩
  have H1 := Lib.hid (And.intro hj hB)
  have hG := HB.out.on hj
  have g0 := hG.cell (j := 0) rfl
  have g1 := hG.cell (j := 1) rfl
  have g13 := hG.cell (j := 13) rfl
  have g14 := hG.cell (j := 14) rfl
  have g15 := hG.cell (j := 15) rfl
  have g16 := hG.cell (j := 16) rfl
  have g17 := hG.cell (j := 17) rfl
  have g18 := hG.cell (j := 18) rfl
  have g20 := hG.cell (j := 20) rfl
  have gs := hG.lt
  clear hj hB hG HB
  refine wp_region_mixl (X) 36 [(0, true), (1, true), (2, true), (3, true), (4, true), (5, true), (6, true), (7, true), (9, true), (10, true), (11, true), (12, true), (14, true), (15, true), (16, true), (17, true), (19, true), (20, true), (21, true), (22, true), (23, true), (24, true), (25, true), (26, true), (27, true), (28, true), (29, true), (30, true), (31, true), (32, true), (33, true), (34, true), (8, false), (13, false), (18, false), (35, true), (36, false)] (by kernel_rfl) (by kernel_rfl) (by (exact jkc)) ?_; (iterate 32 (refine wpMixL_q rfl (fun K hK => ?_); (go_simp; try go_bits); (refine hK _ ?_; clear hK K))); refine wpMixL_e rfl (fun osm3_0 dm3_0 K hK => ?_); (go_simp; try go_bits); (go_at_call 37; (with_reducible refine (HA.out _ (H1.out.1.trans (by (exact jkc)))).mono ?_); rintro e w1 ⟨of, cf, rfl, ⟨os1, d1, rfl⟩, hof⟩; have HOF := Lib.hid hof; clear hof); refine hK _ _ (Junk.pair (by (first | exact jkc | repeat (first | with_reducible exact Junk.refl _ | with_reducible exact Junk.app _ _ _ _ _ | with_reducible apply Junk.alloc | with_reducible apply Junk.junk | with_reducible apply Junk.drew | with_reducible apply Junk.drewN | (with_reducible refine Junk.setCell ?_ (by simp) _))))) ?_; clear hK K; refine wpMixL_e rfl (fun osm3_1 dm3_1 K hK => ?_); (go_simp; try go_bits); (go_at_call 38; (with_reducible refine (HC.out _ (H1.out.1.trans (by (exact jkc)))).mono ?_); rintro e w1 ⟨ol, cl, rfl, ⟨os2, d2, rfl⟩, hol⟩; have HOL := Lib.hid hol; clear hol); refine hK _ _ (Junk.pair (by (first | exact jkc | repeat (first | with_reducible exact Junk.refl _ | with_reducible exact Junk.app _ _ _ _ _ | with_reducible apply Junk.alloc | with_reducible apply Junk.junk | with_reducible apply Junk.drew | with_reducible apply Junk.drewN | (with_reducible refine Junk.setCell ?_ (by simp) _))))) ?_; clear hK K; refine wpMixL_e rfl (fun osm3_2 dm3_2 K hK => ?_); (go_simp; try go_bits); (go_at_call 39; (with_reducible refine (HE.out _).mono ?_); rintro e w1 ⟨rfl, ⟨os3, d3, rfl⟩⟩); refine hK _ _ (Junk.pair (by (first | exact jkc | repeat (first | with_reducible exact Junk.refl _ | with_reducible exact Junk.app _ _ _ _ _ | with_reducible apply Junk.alloc | with_reducible apply Junk.junk | with_reducible apply Junk.drew | with_reducible apply Junk.drewN | (with_reducible refine Junk.setCell ?_ (by simp) _))))) ?_; clear hK K; (iterate 1 (refine wpMixL_q rfl (fun K hK => ?_); (go_simp; try go_bits); (refine hK _ ?_; clear hK K))); refine wpMixL_last1 rfl rfl (fun osm3_3 dm3_3 K hK => ?_); (refine storeBox_wp 47 _ _ rfl (H1.out.2.on (by (exact jkc))) 0 #[.int .i64 now, .slice of nf cf, .slice ol nl cl, .int .i64 0, .int .i64 0, .int .i64 5, .int .i64 g.kn] (show (Tryz.prog.info? 47).map (·.size) = some 7 from by kernel_rfl) rfl rfl (by simp) (by simp [Value.oneCell']) ?_; intro w5 hg5 hb5; have H5 := Lib.hid (And.intro (below_of_grown (W0 := w) (H1.out.1.trans (by (exact jkc))) hg5 (fun k hk => by cases hk; exact Nat.le_refl _)) (And.intro (show Box w5 w.heap.size 47 [.int .i64 now, .slice of nf cf, .slice ol nl cl, .int .i64 0, .int .i64 0, .int .i64 5, .int .i64 g.kn] from hb5) (And.intro (own_tch (HOF.out.on (by (exact jkc))) (Tch.of_grown (L := fun k => k = w.heap.size) hg5 rfl) (fun k hk => by have hk : k = w.heap.size := hk; have := H1.out.2.lt; simp; omega)) (own_tch (HOL.out.on (by (exact jkc))) (Tch.of_grown (L := fun k => k = w.heap.size) hg5 rfl) (fun k hk => by have hk : k = w.heap.size := hk; have := H1.out.2.lt; simp; omega))))); clear hg5 hb5); refine hK _ _ ?_; clear hK K; refine wpMixL_nil (fun osm dm => ?_)
  go_wp2
  refine bodyPost_ret (results_cell1 Tryz.results13 rfl ((H5.out.2.1.on (by (exact jkc))).loadVar 47 Tryz.isAgg47 Tryz.sizeOf47)) rfl ?_
  have hsz := H1.out.1.size
  exact ⟨of, cf, ol, cl, rfl, H5.out.1.trans (by (exact jkc)), (H5.out.2.2.1.on (by (exact jkc))).lower (by simp; omega), (H5.out.2.2.2.on (by (exact jkc))).lower (by simp; omega)⟩
end Go.Proofs.YtfhkhnoiolkkdaaGreatDoor
