/- casematetop.world; gate.clone. -/
import Derived.Test.YtfhkhnoiolkkdaaGreatDoorGzS
set_option linter.unusedVariables false
set_option maxRecDepth 100000
set_option linter.unusedSimpArgs false
namespace Go.Proofs.YtfhkhnoiolkkdaaGreatDoor
open Go.RowKit
theorem box_own {V : World} {g n sz : Nat} {e : TypeId} {cs : List Value} (h : Box V g e cs) (hl : cs.length = n * sz) (hm : n ≤ maxLen) : Own 0 V e sz (some ⟨g, 0, none⟩) n n cs :=
  ⟨hl, .inr ⟨g, n, cs.toArray, rfl, Nat.zero_le _, h, Nat.le_refl _, hm, by simp [hl], by rw [List.take_of_length_le (by simp [hl])]⟩⟩
theorem box_mid1 {w : World} {a b c : Obj} {cs : Array Value} {e : TypeId} {l : List Value} (h : cs.toList = l) : Box ((((w.alloc a).alloc (.cells cs e)).alloc b).alloc c) (w.heap.size + 1) e l := (box_at' (V := w.alloc a) (by simp) h).on (by (exact jkc))
theorem box_mid2 {w : World} {a b c : Obj} {cs : Array Value} {e : TypeId} {l : List Value} (h : cs.toList = l) : Box ((((w.alloc a).alloc b).alloc (.cells cs e)).alloc c) (w.heap.size + 1 + 1) e l := (box_at' (V := (w.alloc a).alloc b) (by simp) h).on (by (exact jkc))
theorem tch_two (w : World) (o1 o1' o2 o2' : Obj) (X : Array Obj) (d : Nat) : Tch (fun k => k = w.heap.size ∨ k = w.heap.size + 1) (((w.alloc o1).alloc o2).junk X d) (((w.alloc o1').alloc o2').junk X d) := by
  refine ⟨rfl, rfl, rfl, by simp, fun i hi hn => ?_⟩
  have h1 : i ≠ w.heap.size := fun e => hn (.inl e)
  have h2 : i ≠ w.heap.size + 1 := fun e => hn (.inr e)
  simp only [World.alloc, World.junk, Array.getElem?_append, Array.size_push, Array.getElem?_push, h1, h2, if_false]
set_option maxHeartbeats 4000000 in
theorem clone_conf (rb rc ub uc : Nat) (w : World) (hr : Own 0 w 139 4 (some ⟨rb, 0, none⟩) rc 2 roL) (hu : Own 0 w 141 10 (some ⟨ub, 0, none⟩) uc 1 ruL) :
    Calls Tryz.prog 52 #[.agg #[.slice (some ⟨rb, 0, none⟩) 2 rc, .slice (some ⟨ub, 0, none⟩) 1 uc, .int .i64 0, .int .u32 3405803785, .int .i64 5000, .int .i64 5100, .slice none 0 0, .int .i64 1000, .int .i64 100, .int .i64 5]] w fun e w' => ∃ rb rc ub uc, e = .returned (.agg #[.slice (some ⟨rb, 0, none⟩) 2 rc, .slice (some ⟨ub, 0, none⟩) 1 uc, .int .i64 0, .int .u32 3405803785, .int .i64 5000, .int .i64 5100, .slice none 0 0, .int .i64 1000, .int .i64 100, .int .i64 5]) ∧ Junk w w' ∧ Own w.heap.size w' 139 4 (some ⟨rb, 0, none⟩) rc 2 roL ∧ Own w.heap.size w' 141 10 (some ⟨ub, 0, none⟩) uc 1 ruL := by
  have HR := Lib.hid (fun w1 (hj : Junk w w1) => cl_ro rb rc w1 (own_keep (L := fun _ => False) hr (Tch.of_junk hj) (fun e => e)))
  have HU := Lib.hid (fun w1 (hj : Junk w w1) => cl_ru ub uc w1 (own_keep (L := fun _ => False) hu (Tch.of_junk hj) (fun e => e)))
  clear hr hu
  go_enter Tryz.func52, Tryz.ntmps52
  go_upto_region 1 with (fail)
  refine wp_region_mixm (((w.alloc (.cells #[.slice (some ⟨rb, 0, none⟩) 2 rc, .slice (some ⟨ub, 0, none⟩) 1 uc, .int .i64 0, .int .u32 3405803785, .int .i64 5000, .int .i64 5100, .slice none 0 0, .int .i64 1000, .int .i64 100, .int .i64 5] 81)).alloc (.cells #[.slice none 0 0, .slice none 0 0, .int .i64 0, .int .u32 0, .int .i64 0, .int .i64 0, .slice none 0 0, .int .i64 0, .int .i64 0, .int .i64 0] 81))) [10, 11, 12, 13, 14] [(0, true), (1, true), (3, true), (4, true), (6, true), (7, true), (2, false), (9, true), (5, false), (8, false), (10, false), (11, false), (12, false), (13, false), (14, false)] (by kernel_rfl) (by kernel_rfl) (by (first | exact jkc | repeat (first | with_reducible exact Junk.refl _ | with_reducible exact Junk.app _ _ _ _ _ | with_reducible apply Junk.alloc | with_reducible apply Junk.junk | with_reducible apply Junk.drew | with_reducible apply Junk.drewN | (with_reducible refine Junk.setCell ?_ (by simp) _)))) ?_; (iterate 6 (refine wpMixM_q rfl (fun K hK => ?_); (go_simp; try go_bits); (refine hK _ ?_; clear hK K))); refine wpMixM_e rfl (fun osm1_0 dm1_0 K hK => ?_); (go_simp; try go_bits); (go_at_call 108; (with_reducible refine (HR.out _ (by (exact jkc))).mono ?_); rintro e w1 ⟨b1, k1, rfl, ⟨os1, d1, rfl⟩, h1⟩; have H1 := Lib.hid h1; clear h1); refine hK _ _ (Junk.pair (by (first | exact jkc | repeat (first | with_reducible exact Junk.refl _ | with_reducible exact Junk.app _ _ _ _ _ | with_reducible apply Junk.alloc | with_reducible apply Junk.junk | with_reducible apply Junk.drew | with_reducible apply Junk.drewN | (with_reducible refine Junk.setCell ?_ (by simp) _))))) ?_; clear hK K; (iterate 1 (refine wpMixM_q rfl (fun K hK => ?_); (go_simp; try go_bits); (refine hK _ ?_; clear hK K))); refine wpMixM_e rfl (fun osm1_1 dm1_1 K hK => ?_); (go_simp; try go_bits); (go_at_call 109; (with_reducible refine (HU.out _ (by (exact jkc))).mono ?_); rintro e w1 ⟨b2, k2, rfl, ⟨os2, d2, rfl⟩, h2⟩; have H2 := Lib.hid h2; clear h2); refine hK _ _ (Junk.pair (by (first | exact jkc | repeat (first | with_reducible exact Junk.refl _ | with_reducible exact Junk.app _ _ _ _ _ | with_reducible apply Junk.alloc | with_reducible apply Junk.junk | with_reducible apply Junk.drew | with_reducible apply Junk.drewN | (with_reducible refine Junk.setCell ?_ (by simp) _))))) ?_; clear hK K; refine wpMixM_e rfl (fun osm1_2 dm1_2 K hK => ?_); (go_simp; try go_bits); (go_at_call 110; (with_reducible refine (cl_fo _).mono ?_); rintro e w1 ⟨rfl, ⟨os3, d3, rfl⟩⟩); refine hK _ _ (Junk.pair (by (first | exact jkc | repeat (first | with_reducible exact Junk.refl _ | with_reducible exact Junk.app _ _ _ _ _ | with_reducible apply Junk.alloc | with_reducible apply Junk.junk | with_reducible apply Junk.drew | with_reducible apply Junk.drewN | (with_reducible refine Junk.setCell ?_ (by simp) _))))) ?_; clear hK K; refine wpMixM_late (by decide) rfl (fun osm1_3 dm1_3 K hK => ?_); (go_simp; try go_bits); refine hK _ _ ?_; clear hK K; refine wpMixM_late (by decide) rfl (fun osm1_4 dm1_4 K hK => ?_); (go_simp; try go_bits); refine hK _ _ ?_; clear hK K; refine wpMixM_late (by decide) rfl (fun osm1_5 dm1_5 K hK => ?_); (go_simp; try go_bits); refine hK _ _ ?_; clear hK K; refine wpMixM_late (by decide) rfl (fun osm1_6 dm1_6 K hK => ?_); (go_simp; try go_bits); refine hK _ _ ?_; clear hK K; refine wpMixM_late (by decide) rfl (fun osm1_7 dm1_7 K hK => ?_); (go_simp; try go_bits); refine hK _ _ ?_; clear hK K; refine wpMixM_nil (fun osm dm => ?_)
  go_wp2
  go_returns
  refine ⟨_, _, _, _, rfl, by (exact jkc), ?_, ?_⟩
  · have ho := H1.out
    have hg := (own_at_le ho).1
    refine (own_keep (ho.on (w' := ((w.alloc (.cells #[.slice (some ⟨rb, 0, none⟩) 2 rc, .slice (some ⟨ub, 0, none⟩) 1 uc, .int .i64 0, .int .u32 3405803785, .int .i64 5000, .int .i64 5100, .slice none 0 0, .int .i64 1000, .int .i64 100, .int .i64 5] 81)).alloc (.cells #[.slice none 0 0, .slice none 0 0, .int .i64 0, .int .u32 0, .int .i64 0, .int .i64 0, .slice none 0 0, .int .i64 0, .int .i64 0, .int .i64 0] 81)).junk _ _) ?_) (tch_two w _ _ _ _ _ _) ?_).lower ?_
    · (exact jkc)
    · simp at hg; omega
    · simp; omega
  · have ho := H2.out
    have hg := (own_at_le ho).1
    refine (own_keep (ho.on (w' := ((w.alloc (.cells #[.slice (some ⟨rb, 0, none⟩) 2 rc, .slice (some ⟨ub, 0, none⟩) 1 uc, .int .i64 0, .int .u32 3405803785, .int .i64 5000, .int .i64 5100, .slice none 0 0, .int .i64 1000, .int .i64 100, .int .i64 5] 81)).alloc (.cells #[.slice none 0 0, .slice none 0 0, .int .i64 0, .int .u32 0, .int .i64 0, .int .i64 0, .slice none 0 0, .int .i64 0, .int .i64 0, .int .i64 0] 81)).junk _ _) ?_) (tch_two w _ _ _ _ _ _) ?_).lower ?_
    · (exact jkc)
    · simp at hg; omega
    · simp; omega
end Go.Proofs.YtfhkhnoiolkkdaaGreatDoor
