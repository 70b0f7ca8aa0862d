/- tuple.Less, tuple.Hash. -/
import Derived.Test.YtjmofjcloebgmaaTupC
import Derived.Laws.BitsAllLaws
import Derived.LoopN
set_option linter.unusedVariables false
set_option maxRecDepth 100000
set_option linter.unusedSimpArgs false
namespace Go.Proofs.Ytjmofjcloebgmaa
open Go.RowKit
/-- A slice of the call's own that is not empty, by its block. -/
theorem grew_some {W0 w' : World} {n : Nat} {xs : List Value} {e : Ending} (h : GrewM W0 n xs e w') (hn : 0 < n) : ∃ g cap, e = .returned (.slice (some ⟨g, 0, none⟩) n cap) ∧ Junk W0 w' ∧ W0.heap.size ≤ g ∧ g < w'.heap.size ∧ n ≤ cap ∧ cap ≤ maxLen ∧ ∀ j u, xs[j]? = some u → w'.cell? ⟨g, j, none⟩ = some u := by
  obtain ⟨oa, cap, he, hj, ho⟩ := h
  obtain ⟨g, rfl, h1, h2, h3⟩ := own_some ho hn
  exact ⟨g, cap, he, hj, h1, h2, ho.capLe.1, ho.capLe.2, fun j u hu => (h3 j u hu).1⟩
structure CelL (w : World) (g : Nat) (xs : List Int) : Prop where
  lt : g < w.heap.size
  c : ∀ j x, xs[j]? = some x → w.cell? ⟨g, j, none⟩ = some (.int .u8 x)
theorem CelL.on {w w' : World} {g : Nat} {xs : List Int} (h : CelL w g xs) (hj : Junk w w') : CelL w' g xs := by
  obtain ⟨os, d, rfl⟩ := hj
  exact ⟨by have := h.lt; simp; omega, fun j x hx => by rw [World.cell?_junk _ _ _ _ _ h.lt]; exact h.c j x hx⟩
def RawM (w : World) (xs : List Int) (e : Ending) (w' : World) : Prop := ∃ g cap, e = .returned (.slice (some ⟨g, 0, none⟩) 13 cap) ∧ Junk w w' ∧ CelL w' g xs ∧ 13 ≤ cap ∧ cap ≤ maxLen
theorem raw_cells (t : Tup) (w : World) (h : TupW t) : Calls Try.prog 72 #[.agg #[.int .i64 t.proto, .int .u32 t.src, .int .i64 t.sport, .int .u32 t.dst, .int .i64 t.dport]] w (RawM w (tupRaw t)) :=
  (tup_raw_any t w h).mono fun e w' hp => by
    obtain ⟨g, cap, he, hj, h1, h2, h3, h4, h5⟩ := grew_some hp (by decide)
    exact ⟨g, cap, he, hj, ⟨h2, fun j x hx => h5 j _ (by rw [List.getElem?_map, hx]; rfl)⟩, h3, h4⟩
theorem cmp_q {w : World} {g1 g2 c d : Nat} {a b : Tup} (r : Int) (hr : Lib.compareBytes (Lib.bytesOf (tupRaw a)) (Lib.bytesOf (tupRaw b)) = r) (h1 : CelL w g1 (tupRaw a)) (h2 : CelL w g2 (tupRaw b)) :
    Calls Try.prog 74 #[.slice (some ⟨g1, 0, none⟩) 13 c, .slice (some ⟨g2, 0, none⟩) 13 d] w fun e w' => e = .returned (.int .i64 r) ∧ Junk w w' := by
  rw [← hr]
  exact Calls.junk_of_same (tup_bcompare_any w g1 g2 13 13 c d (tupRaw a) (tupRaw b) rfl rfl h1.c h2.c)
set_option maxHeartbeats 1000000 in
theorem tup_less_any (a b : Tup) (w : World) (ha : TupW a) (hb : TupW b) : Calls Try.prog 40 #[.agg #[.int .i64 a.proto, .int .u32 a.src, .int .i64 a.sport, .int .u32 a.dst, .int .i64 a.dport], .agg #[.int .i64 b.proto, .int .u32 b.src, .int .i64 b.sport, .int .u32 b.dst, .int .i64 b.dport]] w fun e w' => e = .returned (.bool (tupLess a b)) ∧ Junk w w' := by
  have h := cmp_lex (tupRaw a) (tupRaw b) rfl (tupRaw_byte ha.toTupWf) (tupRaw_byte hb.toTupWf)
  rw [raw_lex ha.toTupWf hb.toTupWf] at h
  obtain ⟨r, hr⟩ : ∃ r, Lib.compareBytes (Lib.bytesOf (tupRaw a)) (Lib.bytesOf (tupRaw b)) = r := ⟨_, rfl⟩
  rw [hr] at h
  have HR := Lib.hid hr
  have HL := Lib.hid h
  clear hr h
  go_enter Try.func40, Try.ntmps40
  go_wp2
  refine wp_region_mixj ((w.alloc (.cells #[.int .i64 a.proto, .int .u32 a.src, .int .i64 a.sport, .int .u32 a.dst, .int .i64 a.dport] 58)).alloc (.cells #[.int .i64 b.proto, .int .u32 b.src, .int .i64 b.sport, .int .u32 b.dst, .int .i64 b.dport] 58)) [(0, true), (2, true), (1, false), (3, false), (4, false), (5, true), (6, true)] (by kernel_rfl) (by kernel_rfl) (by (repeat (first | with_reducible exact Junk.refl _ | with_reducible exact Junk.app _ _ _ _ _ | with_reducible apply Junk.alloc | with_reducible apply Junk.junk | with_reducible apply Junk.drew | with_reducible apply Junk.drewN))) ?_; (iterate 2 (refine wpMix_q rfl (fun K hK => ?_); (go_simp; try go_bits); (refine hK _ ?_; clear hK K))); refine wpMix_e rfl (fun osm1_0 dm1_0 K hK => ?_); (go_simp; try go_bits); (go_at_call 72; refine (raw_cells a _ ha).mono ?_; rintro e w' ⟨g1, c1, rfl, ⟨osj1, dj1, rfl⟩, hc1, _, _⟩; have Hc1 := Lib.hid hc1; clear hc1); refine hK _ _ (Junk.pair (by (repeat (first | with_reducible exact Junk.refl _ | with_reducible exact Junk.app _ _ _ _ _ | with_reducible apply Junk.alloc | with_reducible apply Junk.junk | with_reducible apply Junk.drew | with_reducible apply Junk.drewN | (with_reducible refine Junk.setCell ?_ (by simp) _))))) ?_; clear hK K; refine wpMix_e rfl (fun osm1_1 dm1_1 K hK => ?_); (go_simp; try go_bits); (go_at_call 72; refine (raw_cells b _ hb).mono ?_; rintro e w' ⟨g2, c2, rfl, ⟨osj2, dj2, rfl⟩, hc2, _, _⟩; have Hc2 := Lib.hid hc2; clear hc2); refine hK _ _ (Junk.pair (by (repeat (first | with_reducible exact Junk.refl _ | with_reducible exact Junk.app _ _ _ _ _ | with_reducible apply Junk.alloc | with_reducible apply Junk.junk | with_reducible apply Junk.drew | with_reducible apply Junk.drewN | (with_reducible refine Junk.setCell ?_ (by simp) _))))) ?_; clear hK K; refine wpMix_e rfl (fun osm1_2 dm1_2 K hK => ?_); (go_simp; try go_bits); (go_at_call 74; refine (cmp_q r HR.out (Hc1.out.on (by ((try simp only [World.junk_junk, Array.append_assoc]); (repeat (first | with_reducible exact Junk.refl _ | with_reducible exact Junk.app _ _ _ _ _ | with_reducible exact Junk.app2 _ _ _ _ _ _ | with_reducible exact Junk.app3 _ _ _ _ _ _ _ | with_reducible exact Junk.app4 _ _ _ _ _ _ _ _ | with_reducible exact Junk.app5 _ _ _ _ _ _ _ _ _ | with_reducible apply Junk.alloc | with_reducible apply Junk.junk | with_reducible apply Junk.drew | with_reducible apply Junk.drewN))))) (Hc2.out.on (by ((try simp only [World.junk_junk, Array.append_assoc]); (repeat (first | with_reducible exact Junk.refl _ | with_reducible exact Junk.app _ _ _ _ _ | with_reducible exact Junk.app2 _ _ _ _ _ _ | with_reducible exact Junk.app3 _ _ _ _ _ _ _ | with_reducible exact Junk.app4 _ _ _ _ _ _ _ _ | with_reducible exact Junk.app5 _ _ _ _ _ _ _ _ _ | with_reducible apply Junk.alloc | with_reducible apply Junk.junk | with_reducible apply Junk.drew | with_reducible apply Junk.drewN)))))).mono ?_; rintro e w' ⟨rfl, ⟨osj3, dj3, rfl⟩⟩); refine hK _ _ (Junk.pair (by (repeat (first | with_reducible exact Junk.refl _ | with_reducible exact Junk.app _ _ _ _ _ | with_reducible apply Junk.alloc | with_reducible apply Junk.junk | with_reducible apply Junk.drew | with_reducible apply Junk.drewN | (with_reducible refine Junk.setCell ?_ (by simp) _))))) ?_; clear hK K; (iterate 2 (refine wpMix_q rfl (fun K hK => ?_); (go_simp; try go_bits); (refine hK _ ?_; clear hK K))); refine wpMix_nil (fun osm dm => ?_)
  go_wp2
  all_goals (go_ret; exact ⟨by rw [← HL.out]; rfl, by ((try simp only [World.junk_junk, Array.append_assoc]); (repeat (first | with_reducible exact Junk.refl _ | with_reducible exact Junk.app _ _ _ _ _ | with_reducible exact Junk.app2 _ _ _ _ _ _ | with_reducible exact Junk.app3 _ _ _ _ _ _ _ | with_reducible exact Junk.app4 _ _ _ _ _ _ _ _ | with_reducible exact Junk.app5 _ _ _ _ _ _ _ _ _ | with_reducible apply Junk.alloc | with_reducible apply Junk.junk | with_reducible apply Junk.drew | with_reducible apply Junk.drewN)))⟩)
theorem hashStep_bd (h c : Int) : 0 ≤ hashStep h c ∧ hashStep h c ≤ 4294967295 := by unfold hashStep; omega
theorem hash_bd (xs : List Int) (h : Int) (hh : 0 ≤ h ∧ h ≤ 4294967295) : 0 ≤ xs.foldl hashStep h ∧ xs.foldl hashStep h ≤ 4294967295 := by
  induction xs generalizing h with
  | nil => exact hh
  | cons x xs ih => exact ih _ (hashStep_bd h x)
theorem foldl_take_succ {xs : List Int} {i : Nat} {x : Int} (h : xs[i]? = some x) (s : Int) : (xs.take (i + 1)).foldl hashStep s = hashStep ((xs.take i).foldl hashStep s) x := by
  rw [List.take_add_one, h, Option.toList_some, List.foldl_append]
  rfl
theorem seed_bd {s : Int} (h : 0 ≤ s ∧ s ≤ 4294967295) : (0 : Int) ≤ ((2166136261 ^^^ s.toNat : Nat) : Int) ∧ ((2166136261 ^^^ s.toNat : Nat) : Int) ≤ 4294967295 := by
  have : 2166136261 ^^^ s.toNat < 2 ^ 32 := Nat.xor_lt_two_pow (by decide) (by omega)
  omega
set_option maxHeartbeats 1000000 in
theorem tup_hash_any (t : Tup) (s : Int) (w : World) (ht : TupW t) (hs : 0 ≤ s ∧ s ≤ 4294967295) : Calls Try.prog 38 #[.agg #[.int .i64 t.proto, .int .u32 t.src, .int .i64 t.sport, .int .u32 t.dst, .int .i64 t.dport], .int .u32 s] w fun e w' => e = .returned (.int .u32 (tupHash t s)) ∧ Junk w w' := by
  have hb := tupRaw_byte ht.toTupWf
  have HBY := Lib.hid hb
  have hx0 : bits .xor .u32 2166136261 s = ((2166136261 ^^^ s.toNat : Nat) : Int) := u32_xor 2166136261 s (by decide) (by decide) hs.1 (by omega)
  have hsb := seed_bd hs
  obtain ⟨H0, hH0⟩ : ∃ h, ((2166136261 ^^^ s.toNat : Nat) : Int) = h := ⟨_, rfl⟩
  have HH := Lib.hid (show tupHash t s = (tupRaw t).foldl hashStep H0 by unfold tupHash; rw [hH0])
  rw [hH0] at hx0 hsb
  have HSB := Lib.hid hsb
  have hlen : (tupRaw t).length = 13 := rfl
  obtain ⟨R, hR⟩ : ∃ R, tupRaw t = R := ⟨_, rfl⟩
  have HR := Lib.hid hR
  rw [hR] at HH hlen
  have HLEN := Lib.hid hlen
  clear hH0 hsb hb hR hlen
  go_enter Try.func38, Try.ntmps38
  go_wp2_with (go_at_call 72; refine (raw_cells t _ ht).mono ?_; rintro e w' ⟨g, c, rfl, ⟨osj, dj, rfl⟩, hc, hc1, hc2⟩; have Hc := Lib.hid hc; clear hc)
  rw [HR.out] at Hc
  go_loopw [5, 13] (fun v u wr => ∃ i : Nat, v = .int .u32 ((R.take i).foldl hashStep H0) ∧ u = .int .i64 (i : Int) ∧ wr = (w.alloc (.cells #[.int .i64 t.proto, .int .u32 t.src, .int .i64 t.sport, .int .u32 t.dst, .int .i64 t.dport] 58)).junk osj dj ∧ i ≤ 13) (fun _ u _ => 14 - (intOf u).toNat)
  case atStart => exact ⟨0, rfl, rfl, (by first | rfl | trivial), by omega⟩
  case round =>
    obtain ⟨i, rfl, rfl, rfl, hi⟩ := hrel
    by_cases h13 : i < 13
    case neg =>
      have hi2 : ¬ (i : Int) < 13 := by omega
      obtain rfl : 13 = i := by omega
      rw [List.take_of_length_le (by rw [HLEN.out]; omega)]
      go_wp2
      all_goals (go_ret; exact ⟨by rw [HH.out]; rfl, by ((try simp only [World.junk_junk, Array.append_assoc]); (repeat (first | with_reducible exact Junk.refl _ | with_reducible exact Junk.app _ _ _ _ _ | with_reducible exact Junk.app2 _ _ _ _ _ _ | with_reducible exact Junk.app3 _ _ _ _ _ _ _ | with_reducible exact Junk.app4 _ _ _ _ _ _ _ _ | with_reducible exact Junk.app5 _ _ _ _ _ _ _ _ _ | with_reducible apply Junk.alloc | with_reducible apply Junk.junk | with_reducible apply Junk.drew | with_reducible apply Junk.drewN)))⟩)
    have hi2 : (i : Int) < 13 := by omega
    obtain ⟨x, hx⟩ : ∃ x, R[i]? = some x := ⟨_, List.getElem?_eq_getElem (by rw [HLEN.out]; omega)⟩
    have hcell := Hc.out.c i x hx
    have hlt := Hc.out.lt
    have hxb := HBY.out x (by rw [HR.out]; exact List.mem_of_getElem? hx)
    have hstep := foldl_take_succ hx H0
    have hhb := hash_bd (R.take i) H0 HSB.out
    obtain ⟨h, hh⟩ : ∃ h, (R.take i).foldl hashStep H0 = h := ⟨_, rfl⟩
    rw [hh] at hstep hhb ⊢
    obtain ⟨X, hX⟩ : ∃ X, ((h.toNat ^^^ x.toNat : Nat) : Int) = X := ⟨_, rfl⟩
    have f1 : bits .xor .u32 h x = X := by rw [u32_xor h x hhb.1 (by omega) hxb.1 (by omega)]; exact hX
    have f2 : IntKind.u32.wrap (X * 16777619) = X * 16777619 % 4294967296 := IntKind.wrap_u32 _
    have HST := Lib.hid (show (R.take (i + 1)).foldl hashStep H0 = X * 16777619 % 4294967296 by rw [hstep]; unfold hashStep; rw [hX])
    have wx := wrapk_u32 x (by omega) (by omega)
    clear hstep hh hX hx
    go_wp2
    exact ⟨⟨i + 1, by rw [HST.out], by go_num, (by first | rfl | trivial), by omega⟩, by simp [intOf]; omega⟩
end Go.Proofs.Ytjmofjcloebgmaa
