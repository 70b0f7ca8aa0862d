/- slices.DeleteFunc over buffers. -/
import Derived.Test.YtgjppmkadmfibaaRsP
set_option linter.unusedVariables false
set_option maxRecDepth 100000
set_option linter.unusedSimpArgs false
namespace Go.Proofs.Ytgjppmkadmfibaa
open Go.RowKit
theorem boxj_cells {w : World} {cs : List Value} {t : TypeId} {os : Array Obj} {d n : Nat} (hn : n = w.heap.size) : ∀ j v, cs[j]? = some v → ((w.alloc (.cells cs.toArray t)).junk os d).cell? ⟨n, 0 + j, none⟩ = some v := by
  intro j v hv
  subst hn
  rw [World.cell?_junk _ _ _ _ _ (by simp), Nat.zero_add, World.cell?_alloc_new]
  simpa using hv
def PrGs (f : Nat) (v1 : Array Value) (w : World) (oa : Option Addr) (L : List Bf) (pr : Bq → Bool) : Prop := ∀ w1, w.grownBy w1 (rowOf oa) → ∀ b ∈ L, Calls Try.prog f (#[.agg b.cells.toArray] ++ v1) w1 fun e w' => e = .returned (.bool (pr b.q)) ∧ Junk w1 w'
def DelM (W0 w : World) (oa : Option Addr) (cap : Nat) (R : List Bf) (e : Ending) (w' : World) : Prop := e = .returned (.slice oa R.length cap) ∧ Junk W0 w' ∧ w.grownBy w' (rowOf oa) ∧ Own W0.heap.size w' 45 19 oa cap R.length (bfsL R)
theorem PrGs.bs {f : Nat} {v1 : Array Value} {w : World} {oa : Option Addr} {L : List Bf} {pr : Bq → Bool} (h : PrGs f v1 w oa L pr) : PrBs f v1 w L pr := fun w1 hj b hb => h w1 (grown_junk hj _) b hb
set_option maxHeartbeats 4000000 in
theorem delF_none (f : Nat) (v1 : Array Value) (oa : Option Addr) (l cap : Nat) (L : List Bf) (pr : Bq → Bool) (W0 w : World) (hl : l ≤ 1000000) (hL : L.length = l) (hj : Junk W0 w) (hO : Own W0.heap.size w 45 19 oa cap l (bfsL L)) (hf : PrGs f v1 w oa L pr) (hfn : ∀ args w, (callFunc f args).run Try.prog w = .ok (.enter f args) w) (hi : (L.map Bf.q).findIdx? pr = none) :
    Calls Try.prog 35 #[.slice oa l cap, .func (.func f) #[] v1] w (DelM W0 w oa cap (L.filter fun x => !pr x.q)) := by
  have hR : L.filter (fun x => !pr x.q) = L := by
    rw [List.filter_eq_self]
    intro x hx
    have := List.findIdx?_eq_none_iff.1 hi x.q (List.mem_map.2 ⟨x, hx, rfl⟩)
    simp [this]
  rw [hR]
  have HO := Lib.hid hO
  have HJ := Lib.hid hj
  have HL := Lib.hid hL
  have HI := Lib.hid (fun w1 (hj : Junk w w1) => show Calls Try.prog 26 #[.slice oa l cap, .func (.func f) #[] v1] w1 fun e w' => e = .returned (.int .i64 (-1)) ∧ Junk w1 w' from by
    have := ridxB_any f v1 _ oa l cap L pr w1 hl hL (hO.on hj) (fun w2 h2 => hf.bs w2 (hj.trans h2)) hfn
    rw [hi] at this
    exact this)
  clear hj hO hf hR hi hL
  go_enter Try.func35, Try.ntmps35
  go_wp2_with (first | (go_at_call 26; (with_reducible refine (HI.out _ (by (exact jkc))).mono ?_); rintro e w' ⟨rfl, ⟨osj, dj, rfl⟩⟩))
  go_ret
  exact ⟨by rw [HL.out]; rfl, HJ.out.trans (by (exact jkc)), grown_junk (by (exact jkc)) _, by rw [HL.out]; exact HO.out.on (by (exact jkc))⟩
set_option maxHeartbeats 8000000 in
theorem delF_some (f : Nat) (v1 : Array Value) (g l cap k : Nat) (L : List Bf) (pr : Bq → Bool) (W0 w : World) (hl : l ≤ 1000000) (hL : L.length = l) (hj : Junk W0 w) (hO : Own W0.heap.size w 45 19 (some ⟨g, 0, none⟩) cap l (bfsL L)) (hf : PrGs f v1 w (some ⟨g, 0, none⟩) L pr) (hfn : ∀ args w, (callFunc f args).run Try.prog w = .ok (.enter f args) w) (hi : (L.map Bf.q).findIdx? pr = some k) :
    Calls Try.prog 35 #[.slice (some ⟨g, 0, none⟩) l cap, .func (.func f) #[] v1] w (DelM W0 w (some ⟨g, 0, none⟩) cap (L.filter fun x => !pr x.q)) := by
  obtain ⟨hk0, hp0, hb0⟩ := List.findIdx?_eq_some_iff_getElem.1 hi
  rw [List.length_map] at hk0
  have hk : k < l := by omega
  have hlc := hO.capLe.1
  have HO := Lib.hid hO
  have HJ := Lib.hid hj
  have HF := Lib.hid hf
  have HL := Lib.hid hL
  have HGE := Lib.hid (own_geR hO).1
  have HST := Lib.hid (DelIv.start (pr := fun x => pr x.q) (List.getElem?_eq_getElem hk0) (by simpa using hp0) (fun j y hj hy => by
    have h1 := hb0 j hj
    obtain ⟨hjl, rfl⟩ := List.getElem?_eq_some_iff.1 hy
    simpa using h1))
  have hne : ((k : Int) == -1) = false := by simp
  have hK : (k : Int) < (l : Int) := by omega
  have HI := Lib.hid (fun w1 (hj : Junk w w1) => show Calls Try.prog 26 #[.slice (some ⟨g, 0, none⟩) l cap, .func (.func f) #[] v1] w1 fun e w' => e = .returned (.int .i64 (k : Int)) ∧ Junk w1 w' from by
    have := ridxB_any f v1 _ (some ⟨g, 0, none⟩) l cap L pr w1 hl hL (hO.on hj) (fun w2 h2 => hf.bs w2 (hj.trans h2)) hfn
    rw [hi] at this
    exact this)
  clear hj hO hf hi hL hp0 hb0 hk0
  go_enter Try.func35, Try.ntmps35
  go_wp2_with (first | (go_at_call 26; (with_reducible refine (HI.out _ (by (exact jkc))).mono ?_); rintro e w' ⟨rfl, ⟨osj, dj, rfl⟩⟩))
  go_loopw [5, 6] (fun i j wr => ∃ (a c : Nat) (M : List Bf), i = .int .i64 (a : Int) ∧ j = .int .i64 (c : Int) ∧ Hid (w.grownBy wr (some g)) ∧ Hid (Own W0.heap.size wr 45 19 (some ⟨g, 0, none⟩) cap l (bfsL M)) ∧ Hid (DelIv L M (fun x => pr x.q) a c) ∧ a < c ∧ c ≤ l) (fun _ j _ => l + 1 - (intOf j).toNat)
  case atStart => exact ⟨k, k + 1, L, rfl, by go_num, Lib.hid (grown_junk (by (exact jkc)) _), Lib.hid (HO.out.on (by (exact jkc))), HST, by omega, by omega⟩
  case round =>
    obtain ⟨a, c, M, rfl, rfl, HGR, HOW, hI, hac, hc⟩ := hrel
    have hgl := (own_geR HOW.out).2
    have hcm := HOW.out.capLe.2
    simp only [maxLen] at hcm
    by_cases hcl : c < l
    · have hc2 : (c : Int) < (l : Int) := by omega
      have ha2 : (a : Int) < (l : Int) := by omega
      have pc := wrapk_i64 ((c : Int) + 1) (by omega) (by omega)
      have pa := wrapk_i64 ((a : Int) + 1) (by omega) (by omega)
      obtain ⟨b, hb⟩ : ∃ b, L[c]? = some b := ⟨_, List.getElem?_eq_getElem (by rw [HL.out]; exact hcl)⟩
      have HC := Lib.hid (own_bf HOW.out (by rw [hI.out.at_]; exact hb))
      have HB := Lib.hid hb
      have HFB := Lib.hid (fun w1 (hj : Junk wr w1) => HF.out w1 (grown_tr HGR.out (grown_junk hj _)) b (List.mem_of_getElem? hb))
      clear hb
      cases hp : pr b.q with
      | true =>
        rw [hp] at HFB
        have HI2 := Lib.hid (hI.out.skip HB.out hp)
        go_wp2_with (first | ((with_reducible show wpList _ _ _ _ _ _); refine wpList_loadAgg rfl 45 _ rfl Try.isAgg45 g _ b.cells Try.sizeOf45 rfl HC.out ?_) | ((with_reducible show wpList _ _ _ _ _ _); refine wpList_storeNew rfl 45 _ _ rfl #[.int .u32 0, .int .u32 0, .int .i64 0, .int .i64 0, .int .i64 0, .int .i64 0, .int .i64 0, .bool false, .bool false, .int .i64 0, .int .i64 0, .int .i64 0, .int .u32 0, .int .u32 0, .slice none 0 0, .slice none 0 0, .bool false, .int .i64 0, .slice none 0 0] b.cells.toArray (show (Try.prog.info? 45).map (·.size) = some 19 from by kernel_rfl) rfl (by simp [Bf.cells, Value.oneCell']) _ (by first | rfl | simp) rfl rfl ?_) | ((with_reducible show wpList _ _ _ _ _ _); refine wpList_loadAgg rfl 45 _ rfl Try.isAgg45 _ 0 b.cells Try.sizeOf45 rfl boxw_cells ?_) | ((with_reducible refine (HFB.out _ ?_).mono ?_); (· (exact jkc)); rintro e w' ⟨rfl, ⟨osc, dc, rfl⟩⟩))
        exact ⟨⟨a, c + 1, M, rfl, by go_num, Lib.hid (grown_tr HGR.out (grown_junk (by (exact jkc)) _)), Lib.hid (HOW.out.on (by (exact jkc))), HI2, by omega, by omega⟩, by simp [intOf]; omega⟩
      | false =>
        rw [hp] at HFB
        have HI2 := Lib.hid (hI.out.keep hac HB.out hp)
        have haM : a < M.length := by rw [hI.out.len, HL.out]; omega
        go_wp2_with (first | ((with_reducible show wpList _ _ _ _ _ _); refine wpList_loadAgg rfl 45 _ rfl Try.isAgg45 g _ b.cells Try.sizeOf45 rfl HC.out ?_) | ((with_reducible show wpList _ _ _ _ _ _); refine wpList_storeNew rfl 45 _ _ rfl #[.int .u32 0, .int .u32 0, .int .i64 0, .int .i64 0, .int .i64 0, .int .i64 0, .int .i64 0, .bool false, .bool false, .int .i64 0, .int .i64 0, .int .i64 0, .int .u32 0, .int .u32 0, .slice none 0 0, .slice none 0 0, .bool false, .int .i64 0, .slice none 0 0] b.cells.toArray (show (Try.prog.info? 45).map (·.size) = some 19 from by kernel_rfl) rfl (by simp [Bf.cells, Value.oneCell']) _ (by first | rfl | simp) rfl rfl ?_) | ((with_reducible show wpList _ _ _ _ _ _); refine wpList_loadAgg rfl 45 _ rfl Try.isAgg45 _ 0 b.cells Try.sizeOf45 rfl boxw_cells ?_) | ((with_reducible refine (HFB.out _ ?_).mono ?_); (· (exact jkc)); rintro e w' ⟨rfl, ⟨osc, dc, rfl⟩⟩) | ((with_reducible show wpList _ _ _ _ _ _); refine wpList_loadAgg rfl 45 _ rfl Try.isAgg45 _ 0 b.cells Try.sizeOf45 rfl (boxj_cells (by first | rfl | simp)) ?_) | ((with_reducible show wpList _ _ _ _ _ _); refine wpList_storeOwn rfl 45 _ _ rfl (HOW.out.on (show Junk wr _ by (exact jkc))) (a * 19) b.cells.toArray (show (Try.prog.info? 45).map (·.size) = some 19 from by kernel_rfl) rfl rfl (by simp [Bf.cells]; omega) (by rw [List.toList_toArray]; exact b.one) ?_; intro w6 hg6 ho6; have HG6 := Lib.hid (grown_tr (grown_junk (show Junk wr _ by (exact jkc)) (some g)) hg6); have HO6 := Lib.hid ho6; clear hg6 ho6))
        exact ⟨⟨a + 1, c + 1, M.set a b, by go_num, by go_num, Lib.hid (grown_tr HGR.out HG6.out), Lib.hid (by have := HO6.out; rw [bfs_put b haM] at this; exact this), HI2, by omega, by omega⟩, by simp [intOf]; omega⟩
    · have hc2 : ¬ (c : Int) < (l : Int) := by omega
      obtain rfl : c = l := by omega
      have HR := Lib.hid (show M.take a = L.filter (fun x => !pr x.q) by rw [hI.out.front, ← HL.out, List.take_length])
      have hML : M.length = c := by rw [hI.out.len, HL.out]
      have hRl : (L.filter fun x => !pr x.q).length = a := by rw [← HR.out, List.length_take, hML]; omega
      obtain ⟨w5, hr5, ho5, hg5⟩ := run_clear_own (P := Try.prog) HOW.out 29 0 (.agg #[.int .u32 0, .int .u32 0, .int .i64 0, .int .i64 0, .int .i64 0, .int .i64 0, .int .i64 0, .bool false, .bool false, .int .i64 0, .int .i64 0, .int .i64 0, .int .u32 0, .int .u32 0, .slice none 0 0, .slice none 0 0, .bool false, .int .i64 0, .slice none 0 0]) Try.underlying29 (fun w => by kernel_rfl) rfl (by decide) (by decide) a (cap - a) hac
      have e1 : ¬ cap = a := by omega
      have e2 : (a : Int) ≤ (c : Int) := by omega
      have e3 : (a : Int) ≤ (cap : Int) := by omega
      have e4 : a ≤ cap := by omega
      have HG5 := Lib.hid (grown_tr HGR.out hg5)
      have HJ5 := Lib.hid (below_of_grown HJ.out HG5.out (fun q hq => by cases hq; exact HGE.out))
      have HO5 := Lib.hid ho5
      have HRL := Lib.hid hRl
      clear hRl hg5 ho5
      go_wp2
      go_ret
      refine ⟨by rw [HRL.out]; rfl, HJ5.out.trans (by (exact jkc)), grown_tr HG5.out (grown_junk (by (exact jkc)) _), ?_⟩
      have h := HO5.out.on (Junk.refl w5)
      rw [bfsL_take, HR.out] at h
      rw [HRL.out]
      exact h
theorem delF_any (f : Nat) (v1 : Array Value) (oa : Option Addr) (l cap : Nat) (L : List Bf) (pr : Bq → Bool) (W0 w : World) (hl : l ≤ 1000000) (hL : L.length = l) (hj : Junk W0 w) (hO : Own W0.heap.size w 45 19 oa cap l (bfsL L)) (hf : PrGs f v1 w oa L pr) (hfn : ∀ args w, (callFunc f args).run Try.prog w = .ok (.enter f args) w) :
    Calls Try.prog 35 #[.slice oa l cap, .func (.func f) #[] v1] w (DelM W0 w oa cap (L.filter fun x => !pr x.q)) := by
  cases hi : (L.map Bf.q).findIdx? pr with
  | none => exact delF_none f v1 oa l cap L pr W0 w hl hL hj hO hf hfn hi
  | some k =>
    obtain ⟨g, rfl⟩ : ∃ g, oa = some ⟨g, 0, none⟩ := by
      have hk := (List.findIdx?_eq_some_iff_getElem.1 hi).1
      rw [List.length_map] at hk
      rcases hO.form with ⟨_, h, _⟩ | ⟨g, cur, h, _⟩
      · omega
      · exact ⟨g, h⟩
    exact delF_some f v1 g l cap k L pr W0 w hl hL hj hO hf hfn hi
end Go.Proofs.Ytgjppmkadmfibaa
