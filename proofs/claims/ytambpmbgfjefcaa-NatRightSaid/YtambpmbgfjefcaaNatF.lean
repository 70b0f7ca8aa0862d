/- nat.Ask. -/
import Derived.Test.YtambpmbgfjefcaaNatE
import Derived.Test.YtambpmbgfjefcaaNatD
set_option linter.unusedVariables false
set_option maxRecDepth 100000
set_option linter.unusedSimpArgs false
namespace Go.Proofs.Ytambpmbgfjefcaa
open Go.RowKit
def later (t : Int) (x : Ln) : Ln := { x with till := if x.till < t then t else x.till }
def askP (lo hi : Int) (L : List Ln) (x : Ln) (D : Nat) : List Ln × Int × Int :=
  if (natRight lo hi L && namedB x) = false then (L, 0, 1) else
  match L.findIdx? (innerB x) with
  | some k => match L[k]? with
    | some y => (L.set k (later x.till y), y.port, 0)
    | none => (L, 0, 0)
  | none =>
    let r := poolChoose lo hi (fun i => (takenL L x.proto)[i]?.getD 0) (takenL L x.proto).length x.inport D
    if r.2 then (L ++ [{ x with port := r.1 }], r.1, 0) else (L, 0, 8)
def AskM (w : World) (R : List Ln × Int × Int) (e : Ending) (w' : World) : Prop :=
  ∃ ob cap, e = .returned (.tuple #[.slice ob R.1.length cap, .int .i64 R.2.1, .int .i64 R.2.2]) ∧ Junk w w' ∧ Own w.heap.size w' 39 5 ob cap R.1.length (lnsL R.1) ∧ R.1.length ≤ cap
theorem own_at0 {B : Nat} {w : World} {e : TypeId} {size : Nat} {oa : Option Addr} {cap n : Nat} {xs : List Value} (h : Own B w e size oa cap n xs) (hn : 0 < n) : ∃ g, oa = some ⟨g, 0, none⟩ := by
  rcases h.form with ⟨_, rfl, _⟩ | ⟨g, cur, rfl, _⟩
  · omega
  · exact ⟨g, rfl⟩
theorem own_stored {B : Nat} {w : World} {e : TypeId} {size g cap n : Nat} {xs : List Value} (h : Own B w e size (some ⟨g, 0, none⟩) cap n xs) (j : Nat) (u : Value) : Own B (w.setCell ⟨g, j, none⟩ u) e size (some ⟨g, 0, none⟩) cap n (xs.set j u) := (World.ownsRow.stored h j u).1
theorem own_ge {B : Nat} {w : World} {e : TypeId} {size : Nat} {g cap n : Nat} {xs : List Value} (h : Own B w e size (some ⟨g, 0, none⟩) cap n xs) : B ≤ g := by
  rcases h.form with ⟨h0, _⟩ | ⟨g', cur, h0, hb, _⟩
  · cases h0
  · cases h0; exact hb
theorem lnsL_till {t : Int} : ∀ {L : List Ln} {k : Nat} {y : Ln}, L[k]? = some y → (lnsL L).set (k * 5 + 4) (.int .i64 (if y.till < t then t else y.till)) = lnsL (L.set k (later t y))
  | [], k, y, h => by simp at h
  | x :: L, 0, y, h => by
    simp only [List.getElem?_cons_zero, Option.some.injEq] at h
    subst h
    rw [lnsL_cons, List.set_append_left _ _ (by rw [Ln.cells_len]; omega)]
    rfl
  | x :: L, k + 1, y, h => by
    rw [List.getElem?_cons_succ] at h
    rw [lnsL_cons, List.set_append_right _ _ (by rw [Ln.cells_len]; omega), Ln.cells_len, show (k + 1) * 5 + 4 - 5 = k * 5 + 4 by omega, lnsL_till h]
    rfl
set_option maxHeartbeats 4000000 in
theorem ask_bad (lo hi : Int) (oa : Option Addr) (l c : Nat) (L : List Ln) (x : Ln) (D : Nat) (w : World) (hl : l ≤ 1000000) (hlc : l ≤ c) (hL : L.length = l) (hS : LsAt w oa L) (hn : oa = none → l = 0 ∧ c = 0) (hb : (natRight lo hi L && namedB x) = false) :
    Calls Try.prog 20 #[.slice oa l c, .int .i64 lo, .int .i64 hi, x.val, .int .u32 (D : Int)] w (AskM w (askP lo hi L x D)) := by
  have HR := Lib.hid (show askP lo hi L x D = (L, 0, 1) by unfold askP; rw [if_pos hb])
  rw [HR.out]
  have HS := Lib.hid hS
  have HL := Lib.hid hL
  have HN := Lib.hid hn
  have RT := Lib.hid (fun w1 h1 => natRight_any lo hi oa l c L w1 hl hlc hL h1)
  have NM := Lib.hid (fun w1 => named_any x w1)
  generalize natRight lo hi L = R1 at hb RT
  generalize namedB x = R2 at hb NM
  obtain ⟨xp, xi, xn, xo, xt⟩ := x
  clear hS hL hn
  cases R1 with
  | false =>
    go_enter Try.func20, Try.ntmps20
    go_wp2_with (first
      | (go_at_call 39; refine (cloneL_any oa l c L _ hl HL.out (HS.out.on (by ((try simp only [World.junk_junk, Array.append_assoc]); (repeat (first | with_reducible exact Junk.refl _ | with_reducible exact Junk.app _ _ _ _ _ | with_reducible exact Junk.app2 _ _ _ _ _ _ | with_reducible exact Junk.app3 _ _ _ _ _ _ _ | with_reducible exact Junk.app4 _ _ _ _ _ _ _ _ | with_reducible exact Junk.app5 _ _ _ _ _ _ _ _ _ | with_reducible apply Junk.alloc | with_reducible apply Junk.junk | with_reducible apply Junk.drew | with_reducible apply Junk.drewN))))) HN.out).mono ?_; rintro e w' ⟨ob, cap, rfl, ⟨osj, dj, rfl⟩, hown⟩; have Hown := Lib.hid hown; clear hown)
      | (go_at_call 19; refine (RT.out _ (HS.out.on (by ((try simp only [World.junk_junk, Array.append_assoc]); (repeat (first | with_reducible exact Junk.refl _ | with_reducible exact Junk.app _ _ _ _ _ | with_reducible exact Junk.app2 _ _ _ _ _ _ | with_reducible exact Junk.app3 _ _ _ _ _ _ _ | with_reducible exact Junk.app4 _ _ _ _ _ _ _ _ | with_reducible exact Junk.app5 _ _ _ _ _ _ _ _ _ | with_reducible apply Junk.alloc | with_reducible apply Junk.junk | with_reducible apply Junk.drew | with_reducible apply Junk.drewN)))))).mono ?_; rintro e w' ⟨rfl, ⟨osr, dr, rfl⟩⟩)
      | (go_at_call 34; refine (NM.out _).mono ?_; rintro e w' ⟨rfl, ⟨osn, dn, rfl⟩⟩))
    go_returns
    exact ⟨ob, cap, by rw [HL.out]; rfl, by ((try simp only [World.junk_junk, Array.append_assoc]); (repeat (first | with_reducible exact Junk.refl _ | with_reducible exact Junk.app _ _ _ _ _ | with_reducible exact Junk.app2 _ _ _ _ _ _ | with_reducible exact Junk.app3 _ _ _ _ _ _ _ | with_reducible exact Junk.app4 _ _ _ _ _ _ _ _ | with_reducible exact Junk.app5 _ _ _ _ _ _ _ _ _ | with_reducible apply Junk.alloc | with_reducible apply Junk.junk | with_reducible apply Junk.drew | with_reducible apply Junk.drewN))), by show Own _ _ _ _ _ _ L.length (lnsL L); rw [HL.out]; exact (Hown.out.on (by ((try simp only [World.junk_junk, Array.append_assoc]); (repeat (first | with_reducible exact Junk.refl _ | with_reducible exact Junk.app _ _ _ _ _ | with_reducible exact Junk.app2 _ _ _ _ _ _ | with_reducible exact Junk.app3 _ _ _ _ _ _ _ | with_reducible exact Junk.app4 _ _ _ _ _ _ _ _ | with_reducible exact Junk.app5 _ _ _ _ _ _ _ _ _ | with_reducible apply Junk.alloc | with_reducible apply Junk.junk | with_reducible apply Junk.drew | with_reducible apply Junk.drewN))))).lower (by simp), by show L.length ≤ cap; rw [HL.out]; exact Hown.out.capLe.1⟩
  | true =>
    cases hb
    go_enter Try.func20, Try.ntmps20
    go_wp2_with (first
      | (go_at_call 39; refine (cloneL_any oa l c L _ hl HL.out (HS.out.on (by ((try simp only [World.junk_junk, Array.append_assoc]); (repeat (first | with_reducible exact Junk.refl _ | with_reducible exact Junk.app _ _ _ _ _ | with_reducible exact Junk.app2 _ _ _ _ _ _ | with_reducible exact Junk.app3 _ _ _ _ _ _ _ | with_reducible exact Junk.app4 _ _ _ _ _ _ _ _ | with_reducible exact Junk.app5 _ _ _ _ _ _ _ _ _ | with_reducible apply Junk.alloc | with_reducible apply Junk.junk | with_reducible apply Junk.drew | with_reducible apply Junk.drewN))))) HN.out).mono ?_; rintro e w' ⟨ob, cap, rfl, ⟨osj, dj, rfl⟩, hown⟩; have Hown := Lib.hid hown; clear hown)
      | (go_at_call 19; refine (RT.out _ (HS.out.on (by ((try simp only [World.junk_junk, Array.append_assoc]); (repeat (first | with_reducible exact Junk.refl _ | with_reducible exact Junk.app _ _ _ _ _ | with_reducible exact Junk.app2 _ _ _ _ _ _ | with_reducible exact Junk.app3 _ _ _ _ _ _ _ | with_reducible exact Junk.app4 _ _ _ _ _ _ _ _ | with_reducible exact Junk.app5 _ _ _ _ _ _ _ _ _ | with_reducible apply Junk.alloc | with_reducible apply Junk.junk | with_reducible apply Junk.drew | with_reducible apply Junk.drewN)))))).mono ?_; rintro e w' ⟨rfl, ⟨osr, dr, rfl⟩⟩)
      | (go_at_call 34; refine (NM.out _).mono ?_; rintro e w' ⟨rfl, ⟨osn, dn, rfl⟩⟩))
    go_returns
    exact ⟨ob, cap, by rw [HL.out]; rfl, by ((try simp only [World.junk_junk, Array.append_assoc]); (repeat (first | with_reducible exact Junk.refl _ | with_reducible exact Junk.app _ _ _ _ _ | with_reducible exact Junk.app2 _ _ _ _ _ _ | with_reducible exact Junk.app3 _ _ _ _ _ _ _ | with_reducible exact Junk.app4 _ _ _ _ _ _ _ _ | with_reducible exact Junk.app5 _ _ _ _ _ _ _ _ _ | with_reducible apply Junk.alloc | with_reducible apply Junk.junk | with_reducible apply Junk.drew | with_reducible apply Junk.drewN))), by show Own _ _ _ _ _ _ L.length (lnsL L); rw [HL.out]; exact (Hown.out.on (by ((try simp only [World.junk_junk, Array.append_assoc]); (repeat (first | with_reducible exact Junk.refl _ | with_reducible exact Junk.app _ _ _ _ _ | with_reducible exact Junk.app2 _ _ _ _ _ _ | with_reducible exact Junk.app3 _ _ _ _ _ _ _ | with_reducible exact Junk.app4 _ _ _ _ _ _ _ _ | with_reducible exact Junk.app5 _ _ _ _ _ _ _ _ _ | with_reducible apply Junk.alloc | with_reducible apply Junk.junk | with_reducible apply Junk.drew | with_reducible apply Junk.drewN))))).lower (by simp), by show L.length ≤ cap; rw [HL.out]; exact Hown.out.capLe.1⟩
set_option maxHeartbeats 4000000 in
theorem ask_old (lo hi : Int) (oa : Option Addr) (l c : Nat) (L : List Ln) (x : Ln) (D k : Nat) (w : World) (hl : l ≤ 1000000) (hlc : l ≤ c) (hL : L.length = l) (hS : LsAt w oa L) (hn : oa = none → l = 0 ∧ c = 0) (h1 : natRight lo hi L = true) (h2 : namedB x = true) (hf : L.findIdx? (innerB x) = some k) :
    Calls Try.prog 20 #[.slice oa l c, .int .i64 lo, .int .i64 hi, x.val, .int .u32 (D : Int)] w (AskM w (askP lo hi L x D)) := by
  have hk : k < l := by rw [← hL]; exact (List.findIdx?_eq_some_iff_getElem.1 hf).1
  obtain ⟨y, hy⟩ : ∃ y, L[k]? = some y := ⟨_, List.getElem?_eq_getElem (by omega)⟩
  have HR := Lib.hid (show askP lo hi L x D = (L.set k (later x.till y), y.port, 0) by unfold askP; rw [if_neg (by simp [h1, h2]), hf]; simp only [hy])
  rw [HR.out]
  have HS := Lib.hid hS
  have HL := Lib.hid hL
  have HN := Lib.hid hn
  have rt := (fun w1 h1 => natRight_any lo hi oa l c L w1 hl hlc hL h1)
  have nm := (fun w1 => named_any x w1)
  rw [h1] at rt
  rw [h2] at nm
  have RT := Lib.hid rt
  have NM := Lib.hid nm
  have FI := Lib.hid (show idxI (L.findIdx? (innerB x)) = (k : Int) by rw [hf]; rfl)
  have HY := Lib.hid hy
  have hk2 : (k : Int) < (l : Int) := by omega
  obtain ⟨xp, xi, xn, xo, xt⟩ := x
  clear hS hL hn rt nm h1 h2 hf hy
  go_enter Try.func20, Try.ntmps20
  go_wp2_with (first
    | (go_at_call 39; refine (cloneL_any oa l c L _ hl HL.out (HS.out.on (by ((try simp only [World.junk_junk, Array.append_assoc]); (repeat (first | with_reducible exact Junk.refl _ | with_reducible exact Junk.app _ _ _ _ _ | with_reducible exact Junk.app2 _ _ _ _ _ _ | with_reducible exact Junk.app3 _ _ _ _ _ _ _ | with_reducible exact Junk.app4 _ _ _ _ _ _ _ _ | with_reducible exact Junk.app5 _ _ _ _ _ _ _ _ _ | with_reducible apply Junk.alloc | with_reducible apply Junk.junk | with_reducible apply Junk.drew | with_reducible apply Junk.drewN))))) HN.out).mono ?_; rintro e w' ⟨ob, cap, rfl, ⟨osj, dj, rfl⟩, hown⟩; have Hown := Lib.hid hown; clear hown)
    | (go_at_call 19; refine (RT.out _ (HS.out.on (by ((try simp only [World.junk_junk, Array.append_assoc]); (repeat (first | with_reducible exact Junk.refl _ | with_reducible exact Junk.app _ _ _ _ _ | with_reducible exact Junk.app2 _ _ _ _ _ _ | with_reducible exact Junk.app3 _ _ _ _ _ _ _ | with_reducible exact Junk.app4 _ _ _ _ _ _ _ _ | with_reducible exact Junk.app5 _ _ _ _ _ _ _ _ _ | with_reducible apply Junk.alloc | with_reducible apply Junk.junk | with_reducible apply Junk.drew | with_reducible apply Junk.drewN)))))).mono ?_; rintro e w' ⟨rfl, ⟨osr, dr, rfl⟩⟩)
    | (go_at_call 34; refine (NM.out _).mono ?_; rintro e w' ⟨rfl, ⟨osn, dn, rfl⟩⟩)
    | (go_at_call 36; refine (find_inner ⟨xp, xi, xn, xo, xt⟩ ob l cap L _ hl HL.out ((own_ls Hown.out).on (by ((try simp only [World.junk_junk, Array.append_assoc]); (repeat (first | with_reducible exact Junk.refl _ | with_reducible exact Junk.app _ _ _ _ _ | with_reducible exact Junk.app2 _ _ _ _ _ _ | with_reducible exact Junk.app3 _ _ _ _ _ _ _ | with_reducible exact Junk.app4 _ _ _ _ _ _ _ _ | with_reducible exact Junk.app5 _ _ _ _ _ _ _ _ _ | with_reducible apply Junk.alloc | with_reducible apply Junk.junk | with_reducible apply Junk.drew | with_reducible apply Junk.drewN)))))).mono ?_; rintro e w' ⟨rfl, ⟨osf, df, rfl⟩⟩; rw [FI.out]))
  obtain ⟨g, rfl⟩ := own_at0 Hown.out (by omega)
  have hj : Junk w ((w.alloc (.cells #[.int .i64 xp, .int .u32 xi, .int .i64 xn, .int .i64 xo, .int .i64 xt] 39)).junk (osj ++ (osr ++ (osn ++ osf))) df) := by ((try simp only [World.junk_junk, Array.append_assoc]); (repeat (first | with_reducible exact Junk.refl _ | with_reducible exact Junk.app _ _ _ _ _ | with_reducible exact Junk.app2 _ _ _ _ _ _ | with_reducible exact Junk.app3 _ _ _ _ _ _ _ | with_reducible exact Junk.app4 _ _ _ _ _ _ _ _ | with_reducible exact Junk.app5 _ _ _ _ _ _ _ _ _ | with_reducible apply Junk.alloc | with_reducible apply Junk.junk | with_reducible apply Junk.drew | with_reducible apply Junk.drewN)))
  have ho : Own w.heap.size ((w.alloc (.cells #[.int .i64 xp, .int .u32 xi, .int .i64 xn, .int .i64 xo, .int .i64 xt] 39)).junk (osj ++ (osr ++ (osn ++ osf))) df) 39 5 (some ⟨g, 0, none⟩) cap l (lnsL L) := (Hown.out.on (by ((try simp only [World.junk_junk, Array.append_assoc]); (repeat (first | with_reducible exact Junk.refl _ | with_reducible exact Junk.app _ _ _ _ _ | with_reducible exact Junk.app2 _ _ _ _ _ _ | with_reducible exact Junk.app3 _ _ _ _ _ _ _ | with_reducible exact Junk.app4 _ _ _ _ _ _ _ _ | with_reducible exact Junk.app5 _ _ _ _ _ _ _ _ _ | with_reducible apply Junk.alloc | with_reducible apply Junk.junk | with_reducible apply Junk.drew | with_reducible apply Junk.drewN))))).lower (by simp)
  have hx4 : ((w.alloc (.cells #[.int .i64 xp, .int .u32 xi, .int .i64 xn, .int .i64 xo, .int .i64 xt] 39)).junk (osj ++ (osr ++ (osn ++ osf))) df).cell? ⟨w.heap.size, 4, none⟩ = some (.int .i64 xt) := by simp [go_sem]
  have hsz : w.heap.size < ((w.alloc (.cells #[.int .i64 xp, .int .u32 xi, .int .i64 xn, .int .i64 xo, .int .i64 xt] 39)).junk (osj ++ (osr ++ (osn ++ osf))) df).heap.size := by simp; omega
  generalize (w.alloc (.cells #[.int .i64 xp, .int .u32 xi, .int .i64 xn, .int .i64 xo, .int .i64 xt] 39)).junk (osj ++ (osr ++ (osn ++ osf))) df = V at hj ho hx4 hsz
  obtain ⟨b, off, he, hg, c0, c1, c2, c3, c4⟩ := own_ls ho k y HY.out
  cases he
  rw [Nat.zero_add] at c0 c1 c2 c3 c4
  have hfz : V.frozen? ⟨g, k * 5 + 4, none⟩ = false := World.ownsRow.frozenAt ho (k * 5 + 4)
  have HJ := Lib.hid hj
  have HO := Lib.hid ho
  clear hj ho Hown
  refine wp_region_mixl (V) 12 [(0, true), (1, true), (2, true), (3, true), (4, true), (5, true), (6, true), (7, true), (8, true), (9, true), (10, true), (11, true), (12, false)] (by kernel_rfl) (by kernel_rfl) (by (repeat (first | with_reducible exact Junk.refl _ | with_reducible exact Junk.app _ _ _ _ _ | with_reducible apply Junk.alloc | with_reducible apply Junk.junk | with_reducible apply Junk.drew | with_reducible apply Junk.drewN))) ?_; (iterate 12 (refine wpMixL_q rfl (fun K hK => ?_); (go_simp; try go_bits); (refine hK _ ?_; clear hK K))); refine wpMixL_last rfl (fun osm6_0 dm6_0 K hK => ?_); (go_simp; try go_bits); refine hK _ _ ?_; clear hK K; refine wpMixL_nil (fun osm dm => ?_)
  have hset := lnsL_till (t := xt) HY.out
  generalize (if y.till < xt then xt else y.till) = T at hset
  have hn := own_stored HO.out (k * 5 + 4) (.int .i64 T)
  rw [hset] at hn
  have hjn : Junk w (V.setCell ⟨g, k * 5 + 4, none⟩ (.int .i64 T)) := HJ.out.setCell (own_ge HO.out) _
  have hg2 : g < (V.setCell ⟨g, k * 5 + 4, none⟩ (.int .i64 T)).heap.size := by simpa using hg
  generalize V.setCell ⟨g, k * 5 + 4, none⟩ (.int .i64 T) = V2 at hn hjn hg2
  obtain ⟨b, off, he, hg3, e0, e1, e2, e3, e4⟩ := own_ls hn k (later xt y) (by simp [List.getElem?_set, show k < L.length by rw [HL.out]; exact hk])
  cases he
  rw [Nat.zero_add] at e0 e1 e2 e3 e4
  have e5 : V2.cell? ⟨g, k * 5 + 3, none⟩ = some (.int .i64 y.port) := e3
  have HJ2 := Lib.hid hjn
  have HO2 := Lib.hid hn
  clear hn hjn HO HJ c0 c1 c2 c3 c4 e0 e1 e2 e3 e4 hset hfz hx4 hsz hg hg3
  go_wp2
  refine wp_region_junk (by kernel_rfl) (by kernel_rfl) ?_; (repeat (refine wpQuiet_step (fun K hK => ?_); (go_simp; try go_bits); first | (refine hK _ ?_; clear hK K) | (apply Exists.intro; refine ⟨fun _ => ?_, hK _ ?_⟩; (first | fail); clear hK K))); refine wpQuiet_nil ?_; rintro _ ⟨⟨osq, dq⟩, rfl⟩
  go_wp2
  go_returns
  have hlen : (L.set k (later xt y)).length = l := by rw [List.length_set, HL.out]
  exact ⟨some ⟨g, 0, none⟩, cap, by rw [show (L.set k (later xt y), y.port, (0 : Int)).1.length = l from hlen]; rfl, HJ2.out.trans (by ((try simp only [World.junk_junk, Array.append_assoc]); (repeat (first | with_reducible exact Junk.refl _ | with_reducible exact Junk.app _ _ _ _ _ | with_reducible exact Junk.app2 _ _ _ _ _ _ | with_reducible exact Junk.app3 _ _ _ _ _ _ _ | with_reducible exact Junk.app4 _ _ _ _ _ _ _ _ | with_reducible exact Junk.app5 _ _ _ _ _ _ _ _ _ | with_reducible apply Junk.alloc | with_reducible apply Junk.junk | with_reducible apply Junk.drew | with_reducible apply Junk.drewN)))), by rw [show (L.set k (later xt y), y.port, (0 : Int)).1.length = l from hlen]; exact HO2.out.on (by ((try simp only [World.junk_junk, Array.append_assoc]); (repeat (first | with_reducible exact Junk.refl _ | with_reducible exact Junk.app _ _ _ _ _ | with_reducible exact Junk.app2 _ _ _ _ _ _ | with_reducible exact Junk.app3 _ _ _ _ _ _ _ | with_reducible exact Junk.app4 _ _ _ _ _ _ _ _ | with_reducible exact Junk.app5 _ _ _ _ _ _ _ _ _ | with_reducible apply Junk.alloc | with_reducible apply Junk.junk | with_reducible apply Junk.drew | with_reducible apply Junk.drewN)))), by rw [show (L.set k (later xt y), y.port, (0 : Int)).1.length = l from hlen]; exact HO2.out.capLe.1⟩
end Go.Proofs.Ytambpmbgfjefcaa
