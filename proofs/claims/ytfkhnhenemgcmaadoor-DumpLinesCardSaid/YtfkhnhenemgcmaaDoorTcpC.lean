/- Lists of options; what a head's options say; tcp.options. -/
import Derived.Test.YtfkhnhenemgcmaaDoorTcpB
import Derived.Test.YtfkhnhenemgcmaaDoorMix3
import Derived.Test.YtfkhnhenemgcmaaDoorPkG
import Derived.Deep.DeepCutAuto
set_option linter.unusedVariables false
set_option maxRecDepth 100000
set_option linter.unusedSimpArgs false
namespace Go.Proofs.YtfkhnhenemgcmaaDoor
open Go.RowKit
def otsL (F : List Ot) : List Value := (F.map Ot.cells).flatten
theorem Ot.cells_len (f : Ot) : f.cells.length = 2 := rfl
theorem otsL_cons (f : Ot) (F : List Ot) : otsL (f :: F) = f.cells ++ otsL F := rfl
theorem otsL_len : ∀ F : List Ot, (otsL F).length = F.length * 2
  | [] => rfl
  | f :: F => by rw [otsL_cons, List.length_append, otsL_len F, Ot.cells_len, List.length_cons]; omega
theorem otsL_one (F : List Ot) (f : Ot) : otsL F ++ f.cells = otsL (F ++ [f]) := by unfold otsL; rw [List.map_append, List.flatten_append]; simp
theorem otsL_get : ∀ (F : List Ot) (i : Nat) (f : Ot), F[i]? = some f → ∀ j, j < 2 → (otsL F)[i * 2 + j]? = f.cells[j]?
  | [], i, f, h, _, _ => by simp at h
  | g :: F, 0, f, h, j, hj => by
    simp only [List.getElem?_cons_zero, Option.some.injEq] at h
    subst h
    rw [otsL_cons, Nat.zero_mul, Nat.zero_add, List.getElem?_append_left (by rw [Ot.cells_len]; exact hj)]
  | g :: F, i + 1, f, h, j, hj => by
    rw [List.getElem?_cons_succ] at h
    rw [otsL_cons, List.getElem?_append_right (by rw [Ot.cells_len]; omega), Ot.cells_len, show (i + 1) * 2 + j - 2 = i * 2 + j by omega]
    exact otsL_get F i f h j hj
theorem Ot.one (f : Ot) : ∀ u ∈ f.cells, u.oneCell' = true := by intro u hu; simp only [Ot.cells, List.mem_cons, List.not_mem_nil, or_false] at hu; rcases hu with rfl | rfl <;> rfl
def Ot.At (w : World) (f : Ot) : Prop := Bts w f.oa f.l f.c f.xs
def Ot.Off (row : Option Nat) (f : Ot) : Prop := Go.Off row f.oa f.l
theorem own_os {B : Nat} {w : World} {e : TypeId} {oa : Option Addr} {cap n : Nat} {F : List Ot} (h : Own B w e 2 oa cap n (otsL F)) (hA : ∀ f ∈ F, f.At w) : OsAt w oa F := fun i f hf => by
  have hk : ∀ k v, k < 2 → f.cells[k]? = some v → ∃ g, oa = some ⟨g, 0, none⟩ ∧ g < w.heap.size ∧ w.cell? ⟨g, 0 + i * 2 + k, none⟩ = some v := fun k v hk hv => by
    obtain ⟨g', h1, _, h3, h2, _⟩ := h.cells (i * 2 + k) v (by rw [otsL_get F i f hf k hk]; exact hv)
    exact ⟨g', h1, h3, by rw [Nat.zero_add]; exact h2⟩
  obtain ⟨g, h1, h2, c0⟩ := hk 0 _ (by decide) rfl
  obtain ⟨g1, e1, _, c1⟩ := hk 1 _ (by decide) rfl
  rw [h1] at e1
  cases e1
  exact ⟨g, 0, h1, h2, c0, c1, hA f (List.mem_of_getElem? hf)⟩
theorem own_row2 {B : Nat} {w : World} {e : TypeId} {size : Nat} {oa : Option Addr} {cap n : Nat} {l : List Value} (h : Own B w e size oa cap n l) : ∀ k, rowOf oa = some k → k < w.heap.size := by
  intro k hk
  rcases h.form with ⟨rfl, _⟩ | ⟨g, cur, rfl, _, hg, _⟩
  · cases hk
  · simp only [rowOf, Option.map_some, Option.some.injEq] at hk
    subst hk
    exact (Array.getElem?_eq_some_iff.1 hg).1
theorem keepO {w w' : World} {oa oa' : Option Addr} {L : List Ot} {fn : Ot} (hL : ∀ f ∈ L, f.At w ∧ f.Off (rowOf oa)) (hn : fn.At w) (hno : fn.Off (rowOf oa)) (hg : w.grownBy w' (rowOf oa)) (hrow : rowOf oa' = rowOf oa ∨ rowOf oa' = some w.heap.size) :
    ∀ f ∈ L ++ [fn], f.At w' ∧ f.Off (rowOf oa') := by
  have hall : ∀ f ∈ L ++ [fn], f.At w ∧ f.Off (rowOf oa) := by
    intro f hf
    rcases List.mem_append.1 hf with h | h
    · exact hL f h
    · simp only [List.mem_cons, List.not_mem_nil, or_false] at h; subst h; exact ⟨hn, hno⟩
  intro f hf
  obtain ⟨h1, h2⟩ := hall f hf
  refine ⟨Bts.grown h1 hg h2, ?_⟩
  rcases hrow with h | h
  · rw [h]; exact h2
  · rw [h]; exact fun hl a ha he => by have := Bts.below h1 hl a ha; injection he with he; omega
theorem fresh_off {B : Nat} {oa : Option Addr} {l : Nat} {row : Option Nat} (h : Fresh B oa) (hr : ∀ k, row = some k → k < B) : Go.Off row oa l := fun _ a ha he => by
  have h1 := h a ha
  have h2 := hr _ he.symm
  omega
/-- An option, as data. -/
structure Od where
  k : Int
  l : Nat
  xs : Nat → Int
def Ot.d (f : Ot) : Od := ⟨f.k, f.l, f.xs⟩
def rightD (F : List Od) (k : Int) (l : Nat) : Bool := decide (2 ≤ k ∧ k ≤ 255) && (!knownB k || (okSize k l && !(F.any fun f => f.k == k)))
theorem rightO_d (F : List Ot) (k : Int) (l : Nat) : rightO F k l = rightD (F.map Ot.d) k l := by unfold rightO rightD; rw [List.any_map]; rfl
/-- The options of a head's bytes. -/
def optP (xs : Nat → Int) (S : Nat) : Nat → Nat → List Od → Option (List Od)
  | 0, _, acc => some acc
  | n + 1, a, acc =>
    if S ≤ a ∨ xs a = 0 then some acc
    else if xs a = 1 then optP xs S n (a + 1) acc
    else if S ≤ a + 1 ∨ xs (a + 1) < 2 ∨ (S : Int) < a + xs (a + 1) then none
    else if rightD acc (xs a) (xs (a + 1) - 2).toNat then optP xs S n (a + (xs (a + 1)).toNat) (acc ++ [⟨xs a, (xs (a + 1) - 2).toNat, fun i => xs (a + 2 + i)⟩])
    else none
theorem optP_more (xs : Nat → Int) (S : Nat) : ∀ (n m a : Nat) (acc : List Od), S < n + a → S < m + a → optP xs S n a acc = optP xs S m a acc
  | 0, 0, _, _, _, _ => rfl
  | 0, m + 1, a, acc, h1, h2 => by rw [optP, optP, if_pos (.inl (by omega))]
  | n + 1, 0, a, acc, h1, h2 => by rw [optP, optP, if_pos (.inl (by omega))]
  | n + 1, m + 1, a, acc, h1, h2 => by
    rw [optP, optP]
    by_cases c1 : S ≤ a ∨ xs a = 0
    · rw [if_pos c1, if_pos c1]
    · rw [if_neg c1, if_neg c1, optP_more xs S n m (a + 1) acc (by omega) (by omega)]
      by_cases c2 : S ≤ a + 1 ∨ xs (a + 1) < 2 ∨ (S : Int) < a + xs (a + 1)
      · rw [if_pos c2, if_pos c2]
      · rw [if_neg c2, if_neg c2, optP_more xs S n m _ _ (by omega) (by omega)]
def optR (xs : Nat → Int) (S a : Nat) (acc : List Od) : Option (List Od) := optP xs S (S + 1) a acc
theorem optR_end {xs : Nat → Int} {S a : Nat} {acc : List Od} (h : S ≤ a ∨ xs a = 0) : optR xs S a acc = some acc := by unfold optR; rw [optP, if_pos h]
theorem optR_one {xs : Nat → Int} {S a : Nat} {acc : List Od} (h : ¬ S ≤ a) (h1 : xs a = 1) : optR xs S a acc = optR xs S (a + 1) acc := by
  unfold optR
  rw [optP, if_neg (by omega), if_pos h1]
  exact optP_more _ _ _ _ _ _ (by omega) (by omega)
theorem optR_bad {xs : Nat → Int} {S a : Nat} {acc : List Od} (h : ¬ S ≤ a) (h0 : xs a ≠ 0) (h1 : xs a ≠ 1) (h2 : S ≤ a + 1 ∨ xs (a + 1) < 2 ∨ (S : Int) < a + xs (a + 1)) : optR xs S a acc = none := by
  unfold optR
  rw [optP, if_neg (by omega), if_neg h1, if_pos h2]
theorem optR_wrong {xs : Nat → Int} {S a : Nat} {acc : List Od} (h : ¬ S ≤ a) (h0 : xs a ≠ 0) (h1 : xs a ≠ 1) (h2 : ¬ (S ≤ a + 1 ∨ xs (a + 1) < 2 ∨ (S : Int) < a + xs (a + 1))) (h3 : rightD acc (xs a) (xs (a + 1) - 2).toNat = false) : optR xs S a acc = none := by
  unfold optR
  rw [optP, if_neg (by omega), if_neg h1, if_neg h2, h3]
  rfl
theorem optR_good {xs : Nat → Int} {S a : Nat} {acc : List Od} (h : ¬ S ≤ a) (h0 : xs a ≠ 0) (h1 : xs a ≠ 1) (h2 : ¬ (S ≤ a + 1 ∨ xs (a + 1) < 2 ∨ (S : Int) < a + xs (a + 1))) (h3 : rightD acc (xs a) (xs (a + 1) - 2).toNat = true) :
    optR xs S a acc = optR xs S (a + (xs (a + 1)).toNat) (acc ++ [⟨xs a, (xs (a + 1) - 2).toNat, fun i => xs (a + 2 + i)⟩]) := by
  unfold optR
  rw [optP, if_neg (by omega), if_neg h1, if_neg h2, h3, if_pos rfl]
  exact optP_more _ _ _ _ _ _ (by omega) (by omega)
def lenOf : Value → Nat
  | .slice _ l _ => l
  | _ => 0
def OptM (w : World) (R : Option (List Od)) (e : Ending) (w' : World) : Prop :=
  Junk w w' ∧ match R with
  | none => e = .returned (.tuple #[.slice none 0 0, .bool false])
  | some P => ∃ (F : List Ot) (oo : Option Addr) (cap : Nat), F.map Ot.d = P ∧ e = .returned (.tuple #[.slice oo F.length cap, .bool true]) ∧ Own w.heap.size w' 59 2 oo cap F.length (otsL F) ∧ ∀ f ∈ F, f.At w' ∧ Fresh w.heap.size f.oa
set_option maxHeartbeats 8000000 in
theorem options_any (ob : Option Addr) (L c : Nat) (xs : Nat → Int) (w : World) (hl : L ≤ 1000) (hB : Bts w ob L c xs) :
    Calls Tryd.prog 60 #[.slice ob L c] w (OptM w (optR xs L 0 [])) := by
  have HB := Lib.hid hB
  have HBY := Lib.hid hB.byte
  clear hB
  obtain ⟨R, hR⟩ : ∃ R, R = optR xs L 0 [] := ⟨_, rfl⟩
  have HR := Lib.hid hR
  rw [← hR]
  clear hR
  go_enter Tryd.func60, Tryd.ntmps60
  go_wp2
  go_loopw [0, 4] (fun v t wr => ∃ (a M c' n cap : Nat) (ob' oo : Option Addr) (F : List Ot), v = .slice ob' M c' ∧ t = .slice oo n cap ∧ Junk w wr ∧ Hid (Bts w ob' M c' (fun k => xs (a + k))) ∧ Own w.heap.size wr 59 2 oo cap n (otsL F) ∧ Hid (∀ f ∈ F, f.At wr ∧ f.Off (rowOf oo)) ∧ Hid (∀ f ∈ F, Fresh w.heap.size f.oa) ∧ Hid (R = optR xs L a (F.map Ot.d)) ∧ a + M = L ∧ n ≤ a) (fun v _ _ => lenOf v)
  case atStart => exact ⟨0, L, c, 0, 0, ob, none, [], rfl, rfl, by ((try simp only [World.junk_junk, Array.append_assoc]); (repeat (first | with_reducible exact Junk.refl _ | with_reducible exact Junk.app _ _ _ _ _ | with_reducible exact Junk.app2 _ _ _ _ _ _ | with_reducible exact Junk.app3 _ _ _ _ _ _ _ | with_reducible exact Junk.app4 _ _ _ _ _ _ _ _ | with_reducible exact Junk.app5 _ _ _ _ _ _ _ _ _ | with_reducible apply Junk.alloc | with_reducible apply Junk.junk | with_reducible apply Junk.drew | with_reducible apply Junk.drewN))), Lib.hid (by simpa using HB.out), Own.nil _ _ _ _, Lib.hid (fun f hf => by cases hf), Lib.hid (fun f hf => by cases hf), Lib.hid HR.out, by omega, by omega⟩
  case round =>
    obtain ⟨a, M, c', n, cap, ob', oo, F, rfl, rfl, hjw, hb, hown, hA, hFr, hQ, haM, hna⟩ := hrel
    have Hown := Lib.hid hown
    have HLN := Lib.hid (show F.length = n by have := hown.len; rw [otsL_len] at this; omega)
    have HJ := Lib.hid hjw
    clear hown hjw
    by_cases hM : 0 < M
    case neg =>
      obtain rfl : M = 0 := by omega
      have HE := Lib.hid (show R = some (F.map Ot.d) by rw [hQ.out, optR_end (.inl (by omega))])
      go_wp2
      go_returns
      exact ⟨HJ.out.trans (by ((try simp only [World.junk_junk, Array.append_assoc]); (repeat (first | with_reducible exact Junk.refl _ | with_reducible exact Junk.app _ _ _ _ _ | with_reducible exact Junk.app2 _ _ _ _ _ _ | with_reducible exact Junk.app3 _ _ _ _ _ _ _ | with_reducible exact Junk.app4 _ _ _ _ _ _ _ _ | with_reducible exact Junk.app5 _ _ _ _ _ _ _ _ _ | with_reducible apply Junk.alloc | with_reducible apply Junk.junk | with_reducible apply Junk.drew | with_reducible apply Junk.drewN)))), by rw [HE.out]; exact ⟨F, oo, cap, rfl, by rw [HLN.out] <;> rfl, by rw [HLN.out]; exact Hown.out, fun f hf => ⟨(hA.out f hf).1, hFr.out f hf⟩⟩⟩
    have hM2 : (0 : Int) < (M : Int) := by omega
    have hMc : M ≤ c' := hb.out.le
    obtain ⟨bb, off, rfl, hbb, b0⟩ := hb.out.at_ 0 hM
    dsimp only at b0
    rw [Nat.add_zero, Nat.add_zero] at b0
    have hy0 := HBY.out a (by omega)
    obtain ⟨y0, hy⟩ : ∃ y, y = xs a := ⟨_, rfl⟩
    rw [← hy] at b0 hy0
    have HY := Lib.hid hy
    obtain ⟨os, d, rfl⟩ := HJ.out
    generalize hV : w.junk os d = V at Hown hA HJ
    have hbV : bb < V.heap.size := by rw [← hV]; simp; omega
    have bV : V.cell? ⟨bb, off, none⟩ = some (.int .u8 y0) := by rw [← hV, World.cell?_junk _ _ _ _ _ hbb]; exact b0
    have HBV := Lib.hid (show Bts V (some ⟨bb, off, none⟩) M c' (fun k => xs (a + k)) from hb.out.on HJ.out)
    clear hy b0 hbb hV
    by_cases h0 : y0 = 0
    · have h0' : (y0 != 0) = false := by simpa using h0
      have HE := Lib.hid (show R = some (F.map Ot.d) by rw [hQ.out, optR_end (.inr (by rw [← HY.out]; exact h0))])
      clear h0
      go_wp2
      go_returns
      exact ⟨HJ.out.trans (by ((try simp only [World.junk_junk, Array.append_assoc]); (repeat (first | with_reducible exact Junk.refl _ | with_reducible exact Junk.app _ _ _ _ _ | with_reducible exact Junk.app2 _ _ _ _ _ _ | with_reducible exact Junk.app3 _ _ _ _ _ _ _ | with_reducible exact Junk.app4 _ _ _ _ _ _ _ _ | with_reducible exact Junk.app5 _ _ _ _ _ _ _ _ _ | with_reducible apply Junk.alloc | with_reducible apply Junk.junk | with_reducible apply Junk.drew | with_reducible apply Junk.drewN)))), by rw [HE.out]; exact ⟨F, oo, cap, rfl, by rw [HLN.out] <;> rfl, by rw [HLN.out]; exact Hown.out.on (by ((try simp only [World.junk_junk, Array.append_assoc]); (repeat (first | with_reducible exact Junk.refl _ | with_reducible exact Junk.app _ _ _ _ _ | with_reducible exact Junk.app2 _ _ _ _ _ _ | with_reducible exact Junk.app3 _ _ _ _ _ _ _ | with_reducible exact Junk.app4 _ _ _ _ _ _ _ _ | with_reducible exact Junk.app5 _ _ _ _ _ _ _ _ _ | with_reducible apply Junk.alloc | with_reducible apply Junk.junk | with_reducible apply Junk.drew | with_reducible apply Junk.drewN)))), fun f hf => ⟨Bts.on (hA.out f hf).1 (by ((try simp only [World.junk_junk, Array.append_assoc]); (repeat (first | with_reducible exact Junk.refl _ | with_reducible exact Junk.app _ _ _ _ _ | with_reducible exact Junk.app2 _ _ _ _ _ _ | with_reducible exact Junk.app3 _ _ _ _ _ _ _ | with_reducible exact Junk.app4 _ _ _ _ _ _ _ _ | with_reducible exact Junk.app5 _ _ _ _ _ _ _ _ _ | with_reducible apply Junk.alloc | with_reducible apply Junk.junk | with_reducible apply Junk.drew | with_reducible apply Junk.drewN)))), hFr.out f hf⟩⟩⟩
    have h0' : (y0 != 0) = true := by simpa using h0
    by_cases h1 : y0 = 1
    · have h1' : (y0 == 1) = true := by simpa using h1
      have HQ2 := Lib.hid (show R = optR xs L (a + 1) (F.map Ot.d) by rw [hQ.out, optR_one (by omega) (by rw [← HY.out]; exact h1)])
      have hc1 : 1 ≤ c' := by omega
      have hM1 : (1 : Int) ≤ (M : Int) := by omega
      have HB2 := Lib.hid (bts_sub hb.out 1 M (by omega) (by omega))
      clear h0 h1
      generalize hadr : (if c' = 1 then (some (⟨bb, off, none⟩ : Addr)) else some ⟨bb, off + 1, none⟩) = adr at HB2
      go_wp2
      have HB3 := Lib.hid (show Bts w adr (M - 1) (c' - 1) (fun k => xs (a + 1 + k)) by have := HB2.out; simpa only [Nat.add_assoc] using this)
      exact ⟨⟨a + 1, M - 1, c' - 1, n, cap, adr, oo, F, rfl, rfl, HJ.out, HB3, Hown.out, hA, hFr, HQ2, by omega, by omega⟩, by simp [lenOf]; omega⟩
    have h1' : (y0 == 1) = false := by simpa using h1
    by_cases h2 : 2 ≤ M
    case neg =>
      have h2' : (M : Int) < 2 := by omega
      have HE := Lib.hid (show R = none by rw [hQ.out]; exact optR_bad (by omega) (by rw [← HY.out]; exact h0) (by rw [← HY.out]; exact h1) (.inl (by omega)))
      clear h0 h1
      go_wp2
      go_returns
      exact ⟨HJ.out.trans (by ((try simp only [World.junk_junk, Array.append_assoc]); (repeat (first | with_reducible exact Junk.refl _ | with_reducible exact Junk.app _ _ _ _ _ | with_reducible exact Junk.app2 _ _ _ _ _ _ | with_reducible exact Junk.app3 _ _ _ _ _ _ _ | with_reducible exact Junk.app4 _ _ _ _ _ _ _ _ | with_reducible exact Junk.app5 _ _ _ _ _ _ _ _ _ | with_reducible apply Junk.alloc | with_reducible apply Junk.junk | with_reducible apply Junk.drew | with_reducible apply Junk.drewN)))), by rw [HE.out] <;> rfl⟩
    have h2' : ¬ (M : Int) < 2 := by omega
    have h2m : (1 : Int) < (M : Int) := by omega
    have h2n : 1 < M := by omega
    obtain ⟨bx, offx, hex, _, b1⟩ := HBV.out.at_ 1 (by omega)
    cases hex
    dsimp only at b1
    have hy1 := HBY.out (a + 1) (by omega)
    obtain ⟨Y, hYY⟩ : ∃ Y : Nat, xs (a + 1) = (Y : Int) := ⟨(xs (a + 1)).toNat, by omega⟩
    rw [hYY] at b1 hy1
    have HY1 := Lib.hid hYY
    clear hYY
    by_cases h3 : 2 ≤ Y
    case neg =>
      have h3' : (Y : Int) < 2 := by omega
      have HE := Lib.hid (show R = none by rw [hQ.out]; exact optR_bad (by omega) (by rw [← HY.out]; exact h0) (by rw [← HY.out]; exact h1) (.inr (.inl (by rw [HY1.out]; omega))))
      clear h0 h1
      go_wp2
      go_returns
      exact ⟨HJ.out.trans (by ((try simp only [World.junk_junk, Array.append_assoc]); (repeat (first | with_reducible exact Junk.refl _ | with_reducible exact Junk.app _ _ _ _ _ | with_reducible exact Junk.app2 _ _ _ _ _ _ | with_reducible exact Junk.app3 _ _ _ _ _ _ _ | with_reducible exact Junk.app4 _ _ _ _ _ _ _ _ | with_reducible exact Junk.app5 _ _ _ _ _ _ _ _ _ | with_reducible apply Junk.alloc | with_reducible apply Junk.junk | with_reducible apply Junk.drew | with_reducible apply Junk.drewN)))), by rw [HE.out] <;> rfl⟩
    have h3' : ¬ (Y : Int) < 2 := by omega
    by_cases h4 : Y ≤ M
    case neg =>
      have h4' : (M : Int) < (Y : Int) := by omega
      have HE := Lib.hid (show R = none by rw [hQ.out]; exact optR_bad (by omega) (by rw [← HY.out]; exact h0) (by rw [← HY.out]; exact h1) (.inr (.inr (by rw [HY1.out]; omega))))
      clear h0 h1
      go_wp2
      go_returns
      exact ⟨HJ.out.trans (by ((try simp only [World.junk_junk, Array.append_assoc]); (repeat (first | with_reducible exact Junk.refl _ | with_reducible exact Junk.app _ _ _ _ _ | with_reducible exact Junk.app2 _ _ _ _ _ _ | with_reducible exact Junk.app3 _ _ _ _ _ _ _ | with_reducible exact Junk.app4 _ _ _ _ _ _ _ _ | with_reducible exact Junk.app5 _ _ _ _ _ _ _ _ _ | with_reducible apply Junk.alloc | with_reducible apply Junk.junk | with_reducible apply Junk.drew | with_reducible apply Junk.drewN)))), by rw [HE.out] <;> rfl⟩
    have h4' : ¬ (M : Int) < (Y : Int) := by omega
    have HGOOD := Lib.hid (fun h => optR_good (acc := F.map Ot.d) (show ¬ L ≤ a by omega) (by rw [← HY.out]; exact h0) (by rw [← HY.out]; exact h1) (show ¬ (L ≤ a + 1 ∨ xs (a + 1) < 2 ∨ (L : Int) < a + xs (a + 1)) by rw [HY1.out]; omega) h)
    have HWRONG := Lib.hid (fun h => optR_wrong (acc := F.map Ot.d) (show ¬ L ≤ a by omega) (by rw [← HY.out]; exact h0) (by rw [← HY.out]; exact h1) (show ¬ (L ≤ a + 1 ∨ xs (a + 1) < 2 ∨ (L : Int) < a + xs (a + 1)) by rw [HY1.out]; omega) h)
    have hc2 : 2 ≤ c' := by omega
    have h23 : (2 : Int) ≤ (Y : Int) := by omega
    have hYc : (Y : Int) ≤ (c' : Int) := by omega
    have hYc2 : Y ≤ c' := by omega
    have HSUB := Lib.hid (bts_sub HBV.out 2 Y h3 h4)
    clear h0 h1
    go_upto_region 7 with (fail)
    generalize hadr : (if c' = 2 then (some (⟨bb, off, none⟩ : Addr)) else some ⟨bb, off + 2, none⟩) = adr at HSUB
    go_cut [5] (fun p wx => ∃ (g cc : Nat) (oc : Option Addr), p = .pointer (some ⟨g, 0, none⟩) ∧ Junk V wx ∧ g < wx.heap.size ∧ wx.cell? ⟨g, 0, none⟩ = some (.int .i64 y0) ∧ wx.cell? ⟨g, 1, none⟩ = some (.slice oc (Y - 2) cc) ∧ Hid (Bts wx oc (Y - 2) cc (fun i => xs (a + (2 + i)))) ∧ Hid (Fresh V.heap.size oc))
    case first =>
      refine wp_region_mixTj (V) (.q 0 (.q 1 (.q 2 (.q 3 (.q 4 (.q 5 (.q 6 (.q 7 (.q 8 (.two 9 (.q 10 (.e 11 (.e 12 .nil))) 11 (.e 9 (.q 10 (.e 12 .nil))))))))))))) (by kernel_rfl) (by kernel_rfl) (by (repeat (first | with_reducible exact Junk.refl _ | with_reducible exact Junk.app _ _ _ _ _ | with_reducible apply Junk.alloc | with_reducible apply Junk.junk | with_reducible apply Junk.drew | with_reducible apply Junk.drewN))) ?_; refine wpMixT_q rfl (fun K hK => ?_); (go_simp; try go_bits); (refine hK _ ?_; clear hK K); refine wpMixT_q rfl (fun K hK => ?_); (go_simp; try go_bits); (refine hK _ ?_; clear hK K); refine wpMixT_q rfl (fun K hK => ?_); (go_simp; try go_bits); (refine hK _ ?_; clear hK K); refine wpMixT_q rfl (fun K hK => ?_); (go_simp; try go_bits); (refine hK _ ?_; clear hK K); refine wpMixT_q rfl (fun K hK => ?_); (go_simp; try go_bits); (refine hK _ ?_; clear hK K); refine wpMixT_q rfl (fun K hK => ?_); (go_simp; try go_bits); (refine hK _ ?_; clear hK K); refine wpMixT_q rfl (fun K hK => ?_); (go_simp; try go_bits); (refine hK _ ?_; clear hK K); refine wpMixT_q rfl (fun K hK => ?_); (go_simp; try go_bits); (refine hK _ ?_; clear hK K); refine wpMixT_q rfl (fun K hK => ?_); (go_simp; try go_bits); (refine hK _ ?_; clear hK K); refine wpMixT_two ?_ ?_; refine wpMixT_e rfl (fun osm7_0 dm7_0 K hK => ?_); (go_simp; try go_bits); (go_at_call 36; refine (clone_any adr (Y - 2) (c' - 2) _ _ (by omega) (HSUB.out.on (by ((try simp only [World.junk_junk, Array.append_assoc]); (repeat (first | with_reducible exact Junk.refl _ | with_reducible exact Junk.app _ _ _ _ _ | with_reducible exact Junk.app2 _ _ _ _ _ _ | with_reducible exact Junk.app3 _ _ _ _ _ _ _ | with_reducible exact Junk.app4 _ _ _ _ _ _ _ _ | with_reducible exact Junk.app5 _ _ _ _ _ _ _ _ _ | with_reducible apply Junk.alloc | with_reducible apply Junk.junk | with_reducible apply Junk.drew | with_reducible apply Junk.drewN)))))).mono ?_; rintro e w' ⟨oc, cc, rfl, ⟨osj, dj, rfl⟩, hcb, hcn, hcf⟩; rw [World.junk_junk] at hcb; have Hcb := Lib.hid hcb; have Hcf := Lib.hid hcf; clear hcb hcn hcf); refine hK _ _ (Junk.pair (by (repeat (first | with_reducible exact Junk.refl _ | with_reducible exact Junk.app _ _ _ _ _ | with_reducible apply Junk.alloc | with_reducible apply Junk.junk | with_reducible apply Junk.drew | with_reducible apply Junk.drewN | (with_reducible refine Junk.setCell ?_ (by simp) _))))) ?_; clear hK K; refine wpMixT_q rfl (fun K hK => ?_); (go_simp; try go_bits); (refine hK _ ?_; clear hK K); refine wpMixT_e rfl (fun osm7_1 dm7_1 K hK => ?_); (go_simp; try go_bits); refine hK _ _ (Junk.pair (by (repeat (first | with_reducible exact Junk.refl _ | with_reducible exact Junk.app _ _ _ _ _ | with_reducible apply Junk.alloc | with_reducible apply Junk.junk | with_reducible apply Junk.drew | with_reducible apply Junk.drewN | (with_reducible refine Junk.setCell ?_ (by simp) _))))) ?_; clear hK K; refine wpMixT_e rfl (fun osm7_2 dm7_2 K hK => ?_); (go_simp; try go_bits); refine hK _ _ (Junk.pair (by (repeat (first | with_reducible exact Junk.refl _ | with_reducible exact Junk.app _ _ _ _ _ | with_reducible apply Junk.alloc | with_reducible apply Junk.junk | with_reducible apply Junk.drew | with_reducible apply Junk.drewN | (with_reducible refine Junk.setCell ?_ (by simp) _))))) ?_; clear hK K; refine wpMixT_nil (fun osm dm => ?_); rotate_left; refine wpMixT_e rfl (fun osm7_3 dm7_3 K hK => ?_); (go_simp; try go_bits); refine hK _ _ (Junk.pair (by (repeat (first | with_reducible exact Junk.refl _ | with_reducible exact Junk.app _ _ _ _ _ | with_reducible apply Junk.alloc | with_reducible apply Junk.junk | with_reducible apply Junk.drew | with_reducible apply Junk.drewN | (with_reducible refine Junk.setCell ?_ (by simp) _))))) ?_; clear hK K; refine wpMixT_e rfl (fun osm7_4 dm7_4 K hK => ?_); (go_simp; try go_bits); (go_at_call 36; refine (clone_any adr (Y - 2) (c' - 2) _ _ (by omega) (HSUB.out.on (by ((try simp only [World.junk_junk, Array.append_assoc]); (repeat (first | with_reducible exact Junk.refl _ | with_reducible exact Junk.app _ _ _ _ _ | with_reducible exact Junk.app2 _ _ _ _ _ _ | with_reducible exact Junk.app3 _ _ _ _ _ _ _ | with_reducible exact Junk.app4 _ _ _ _ _ _ _ _ | with_reducible exact Junk.app5 _ _ _ _ _ _ _ _ _ | with_reducible apply Junk.alloc | with_reducible apply Junk.junk | with_reducible apply Junk.drew | with_reducible apply Junk.drewN)))))).mono ?_; rintro e w' ⟨oc, cc, rfl, ⟨osj, dj, rfl⟩, hcb, hcn, hcf⟩; rw [World.junk_junk] at hcb; have Hcb := Lib.hid hcb; have Hcf := Lib.hid hcf; clear hcb hcn hcf); refine hK _ _ (Junk.pair (by (repeat (first | with_reducible exact Junk.refl _ | with_reducible exact Junk.app _ _ _ _ _ | with_reducible apply Junk.alloc | with_reducible apply Junk.junk | with_reducible apply Junk.drew | with_reducible apply Junk.drewN | (with_reducible refine Junk.setCell ?_ (by simp) _))))) ?_; clear hK K; refine wpMixT_q rfl (fun K hK => ?_); (go_simp; try go_bits); (refine hK _ ?_; clear hK K); refine wpMixT_e rfl (fun osm7_5 dm7_5 K hK => ?_); (go_simp; try go_bits); refine hK _ _ (Junk.pair (by (repeat (first | with_reducible exact Junk.refl _ | with_reducible exact Junk.app _ _ _ _ _ | with_reducible apply Junk.alloc | with_reducible apply Junk.junk | with_reducible apply Junk.drew | with_reducible apply Junk.drewN | (with_reducible refine Junk.setCell ?_ (by simp) _))))) ?_; clear hK K; refine wpMixT_nil (fun osm dm => ?_)
      · go_wp2
        go_meet
        exact ⟨_, cc, oc, rfl, by ((try simp only [World.junk_junk, Array.append_assoc]); (repeat (first | with_reducible exact Junk.refl _ | with_reducible exact Junk.app _ _ _ _ _ | with_reducible exact Junk.app2 _ _ _ _ _ _ | with_reducible exact Junk.app3 _ _ _ _ _ _ _ | with_reducible exact Junk.app4 _ _ _ _ _ _ _ _ | with_reducible exact Junk.app5 _ _ _ _ _ _ _ _ _ | with_reducible apply Junk.alloc | with_reducible apply Junk.junk | with_reducible apply Junk.drew | with_reducible apply Junk.drewN))), by simp; try omega, by simp [go_sem], by simp [go_sem], Lib.hid (bts_over Hcb.out (Hcf.out.lower (by simp; try omega)) ⟨osm7_5 ++ osm, by simp⟩), Lib.hid (Hcf.out.lower (by simp; try omega))⟩
      · go_wp2
        go_meet
        exact ⟨_, cc, oc, rfl, by ((try simp only [World.junk_junk, Array.append_assoc]); (repeat (first | with_reducible exact Junk.refl _ | with_reducible exact Junk.app _ _ _ _ _ | with_reducible exact Junk.app2 _ _ _ _ _ _ | with_reducible exact Junk.app3 _ _ _ _ _ _ _ | with_reducible exact Junk.app4 _ _ _ _ _ _ _ _ | with_reducible exact Junk.app5 _ _ _ _ _ _ _ _ _ | with_reducible apply Junk.alloc | with_reducible apply Junk.junk | with_reducible apply Junk.drew | with_reducible apply Junk.drewN))), by simp; try omega, by simp [go_sem], by simp [go_sem], Lib.hid (Hcb.out.on (by ((try simp only [World.junk_junk, Array.append_assoc]); (repeat (first | with_reducible exact Junk.refl _ | with_reducible exact Junk.app _ _ _ _ _ | with_reducible exact Junk.app2 _ _ _ _ _ _ | with_reducible exact Junk.app3 _ _ _ _ _ _ _ | with_reducible exact Junk.app4 _ _ _ _ _ _ _ _ | with_reducible exact Junk.app5 _ _ _ _ _ _ _ _ _ | with_reducible apply Junk.alloc | with_reducible apply Junk.junk | with_reducible apply Junk.drew | with_reducible apply Junk.drewN))))), Lib.hid (Hcf.out.lower (by simp; try omega))⟩
    case rest =>
      obtain ⟨g, cc, oc, rfl, hj2, hg2, k0, k1, hbt, hfr⟩ := hcut
      have HJ2 := Lib.hid hj2
      have RT := Lib.hid (fun w1 h => right_any oo n cap F ⟨y0, oc, Y - 2, cc, fun i => xs (a + (2 + i))⟩ w1 (by omega) HLN.out h (by show Y - 2 ≤ 100000000; omega))
      obtain ⟨bx, offx, hex, hbw, bw⟩ := hb.out.at_ 1 (by omega)
      cases hex
      dsimp only at bw
      rw [HY1.out] at bw
      have e3 : rightO F y0 (Y - 2) = rightD (F.map Ot.d) (xs a) (xs (a + 1) - 2).toNat := by rw [rightO_d, HY.out, HY1.out]; congr 1; omega
      have E3 := Lib.hid e3
      clear hj2 e3
      cases h5 : rightO F y0 (Y - 2) with
      | false =>
        have HE := Lib.hid (show R = none by rw [hQ.out]; exact HWRONG.out (by rw [← E3.out]; exact h5))
        go_wp2_with (first | (go_at_call 81; refine (RT.out _ (own_os (Hown.out.on (HJ2.out.trans (by ((try simp only [World.junk_junk, Array.append_assoc]); (repeat (first | with_reducible exact Junk.refl _ | with_reducible exact Junk.app _ _ _ _ _ | with_reducible exact Junk.app2 _ _ _ _ _ _ | with_reducible exact Junk.app3 _ _ _ _ _ _ _ | with_reducible exact Junk.app4 _ _ _ _ _ _ _ _ | with_reducible exact Junk.app5 _ _ _ _ _ _ _ _ _ | with_reducible apply Junk.alloc | with_reducible apply Junk.junk | with_reducible apply Junk.drew | with_reducible apply Junk.drewN)))))) (fun f hf => Bts.on (hA.out f hf).1 (HJ2.out.trans (by ((try simp only [World.junk_junk, Array.append_assoc]); (repeat (first | with_reducible exact Junk.refl _ | with_reducible exact Junk.app _ _ _ _ _ | with_reducible exact Junk.app2 _ _ _ _ _ _ | with_reducible exact Junk.app3 _ _ _ _ _ _ _ | with_reducible exact Junk.app4 _ _ _ _ _ _ _ _ | with_reducible exact Junk.app5 _ _ _ _ _ _ _ _ _ | with_reducible apply Junk.alloc | with_reducible apply Junk.junk | with_reducible apply Junk.drew | with_reducible apply Junk.drewN)))))))).mono ?_; rintro e w' ⟨rfl, ⟨osr, dr, rfl⟩⟩; rw [show rightO F (Ot.k ⟨y0, oc, Y - 2, cc, fun i => xs (a + (2 + i))⟩) (Ot.l ⟨y0, oc, Y - 2, cc, fun i => xs (a + (2 + i))⟩) = false from h5]))
        go_returns
        exact ⟨(HJ.out.trans HJ2.out).trans (by ((try simp only [World.junk_junk, Array.append_assoc]); (repeat (first | with_reducible exact Junk.refl _ | with_reducible exact Junk.app _ _ _ _ _ | with_reducible exact Junk.app2 _ _ _ _ _ _ | with_reducible exact Junk.app3 _ _ _ _ _ _ _ | with_reducible exact Junk.app4 _ _ _ _ _ _ _ _ | with_reducible exact Junk.app5 _ _ _ _ _ _ _ _ _ | with_reducible apply Junk.alloc | with_reducible apply Junk.junk | with_reducible apply Junk.drew | with_reducible apply Junk.drewN)))), by rw [HE.out] <;> rfl⟩
      | true =>
        have HQ2 := Lib.hid (show R = optR xs L (a + Y) ((F ++ [(⟨y0, oc, Y - 2, cc, fun i => xs (a + (2 + i))⟩ : Ot)]).map Ot.d) by
          rw [hQ.out, HGOOD.out (by rw [← E3.out]; exact h5), HY1.out]
          congr 1
          rw [List.map_append]
          congr 1
          simp only [Ot.d, List.map_cons, List.map_nil, ← HY.out, Nat.add_assoc, List.cons.injEq, Od.mk.injEq, and_true, true_and]
          omega)
        have HFR2 := Lib.hid (show ∀ f ∈ F ++ [(⟨y0, oc, Y - 2, cc, fun i => xs (a + (2 + i))⟩ : Ot)], Fresh w.heap.size f.oa from fun f hf => by
          rcases List.mem_append.1 hf with h | h
          · exact hFr.out f h
          · simp only [List.mem_cons, List.not_mem_nil, or_false] at h; subst h; exact hfr.out.lower HJ.out.size)
        have HSB := Lib.hid (bts_sub hb.out Y M h4 (Nat.le_refl _))
        generalize hadr2 : (if c' = Y then (some (⟨bb, off, none⟩ : Addr)) else some ⟨bb, off + Y, none⟩) = adr2 at HSB
        have hYM : (Y : Int) ≤ (M : Int) := by omega
        have HB3 := Lib.hid (show Bts w adr2 (M - Y) (c' - Y) (fun k => xs (a + Y + k)) by have := HSB.out; simpa only [Nat.add_assoc] using this)
        go_wp2_with (first
          | (go_at_call 81; refine (RT.out _ (own_os (Hown.out.on (HJ2.out.trans (by ((try simp only [World.junk_junk, Array.append_assoc]); (repeat (first | with_reducible exact Junk.refl _ | with_reducible exact Junk.app _ _ _ _ _ | with_reducible exact Junk.app2 _ _ _ _ _ _ | with_reducible exact Junk.app3 _ _ _ _ _ _ _ | with_reducible exact Junk.app4 _ _ _ _ _ _ _ _ | with_reducible exact Junk.app5 _ _ _ _ _ _ _ _ _ | with_reducible apply Junk.alloc | with_reducible apply Junk.junk | with_reducible apply Junk.drew | with_reducible apply Junk.drewN)))))) (fun f hf => Bts.on (hA.out f hf).1 (HJ2.out.trans (by ((try simp only [World.junk_junk, Array.append_assoc]); (repeat (first | with_reducible exact Junk.refl _ | with_reducible exact Junk.app _ _ _ _ _ | with_reducible exact Junk.app2 _ _ _ _ _ _ | with_reducible exact Junk.app3 _ _ _ _ _ _ _ | with_reducible exact Junk.app4 _ _ _ _ _ _ _ _ | with_reducible exact Junk.app5 _ _ _ _ _ _ _ _ _ | with_reducible apply Junk.alloc | with_reducible apply Junk.junk | with_reducible apply Junk.drew | with_reducible apply Junk.drewN)))))))).mono ?_; rintro e w' ⟨rfl, ⟨osr, dr, rfl⟩⟩; rw [show rightO F (Ot.k ⟨y0, oc, Y - 2, cc, fun i => xs (a + (2 + i))⟩) (Ot.l ⟨y0, oc, Y - 2, cc, fun i => xs (a + (2 + i))⟩) = true from h5])
          | (at_builtin; (refine ap_own2 (W0 := w) rfl _ _ 53 rfl 59 (.agg #[.int .i64 0, .slice none 0 0]) 2 32 (by kernel_rfl) rfl (by decide) Tryd.underlying53 ((HJ.out.trans HJ2.out).trans (by ((try simp only [World.junk_junk, Array.append_assoc]); (repeat (first | with_reducible exact Junk.refl _ | with_reducible exact Junk.app _ _ _ _ _ | with_reducible exact Junk.app2 _ _ _ _ _ _ | with_reducible exact Junk.app3 _ _ _ _ _ _ _ | with_reducible exact Junk.app4 _ _ _ _ _ _ _ _ | with_reducible exact Junk.app5 _ _ _ _ _ _ _ _ _ | with_reducible apply Junk.alloc | with_reducible apply Junk.junk | with_reducible apply Junk.drew | with_reducible apply Junk.drewN))))) oo cap n (otsL F) rfl (Hown.out.on (HJ2.out.trans (by ((try simp only [World.junk_junk, Array.append_assoc]); (repeat (first | with_reducible exact Junk.refl _ | with_reducible exact Junk.app _ _ _ _ _ | with_reducible exact Junk.app2 _ _ _ _ _ _ | with_reducible exact Junk.app3 _ _ _ _ _ _ _ | with_reducible exact Junk.app4 _ _ _ _ _ _ _ _ | with_reducible exact Junk.app5 _ _ _ _ _ _ _ _ _ | with_reducible apply Junk.alloc | with_reducible apply Junk.junk | with_reducible apply Junk.drew | with_reducible apply Junk.drewN)))))) _ 1 1 rfl (Ot.cells ⟨y0, oc, Y - 2, cc, fun i => xs (a + (2 + i))⟩) rfl (built_cells (by simp) _ rfl) (Ot.one _) (by simp only [maxLen]; omega) (by omega) (by decide) ?_; intro oa' cap' os' d' hown' hgr hrow; have hkp := keepO (fun f hf => ⟨Bts.on (hA.out f hf).1 (HJ2.out.trans (by ((try simp only [World.junk_junk, Array.append_assoc]); (repeat (first | with_reducible exact Junk.refl _ | with_reducible exact Junk.app _ _ _ _ _ | with_reducible exact Junk.app2 _ _ _ _ _ _ | with_reducible exact Junk.app3 _ _ _ _ _ _ _ | with_reducible exact Junk.app4 _ _ _ _ _ _ _ _ | with_reducible exact Junk.app5 _ _ _ _ _ _ _ _ _ | with_reducible apply Junk.alloc | with_reducible apply Junk.junk | with_reducible apply Junk.drew | with_reducible apply Junk.drewN))))), (hA.out f hf).2⟩) (fn := ⟨y0, oc, Y - 2, cc, fun i => xs (a + (2 + i))⟩) (Bts.on hbt.out (by ((try simp only [World.junk_junk, Array.append_assoc]); (repeat (first | with_reducible exact Junk.refl _ | with_reducible exact Junk.app _ _ _ _ _ | with_reducible exact Junk.app2 _ _ _ _ _ _ | with_reducible exact Junk.app3 _ _ _ _ _ _ _ | with_reducible exact Junk.app4 _ _ _ _ _ _ _ _ | with_reducible exact Junk.app5 _ _ _ _ _ _ _ _ _ | with_reducible apply Junk.alloc | with_reducible apply Junk.junk | with_reducible apply Junk.drew | with_reducible apply Junk.drewN))))) (fresh_off hfr.out (own_row2 Hown.out)) hgr hrow; rw [otsL_one] at hown'; have HK := Lib.hid hkp; have Hown2 := Lib.hid hown'; clear hkp hgr hrow hown')))
        exact ⟨⟨a + Y, M - Y, c' - Y, n + 1, cap', adr2, oa', F ++ [⟨y0, oc, Y - 2, cc, fun i => xs (a + (2 + i))⟩], rfl, rfl, by ((try simp only [World.junk_junk, Array.append_assoc]); (repeat (first | with_reducible exact Junk.refl _ | with_reducible exact Junk.app _ _ _ _ _ | with_reducible exact Junk.app2 _ _ _ _ _ _ | with_reducible exact Junk.app3 _ _ _ _ _ _ _ | with_reducible exact Junk.app4 _ _ _ _ _ _ _ _ | with_reducible exact Junk.app5 _ _ _ _ _ _ _ _ _ | with_reducible apply Junk.alloc | with_reducible apply Junk.junk | with_reducible apply Junk.drew | with_reducible apply Junk.drewN))), HB3, Hown2.out, HK, HFR2, HQ2, by omega, by omega⟩, by simp [lenOf]; omega⟩
end Go.Proofs.YtfkhnhenemgcmaaDoor
