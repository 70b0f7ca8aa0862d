/- The lines outside, budget, life and public. -/
import Derived.Test.YtcnhlbkdhhjmiaaGreatDoorCfF
set_option linter.unusedVariables false
set_option maxRecDepth 100000
set_option linter.unusedSimpArgs false
namespace Go.Proofs.YtcnhlbkdhhjmiaaGreatDoor
open Go.RowKit
variable {L L' : Nat → Prop} {w w' w'' : World}
/-- A cell of the configuration. -/
theorem CfAt.facts {c B R : Nat} {f : Cf} (h : CfAt w c B R f) : c < w.heap.size ∧ (∀ i, w.frozen? ⟨c, i, none⟩ = false) ∧ w.cell? ⟨c, 2, none⟩ = some (.int .i64 f.outside) ∧ w.cell? ⟨c, 3, none⟩ = some (.int .u32 f.pub) ∧ w.cell? ⟨c, 4, none⟩ = some (.int .i64 f.lo) ∧
    w.cell? ⟨c, 5, none⟩ = some (.int .i64 f.hi) ∧ w.cell? ⟨c, 7, none⟩ = some (.int .i64 f.tcp) ∧ w.cell? ⟨c, 8, none⟩ = some (.int .i64 f.other) ∧ w.cell? ⟨c, 9, none⟩ = some (.int .i64 f.budget) := by
  obtain ⟨o0, c0, o1, c1, o6, c6, hb, ho⟩ := h.box
  exact ⟨hb.lt, hb.frozen, hb.cell rfl, hb.cell rfl, hb.cell rfl, hb.cell rfl, hb.cell rfl, hb.cell rfl, hb.cell rfl⟩
/-- What may change: the configuration's block, and what is behind B. -/
def LC (c B : Nat) : Nat → Prop := fun k => k = c ∨ B ≤ k
theorem LC.r {c B r : Nat} (h : B ≤ r) (t : Tch (· = r) w w') : Tch (LC c B) w w' := t.mono fun k hk => .inr (by omega)
theorem Tch.set {c B : Nat} (t : Tch (LC c B) w w') (i : Nat) (v : Value) : Tch (LC c B) w (w'.setCell ⟨c, i, none⟩ v) := Tch.setCell (a := ⟨c, i, none⟩) t (.inl rfl) v
theorem LinePre.r {r c B R : Nat} {ws : List ByteArray} {f : Cf} (h : LinePre w r c B R ws f) : B ≤ r := Nat.le_trans h.hR h.row.kr
theorem RowAt.setC {kb r c B : Nat} {ws : List ByteArray} {bad : Bool} (h : RowAt w kb r ws bad) (hc : c < kb) (i : Nat) (v : Value) : RowAt (w.setCell ⟨c, i, none⟩ v) kb r ws bad :=
  h.far (L := (· = c)) ((Tch.refl w).at i v) (fun k hk e => by omega)
theorem or_none {α : Type} {o : Option α} : (false || o.isNone) = o.isNone := by simp
set_option maxHeartbeats 2000000 in
theorem outside_m (r c B R : Nat) (ws : List ByteArray) (f : Cf) (h : LinePre w r c B R ws f) :
    Calls Tryz.prog 37 #[.pointer (some ⟨r, 0, none⟩), .pointer (some ⟨c, 0, none⟩)] w fun e w' => e = .returned (.tuple #[]) ∧ Tch (LC c B) w w' ∧ LineR (lineW f wOutside (w8s ws)) r c B R w' := by
  have HP := Lib.hid h
  have HN := Lib.hid (num_any h.env r ws false h.short h.row)
  clear h
  go_enter Tryz.func37, Tryz.ntmps37
  go_wp2_with (go_at_call 57; (refine HN.out.mono ?_; rintro e w1 ⟨n, rfl, hn, hn2, hR1, hT1⟩); have hC1 := HP.out.cf.row hT1 HP.out.row.kr HP.out.hR; obtain ⟨p0, p1, p2, p3, p4, p5, p7, p8, p9⟩ := hC1.facts; have HR1 := Lib.hid hR1; have HT1 := Lib.hid hT1; have HC1 := Lib.hid hC1; have HN1 := Lib.hid hn; clear hR1 hT1 hC1 hn)
  go_returns
  refine ⟨rfl, (LC.r HP.out.r HT1.out).set 2 _, _, _, HR1.out.setC (B := B) (by have := HP.out.cf.lt; have := HP.out.hR; omega) 2 _, ?_⟩
  have hl : lineW f wOutside (w8s ws) = (if ws.drop 1 = [] then (numW (hdW ws)).map fun x => { f with outside := x } else none) := by
    unfold lineW
    rw [if_neg (by decide), if_neg (by decide), if_pos rfl, w8s_drop, w8s_get, List.drop_zero]
    simp only [w8s_nil]
  rw [hl, or_none]
  by_cases hd : ws.drop 1 = []
  · rw [if_pos hd]
    cases hx : numW (hdW ws) with
    | none => exact .inl rfl
    | some x =>
      have := HN1.out x hx
      subst this
      refine ⟨rfl, by rw [← List.drop_one]; exact hd, R, Nat.le_refl _, HC1.out.set 2 _ HP.out.hR (fun o0 c0 o1 c1 o6 c6 => rfl) rfl rfl rfl⟩
  · rw [if_neg hd]
    exact .inr (by rw [← List.drop_one]; exact hd)
set_option maxHeartbeats 2000000 in
theorem budget_m (r c B R : Nat) (ws : List ByteArray) (f : Cf) (h : LinePre w r c B R ws f) :
    Calls Tryz.prog 41 #[.pointer (some ⟨r, 0, none⟩), .pointer (some ⟨c, 0, none⟩)] w fun e w' => e = .returned (.tuple #[]) ∧ Tch (LC c B) w w' ∧ LineR (lineW f wBudget (w8s ws)) r c B R w' := by
  have HP := Lib.hid h
  have HN := Lib.hid (num_any h.env r ws false h.short h.row)
  clear h
  go_enter Tryz.func41, Tryz.ntmps41
  go_wp2_with (go_at_call 57; (refine HN.out.mono ?_; rintro e w1 ⟨n, rfl, hn, hn2, hR1, hT1⟩); have hC1 := HP.out.cf.row hT1 HP.out.row.kr HP.out.hR; obtain ⟨p0, p1, p2, p3, p4, p5, p7, p8, p9⟩ := hC1.facts; have HR1 := Lib.hid hR1; have HT1 := Lib.hid hT1; have HC1 := Lib.hid hC1; have HN1 := Lib.hid hn; clear hR1 hT1 hC1 hn)
  go_returns
  refine ⟨rfl, (LC.r HP.out.r HT1.out).set 9 _, _, _, HR1.out.setC (B := B) (by have := HP.out.cf.lt; have := HP.out.hR; omega) 9 _, ?_⟩
  have hl : lineW f wBudget (w8s ws) = (if ws.drop 1 = [] then (numW (hdW ws)).map fun x => { f with budget := x } else none) := by
    unfold lineW
    rw [if_neg (by decide), if_neg (by decide), if_neg (by decide), if_neg (by decide), if_neg (by decide), if_neg (by decide), if_pos rfl, w8s_drop, w8s_get, List.drop_zero]
    simp only [w8s_nil]
  rw [hl, or_none]
  by_cases hd : ws.drop 1 = []
  · rw [if_pos hd]
    cases hx : numW (hdW ws) with
    | none => exact .inl rfl
    | some x =>
      have := HN1.out x hx
      subst this
      refine ⟨rfl, by rw [← List.drop_one]; exact hd, R, Nat.le_refl _, HC1.out.set 9 _ HP.out.hR (fun o0 c0 o1 c1 o6 c6 => rfl) rfl rfl rfl⟩
  · rw [if_neg hd]
    exact .inr (by rw [← List.drop_one]; exact hd)
set_option maxHeartbeats 2000000 in
theorem life_m (r c B R : Nat) (ws : List ByteArray) (f : Cf) (h : LinePre w r c B R ws f) :
    Calls Tryz.prog 40 #[.pointer (some ⟨r, 0, none⟩), .pointer (some ⟨c, 0, none⟩)] w fun e w' => e = .returned (.tuple #[]) ∧ Tch (LC c B) w w' ∧ LineR (lineW f wLife (w8s ws)) r c B R w' := by
  have HP := Lib.hid h
  have hc : c < R := by have := h.cf.lt; have := h.hR; omega
  have hN2 := fun (w1 : World) (n : Int) (hR1 : RowAt w1 R r ws.tail (false || (numW (hdW ws)).isNone)) (hT1 : Tch (· = r) w w1) =>
    num_any (h.env.on ((LC.r h.r hT1).set (c := c) 7 (.int .i64 n)) (fun k hk => by rcases hk with rfl | hk; exact h.cf.ge; have := h.cf.ge; have := h.cf.lt; omega)) r ws.tail _ h.short.tail (hR1.setC (B := B) hc 7 _)
  have HN := Lib.hid (num_any h.env r ws false h.short h.row)
  have HN2 := Lib.hid hN2
  clear h hN2
  go_enter Tryz.func40, Tryz.ntmps40
  go_upto_region 1 with (go_at_call 57; (refine HN.out.mono ?_; rintro e w1 ⟨n, rfl, hn, hn2, hR1, hT1⟩); have hC1 := HP.out.cf.row hT1 HP.out.row.kr HP.out.hR; obtain ⟨p0, p1, p2, p3, p4, p5, p7, p8, p9⟩ := hC1.facts; have HR1 := Lib.hid hR1; have HT1 := Lib.hid hT1; have HC1 := Lib.hid hC1; have HN1 := Lib.hid hn; clear hR1 hT1 hC1 hn)
  go_wp2_with (go_at_call 57; (refine (HN2.out w1 n HR1.out HT1.out).mono ?_; rintro e w2 ⟨m, rfl, hm, hm2, hR2, hT2⟩); have hC2 := CfAt.row (HC1.out.set (f' := { f with tcp := n }) 7 (.int .i64 n) HP.out.hR (fun o0 c0 o1 c1 o6 c6 => rfl) rfl rfl rfl) hT2 HP.out.row.kr HP.out.hR; obtain ⟨q0, q1, q2, q3, q4, q5, q7, q8, q9⟩ := hC2.facts; have HR2 := Lib.hid hR2; have HT2 := Lib.hid hT2; have HC2 := Lib.hid hC2; have HM2 := Lib.hid hm; clear hR2 hT2 hC2 hm)
  go_returns
  refine ⟨rfl, (((LC.r HP.out.r HT1.out).set 7 _).trans (LC.r HP.out.r HT2.out)).set 8 _, _, _, HR2.out.setC (B := B) hc 8 _, ?_⟩
  have hl : lineW f wLife (w8s ws) = (if ws.drop 2 = [] then (match numW (hdW ws), numW (hdW ws.tail) with | some x, some y => some { f with tcp := x, other := y } | _, _ => none) else none) := by
    unfold lineW
    rw [if_neg (by decide), if_neg (by decide), if_neg (by decide), if_neg (by decide), if_neg (by decide), if_pos rfl, w8s_drop, w8s_get, w8s_get, List.drop_zero, List.drop_one]
    simp only [w8s_nil]
    rfl
  have ht : ws.tail.tail = ws.drop 2 := by rw [← List.drop_one, ← List.drop_one, List.drop_drop]
  rw [hl, ht]
  by_cases hd : ws.drop 2 = []
  · rw [if_pos hd]
    cases hx : numW (hdW ws) with
    | none => exact .inl (by simp)
    | some x =>
      cases hy : numW (hdW ws.tail) with
      | none => exact .inl (by simp)
      | some y =>
        have e1 := HN1.out x hx
        have e2 := HM2.out y hy
        subst e1 e2
        exact ⟨by simp, hd, R, Nat.le_refl _, HC2.out.set 8 _ HP.out.hR (fun o0 c0 o1 c1 o6 c6 => rfl) rfl rfl rfl⟩
  · rw [if_neg hd]
    exact .inr hd
/-- The configuration's block and the reader's. -/
def CR (c r : Nat) : Nat → Prop := fun k => k = c ∨ k = r
theorem CR.r {c r : Nat} (t : Tch (· = r) w w') : Tch (CR c r) w w' := t.mono fun k hk => .inr hk
theorem CR.lc {c r B : Nat} (t : Tch (CR c r) w w') (h : B ≤ r) : Tch (LC c B) w w' := t.mono fun k hk => by rcases hk with rfl | rfl; exact .inl rfl; exact .inr h
theorem Tch.setR {c r : Nat} (t : Tch (CR c r) w w') (i : Nat) (v : Value) : Tch (CR c r) w (w'.setCell ⟨c, i, none⟩ v) := Tch.setCell (a := ⟨c, i, none⟩) t (.inl rfl) v
theorem box_row {c r : Nat} {e : TypeId} {cs : List Value} (h : Box w c e cs) (t : Tch (· = r) w w') (hne : c ≠ r) : Box w' c e cs := (t.block c h.lt hne).trans h
theorem CfOwn.cr {B R c r : Nat} {f : Cf} {o0 o1 o6 : Option Addr} {c0 c1 c6 : Nat} (h : CfOwn w B R f o0 c0 o1 c1 o6 c6) (t : Tch (CR c r) w w') (hc : c < B) (hr : R ≤ r) : CfOwn w' B R f o0 c0 o1 c1 o6 c6 :=
  h.tch t fun k h1 h2 e => by rcases e with e | e <;> omega
set_option maxHeartbeats 4000000 in
theorem public_m (r c B R : Nat) (ws : List ByteArray) (f : Cf) (h : LinePre w r c B R ws f) :
    Calls Tryz.prog 38 #[.pointer (some ⟨r, 0, none⟩), .pointer (some ⟨c, 0, none⟩)] w fun e w' => e = .returned (.tuple #[]) ∧ Tch (LC c B) w w' ∧ LineR (lineW f wPublic (w8s ws)) r c B R w' := by
  have HP := Lib.hid h
  have hc : c < R := by have := h.cf.lt; have := h.hR; omega
  have hcr : c ≠ r := by have := h.row.kr; omega
  have HE := Lib.hid (fun (w1 : World) (t : Tch (CR c r) w w1) => h.env.on t (fun k hk => by rcases hk with rfl | rfl; exact h.cf.ge; exact h.row.ge))
  obtain ⟨o0, c0, o1, c1, o6, c6, hb, ho⟩ := h.cf.box
  have HN := Lib.hid (next_any r ws false w h.row)
  have HS0 := Lib.hid h.short.head
  have HS1 := Lib.hid h.short.tail
  have HB := Lib.hid hb
  have HO := Lib.hid ho
  have hbb : ∀ x, addrW (hdW ws) = some x → (false || ws.isEmpty) = false := fun x hx => by
    cases ws with
    | nil => rw [show addrW (hdW []) = none by decide] at hx; cases hx
    | cons y t => rfl
  have HBB := Lib.hid hbb
  clear h hb ho hbb
  go_enter Tryz.func38, Tryz.ntmps38
  go_upto_region 1 with (first
    | (go_at_call 60; (refine HN.out.mono ?_; rintro e w1 ⟨rfl, hR1, hT1⟩); have HR1 := Lib.hid hR1; have HT1 := Lib.hid (CR.r (c := c) hT1); have HB1 := Lib.hid (box_row HB.out hT1 hcr); clear hR1 hT1)
    | (go_at_call 59; (refine (address_any (HE.out _ HT1.out) r _ _ _ HS0.out HR1.out).mono ?_; rintro e w2 ⟨a, rfl, ha, hR2, hT2⟩); have hB2 := box_row HB1.out hT2 hcr; have p0 := hB2.lt; have p1 := hB2.frozen; have p3 := hB2.cell (j := 3) rfl; have HR2 := Lib.hid (hR2.setC (B := B) hc 3 (.int .u32 a)); have HT2 := Lib.hid ((HT1.out.trans (CR.r hT2)).setR 3 (.int .u32 a)); have HB2 := Lib.hid (hB2.set 3 (.int .u32 a)); have HA2 := Lib.hid ha; clear hR2 hT2 hB2 ha))
  go_upto_region 2 with (go_at_call 57; (refine (num_any (HE.out _ HT2.out) r _ _ HS1.out HR2.out).mono ?_; rintro e w3 ⟨n, rfl, hn, hn2, hR3, hT3⟩); have hB3 := box_row HB2.out hT3 hcr; have q0 := hB3.lt; have q1 := hB3.frozen; have q4 := hB3.cell (j := 4) rfl; have HR3 := Lib.hid (hR3.setC (B := B) hc 4 (.int .i64 n)); have HT3 := Lib.hid ((HT2.out.trans (CR.r hT3)).setR 4 (.int .i64 n)); have HB3 := Lib.hid (hB3.set 4 (.int .i64 n)); have HN3 := Lib.hid hn; clear hR3 hT3 hn hB3)
  go_wp2_with (go_at_call 57; (refine (num_any (HE.out _ HT3.out) r _ _ HS1.out.tail HR3.out).mono ?_; rintro e w4 ⟨m, rfl, hm, hm2, hR4, hT4⟩); have hB4 := box_row HB3.out hT4 hcr; have s0 := hB4.lt; have s1 := hB4.frozen; have s5 := hB4.cell (j := 5) rfl; have HR4 := Lib.hid (hR4.setC (B := B) hc 5 (.int .i64 m)); have HT4 := Lib.hid ((HT3.out.trans (CR.r hT4)).setR 5 (.int .i64 m)); have HB4 := Lib.hid (hB4.set 5 (.int .i64 m)); have HM4 := Lib.hid hm; clear hR4 hT4 hm hB4)
  go_returns
  refine ⟨rfl, CR.lc HT4.out HP.out.r, _, _, HR4.out, ?_⟩
  have hl : lineW f wPublic (w8s ws) = (if ws.drop 3 = [] then (match addrW (hdW ws), numW (hdW ws.tail), numW (hdW ws.tail.tail) with | some a, some x, some y => some { f with pub := a, lo := x, hi := y } | _, _, _ => none) else none) := by
    unfold lineW
    rw [if_neg (by decide), if_neg (by decide), if_neg (by decide), if_pos rfl, w8s_drop, w8s_get, w8s_get, w8s_get, List.drop_zero, List.drop_one, ← tail_drop ws 1, List.drop_one]
    simp only [w8s_nil]
    rfl
  have ht : ws.tail.tail.tail = ws.drop 3 := by rw [← List.drop_one, ← List.drop_one, ← List.drop_one, List.drop_drop, List.drop_drop]
  rw [hl, ht]
  by_cases hd : ws.drop 3 = []
  · rw [if_pos hd]
    cases hx : addrW (hdW ws) with
    | none => exact .inl (by unfold hdW at hx; simp [hx])
    | some x =>
      cases hy : numW (hdW ws.tail) with
      | none => exact .inl (by simp)
      | some y =>
        cases hz : numW (hdW ws.tail.tail) with
        | none => exact .inl (by simp)
        | some z =>
          have e1 := HA2.out x hx
          have e2 := HN3.out y hy
          have e3 := HM4.out z hz
          have e4 := HBB.out x hx
          unfold hdW at hx
          subst e1 e2 e3
          exact ⟨by rw [e4, hx]; rfl, hd, R, Nat.le_refl _, HP.out.cf.ge, HP.out.cf.lt, o0, c0, o1, c1, o6, c6, HB4.out, (HO.out.cr HT4.out HP.out.cf.lt HP.out.row.kr).same rfl rfl rfl⟩
  · rw [if_neg hd]
    exact .inr hd
end Go.Proofs.YtcnhlbkdhhjmiaaGreatDoor
