/- reasm.Take: a piece that clashes. -/
import Derived.Test.YtgjppmkadmfibaaRsG
import Derived.Test.YtgjppmkadmfibaaRsQ
import Derived.Test.YtgjppmkadmfibaaRsK
import Derived.Test.YtgjppmkadmfibaaRsM
import Derived.Test.YtgjppmkadmfibaaRsI
import Derived.Test.YtgjppmkadmfibaaRsP
import Derived.Test.YtgjppmkadmfibaaRsB
import Derived.Test.YtgjppmkadmfibaaRsE
set_option linter.unusedVariables false
set_option maxRecDepth 100000
set_option linter.unusedSimpArgs false
namespace Go.Proofs.Ytgjppmkadmfibaa
open Go.RowKit
set_option maxHeartbeats 16000000 in
theorem rright_any (room life now : Int) (oa : Option Addr) (l c : Nat) (L : List Bf) (w : World) (hP : PlAt w oa L) (hl : L.length = l) (hl2 : l ≤ 1000000) (hlc : l ≤ c) (hs : heldQ (L.map Bf.q) ≤ 1000000000000) (hF : ∀ b ∈ L, b.F.length ≤ 1000000) (hol : ∀ b ∈ L, b.head.ol ≤ 1000) (hW : ∀ b ∈ L, BfWf b) :
    Calls Try.prog 13 #[.agg #[.int .i64 room, .int .i64 life, .int .i64 now, .slice oa l c]] w fun e w' => e = .returned (.bool (rightQ room life now (L.map Bf.q))) ∧ Junk w w' := by
  cases h1 : wiR room 1 1048576 with
  | false =>
    have HT := Lib.hid (show rightQ room life now (L.map Bf.q) = false by unfold rightQ; rw [h1]; rfl)
    generalize rightQ room life now (L.map Bf.q) = T at HT ⊢
    have H1 := Lib.hid (fun w1 => show Calls Try.prog 21 #[.int .i64 room, .int .i64 1, .int .i64 1048576] w1 fun e w' => e = .returned (.bool false) ∧ Junk w1 w' from h1 ▸ rin_any room 1 1048576 w1)
    have H2 := H1
    have H3 := H1
    clear hP hs hF hol hW h1
    go_enter Try.func13, Try.ntmps13
    go_wp2_with (first | (go_at_call 21; first | ((with_reducible refine (H1.out _).mono ?_); rintro e w' ⟨rfl, ⟨osa, da, rfl⟩⟩) | ((with_reducible refine (H2.out _).mono ?_); rintro e w' ⟨rfl, ⟨osb, db, rfl⟩⟩) | ((with_reducible refine (H3.out _).mono ?_); rintro e w' ⟨rfl, ⟨osc, dc, rfl⟩⟩)))
    go_ret
    exact ⟨by rw [HT.out]; rfl, by (exact jkc)⟩
  | true =>
    have H1 := Lib.hid (fun w1 => show Calls Try.prog 21 #[.int .i64 room, .int .i64 1, .int .i64 1048576] w1 fun e w' => e = .returned (.bool true) ∧ Junk w1 w' from h1 ▸ rin_any room 1 1048576 w1)
    cases h2 : wiR life 1 1048576 with
    | false =>
      have HT := Lib.hid (show rightQ room life now (L.map Bf.q) = false by unfold rightQ; rw [h1, h2]; rfl)
      generalize rightQ room life now (L.map Bf.q) = T at HT ⊢
      have H2 := Lib.hid (fun w1 => show Calls Try.prog 21 #[.int .i64 life, .int .i64 1, .int .i64 1048576] w1 fun e w' => e = .returned (.bool false) ∧ Junk w1 w' from h2 ▸ rin_any life 1 1048576 w1)
      have H3 := H1
      clear hP hs hF hol hW h1 h2
      go_enter Try.func13, Try.ntmps13
      go_wp2_with (first | (go_at_call 21; first | ((with_reducible refine (H1.out _).mono ?_); rintro e w' ⟨rfl, ⟨osa, da, rfl⟩⟩) | ((with_reducible refine (H2.out _).mono ?_); rintro e w' ⟨rfl, ⟨osb, db, rfl⟩⟩) | ((with_reducible refine (H3.out _).mono ?_); rintro e w' ⟨rfl, ⟨osc, dc, rfl⟩⟩)))
      go_ret
      exact ⟨by rw [HT.out]; rfl, by (exact jkc)⟩
    | true =>
      have H2 := Lib.hid (fun w1 => show Calls Try.prog 21 #[.int .i64 life, .int .i64 1, .int .i64 1048576] w1 fun e w' => e = .returned (.bool true) ∧ Junk w1 w' from h2 ▸ rin_any life 1 1048576 w1)
      cases h3 : wiR now 0 1099511627776 with
      | false =>
        have HT := Lib.hid (show rightQ room life now (L.map Bf.q) = false by unfold rightQ; rw [h1, h2, h3]; rfl)
        generalize rightQ room life now (L.map Bf.q) = T at HT ⊢
        have H3 := Lib.hid (fun w1 => show Calls Try.prog 21 #[.int .i64 now, .int .i64 0, .int .i64 1099511627776] w1 fun e w' => e = .returned (.bool false) ∧ Junk w1 w' from h3 ▸ rin_any now 0 1099511627776 w1)
        clear hP hs hF hol hW h1 h2 h3
        go_enter Try.func13, Try.ntmps13
        go_wp2_with (first | (go_at_call 21; first | ((with_reducible refine (H1.out _).mono ?_); rintro e w' ⟨rfl, ⟨osa, da, rfl⟩⟩) | ((with_reducible refine (H2.out _).mono ?_); rintro e w' ⟨rfl, ⟨osb, db, rfl⟩⟩) | ((with_reducible refine (H3.out _).mono ?_); rintro e w' ⟨rfl, ⟨osc, dc, rfl⟩⟩)))
        go_ret
        exact ⟨by rw [HT.out]; rfl, by (exact jkc)⟩
      | true =>
        by_cases hl6 : l ≤ 64
        · exact right_loop room life now oa l c L w hP hl hl6 hlc hs hF hol hW h1 h2 h3
        · have HT := Lib.hid (show rightQ room life now (L.map Bf.q) = false by unfold rightQ; rw [h1, h2, h3, List.length_map, hl, decide_eq_false hl6]; rfl)
          generalize rightQ room life now (L.map Bf.q) = T at HT ⊢
          have H3 := Lib.hid (fun w1 => show Calls Try.prog 21 #[.int .i64 now, .int .i64 0, .int .i64 1099511627776] w1 fun e w' => e = .returned (.bool true) ∧ Junk w1 w' from h3 ▸ rin_any now 0 1099511627776 w1)
          have h64 : (64 : Int) < (l : Int) := by omega
          clear hP hs hF hol hW h1 h2 h3 hl6
          go_enter Try.func13, Try.ntmps13
          go_wp2_with (first | (go_at_call 21; first | ((with_reducible refine (H1.out _).mono ?_); rintro e w' ⟨rfl, ⟨osa, da, rfl⟩⟩) | ((with_reducible refine (H2.out _).mono ?_); rintro e w' ⟨rfl, ⟨osb, db, rfl⟩⟩) | ((with_reducible refine (H3.out _).mono ?_); rintro e w' ⟨rfl, ⟨osc, dc, rfl⟩⟩)))
          go_ret
          exact ⟨by rw [HT.out]; rfl, by (exact jkc)⟩
/-- A new pool. -/
def NewM (w : World) (room life : Int) (e : Ending) (w' : World) : Prop := Junk w w' ∧ e = if wiR room 1 1048576 && wiR life 1 1048576 then .returned (.tuple #[.agg #[.int .i64 room, .int .i64 life, .int .i64 0, .slice none 0 0], .int .i64 0]) else .returned (.tuple #[.agg #[.int .i64 0, .int .i64 0, .int .i64 0, .slice none 0 0], .int .i64 1])
set_option maxHeartbeats 8000000 in
theorem new_any (room life : Int) (w : World) : Calls Try.prog 9 #[.int .i64 room, .int .i64 life] w (NewM w room life) := by
  cases h1 : wiR room 1 1048576 with
  | false =>
    have HT := Lib.hid (show (wiR room 1 1048576 && wiR life 1 1048576) = false by rw [h1]; rfl)
    have H1 := Lib.hid (fun w1 => show Calls Try.prog 21 #[.int .i64 room, .int .i64 1, .int .i64 1048576] w1 fun e w' => e = .returned (.bool false) ∧ Junk w1 w' from h1 ▸ rin_any room 1 1048576 w1)
    have H2 := H1
    have H3 := H1
    clear h1
    go_enter Try.func9, Try.ntmps9
    go_wp2_with (first | (go_at_call 21; first | ((with_reducible refine (H1.out _).mono ?_); rintro e w' ⟨rfl, ⟨osa, da, rfl⟩⟩) | ((with_reducible refine (H2.out _).mono ?_); rintro e w' ⟨rfl, ⟨osb, db, rfl⟩⟩) | ((with_reducible refine (H3.out _).mono ?_); rintro e w' ⟨rfl, ⟨osc, dc, rfl⟩⟩)))
    go_returns
    exact ⟨by (exact jkc), by rw [HT.out]; rfl⟩
  | true =>
    have H1 := Lib.hid (fun w1 => show Calls Try.prog 21 #[.int .i64 room, .int .i64 1, .int .i64 1048576] w1 fun e w' => e = .returned (.bool true) ∧ Junk w1 w' from h1 ▸ rin_any room 1 1048576 w1)
    cases h2 : wiR life 1 1048576 with
    | false =>
      have HT := Lib.hid (show (wiR room 1 1048576 && wiR life 1 1048576) = false by rw [h1, h2]; rfl)
      have H2 := Lib.hid (fun w1 => show Calls Try.prog 21 #[.int .i64 life, .int .i64 1, .int .i64 1048576] w1 fun e w' => e = .returned (.bool false) ∧ Junk w1 w' from h2 ▸ rin_any life 1 1048576 w1)
      have H3 := H1
      clear h1 h2
      go_enter Try.func9, Try.ntmps9
      go_wp2_with (first | (go_at_call 21; first | ((with_reducible refine (H1.out _).mono ?_); rintro e w' ⟨rfl, ⟨osa, da, rfl⟩⟩) | ((with_reducible refine (H2.out _).mono ?_); rintro e w' ⟨rfl, ⟨osb, db, rfl⟩⟩) | ((with_reducible refine (H3.out _).mono ?_); rintro e w' ⟨rfl, ⟨osc, dc, rfl⟩⟩)))
      go_returns
      exact ⟨by (exact jkc), by rw [HT.out]; rfl⟩
    | true =>
      have HT := Lib.hid (show (wiR room 1 1048576 && wiR life 1 1048576) = true by rw [h1, h2]; rfl)
      have H2 := Lib.hid (fun w1 => show Calls Try.prog 21 #[.int .i64 life, .int .i64 1, .int .i64 1048576] w1 fun e w' => e = .returned (.bool true) ∧ Junk w1 w' from h2 ▸ rin_any life 1 1048576 w1)
      have H3 := H1
      clear h1 h2
      go_enter Try.func9, Try.ntmps9
      go_wp2_with (first | (go_at_call 21; first | ((with_reducible refine (H1.out _).mono ?_); rintro e w' ⟨rfl, ⟨osa, da, rfl⟩⟩) | ((with_reducible refine (H2.out _).mono ?_); rintro e w' ⟨rfl, ⟨osb, db, rfl⟩⟩) | ((with_reducible refine (H3.out _).mono ?_); rintro e w' ⟨rfl, ⟨osc, dc, rfl⟩⟩)))
      go_returns
      exact ⟨by (exact jkc), by rw [HT.out]; rfl⟩
end Go.Proofs.Ytgjppmkadmfibaa
set_option linter.unusedVariables false
set_option maxRecDepth 100000
set_option linter.unusedSimpArgs false
namespace Go
open RowKit
/-- A world that has the property. -/
structure PW (F : World → Prop) where
  V : World
  h : F V
theorem wp_region_mixp {P : Program} {id : Nat} {Q : Exit → Act → World → Prop} {a : Act} {w1 : World} {l : List Oper} (F : World → Prop) (hF : ∀ V V', F V → Junk V V' → F V') (π : List (Nat × Bool)) (hm : P.follows .mixedOrders = true)
    (hB : (Region.noSelect l.toArray && decide (π.length = l.length) && Region.mixB .any l.toArray π (Array.replicate l.length false)) = true) (h0 : F w1)
    (h : wpMix P l.toArray (fun w' => ∃ x : PW F, w' = x.V) (fun a' w' => Q .normal a' w') π a w1.drew) : (Code.region id l.toArray true).wp P Q a w1 :=
  wp_region_mix _ π hm hB (fun w1 w2 h1 h2 => by
    obtain ⟨x, rfl⟩ := h1
    exact ⟨⟨w2, hF _ _ x.h h2⟩, rfl⟩) ⟨⟨_, hF _ _ h0 (Junk.refl _).drew⟩, rfl⟩ h
/-- .. where the last operation may leave the class. -/
theorem wp_region_mixq {P : Program} {id : Nat} {Q : Exit → Act → World → Prop} {a : Act} {w1 : World} {l : List Oper} (F : World → Prop) (hF : ∀ V V', F V → Junk V V' → F V') (last : Nat) (π : List (Nat × Bool)) (hm : P.follows .mixedOrders = true)
    (hB : (Region.noSelect l.toArray && decide (π.length = l.length) && Region.mixB .any l.toArray π (Array.replicate l.length false) && Region.lastB .any l.toArray last && Region.endsB last π) = true) (h0 : F w1)
    (h : wpMixL P l.toArray (fun w' => ∃ x : PW F, w' = x.V) last (fun a' w' => Q .normal a' w') π a w1.drew) : (Code.region id l.toArray true).wp P Q a w1 := by
  simp only [Bool.and_eq_true, decide_eq_true_eq] at hB
  refine wp_region_any hm (wpAny_of_L (D := fun w' => ∃ x : PW F, w' = x.V) (last := last) (Q := fun a' w' => Q .normal a' w') (fun _ _ h => h) _ _ _ _ ?_)
  have := wpAnyL_mix (P := P) (md := .any) (D := fun w' => ∃ x : PW F, w' = x.V) (last := last) (fun _ _ h1 h2 => by
    obtain ⟨x, rfl⟩ := h1
    exact ⟨⟨_, hF _ _ x.h h2⟩, rfl⟩) hB.1.1.1.1 hB.1.2 π _ a w1.drew hB.1.1.2 hB.2 (Region.Closed.none _) (.inr ⟨⟨_, hF _ _ h0 (Junk.refl _).drew⟩, rfl⟩) h
  rw [hB.1.1.1.2] at this
  simpa using this
theorem quiet_loadAgg {P : Program} {a : Act} {w : World} {o : Oper} {C : World → Prop} (hj : C w) (t : TypeId) (x : Operand) (ho : o.op = .load t x)
    (hagg : ∀ w, (isAgg t).run P w = .ok true w) (g off : Nat) (cs : List Value) (hsz : ∀ w, (Go.sizeOf t).run P w = .ok cs.length w) (hx : a.eval x = .pointer (some ⟨g, off, none⟩)) (hc : ∀ j v, cs[j]? = some v → w.cell? ⟨g, off + j, none⟩ = some v) : o.quietAt P a C w (.agg cs.toArray) := by
  have h := run_loadCells_list (P := P) (w := w) ⟨g, off, none⟩ cs (fun j v hv => by rw [Addr.add_lit]; exact hc j v hv)
  have hrun : (Instr.loadAt t (.pointer (some ⟨g, off, none⟩))).run P w = .ok (.agg cs.toArray) w := by
    simp only [Instr.loadAt, Instr.sureAddr, loadVar, Sem.run_bind, Sem.run_pure, Result.andThen, hagg, hsz, if_true, h]
  unfold Oper.quietAt Oper.quietUpon
  simp only [execOp, ho, hx, hrun, Sem.run_bind, Sem.run_pure, Result.andThen]
  first | exact ⟨rfl, hj⟩ | exact hj | simp [hj]
theorem wpMixL_loadAgg {P : Program} {ops : Array Oper} {F : World → Prop} {last k : Nat} {Q : Act → World → Prop} {o : Oper} {r : List (Nat × Bool)} {a : Act} {w : World} (ho : ops[k]? = some o) (hw : Region.wanted o (yielded ops a.tmps) = true) (t : TypeId) (x : Operand) (hop : o.op = .load t x)
    (hagg : ∀ w, (isAgg t).run P w = .ok true w) (g off : Nat) (cs : List Value) (hsz : ∀ w, (Go.sizeOf t).run P w = .ok cs.length w) (hx : a.eval x = .pointer (some ⟨g, off, none⟩)) (hc : ∀ V, F V → ∀ j v, cs[j]? = some v → V.cell? ⟨g, off + j, none⟩ = some v)
    (h : wpMixL P ops (fun w' => ∃ x : PW F, w' = x.V) last Q r (a.put o.dst (.agg cs.toArray)) w) : wpMixL P ops (fun w' => ∃ x : PW F, w' = x.V) last Q ((k, true) :: r) a w :=
  wpMixL_q ho fun K hK => by
    rw [if_pos hw]
    refine ⟨.agg cs.toArray, ?_, hK _ h⟩
    rintro w' ⟨y, rfl⟩
    exact quiet_loadAgg (Junk.refl _) t x hop hagg g off cs hsz hx (hc y.V y.h)
theorem storeBox_wp {P : Program} {o : Oper} {a : Act} {K : Act → World → Prop} {Q : Exit → Act → World → Prop} {V : World} {g : Nat} {e : TypeId} {cs : List Value} (t : TypeId) (x y : Operand) (ho : o.op = .store t x y)
    (h : Box V g e cs) (off : Nat) (c : Array Value) (hi : (P.info? t).map (·.size) = some c.size) (hx : a.eval x = .pointer (some ⟨g, off, none⟩)) (hy : a.eval y = .agg c) (hfit : off + c.size ≤ cs.length) (h1 : ∀ v ∈ c.toList, v.oneCell' = true)
    (hK : ∀ w', V.grownBy w' (some g) → Box w' g e (cs.take off ++ c.toList ++ cs.drop (off + c.toList.length)) → K (a.put o.dst undef) w') : o.wp P a V K Q := by
  obtain ⟨w', hrun, hO, hg⟩ := run_storeOwn (P := P) h.own t off c hi (by rw [Nat.one_mul]; exact hfit) h1
  have := hK w' hg (own_Box hO)
  unfold Oper.wp
  simp only [execOp, ho, hx, hy, hrun, Sem.run_bind, Sem.run_pure, Result.andThen]
  simpa [Oper.upon] using this
theorem storeOwn_wp {P : Program} {o : Oper} {a : Act} {K : Act → World → Prop} {Q : Exit → Act → World → Prop} {V : World} {B g sz cap n : Nat} {e : TypeId} {xs : List Value} (t : TypeId) (x y : Operand) (ho : o.op = .store t x y)
    (h : Own B V e sz (some ⟨g, 0, none⟩) cap n xs) (off : Nat) (c : Array Value) (hi : (P.info? t).map (·.size) = some c.size) (hx : a.eval x = .pointer (some ⟨g, off, none⟩)) (hy : a.eval y = .agg c) (hfit : off + c.size ≤ n * sz) (h1 : ∀ v ∈ c.toList, v.oneCell' = true)
    (hK : ∀ w', V.grownBy w' (some g) → Own B w' e sz (some ⟨g, 0, none⟩) cap n (xs.take off ++ c.toList ++ xs.drop (off + c.toList.length)) → K (a.put o.dst undef) w') : o.wp P a V K Q := by
  obtain ⟨w', hrun, hO, hg⟩ := run_storeOwn (P := P) h t off c hi hfit h1
  have := hK w' hg hO
  unfold Oper.wp
  simp only [execOp, ho, hx, hy, hrun, Sem.run_bind, Sem.run_pure, Result.andThen]
  simpa [Oper.upon] using this
end Go
set_option linter.unusedVariables false
set_option maxRecDepth 100000
set_option linter.unusedSimpArgs false
namespace Go.Proofs.Ytgjppmkadmfibaa
open Go.RowKit
/-- The copy of a pool in memory, as its users see it. -/
theorem cp_use {w w1 V : World} {ob : Option Addr} {cap l : Nat} {L R : List Bf} {M : Nat → Nat} {oa : Option Addr} (hP : PlAt w oa L) (hj : Junk w V) (hl : L.length = l) (hO : Own (w1.heap.size + 2) V 45 19 ob cap l (bfsL R)) (hD : CpD V ob l L R M) :
    PlAt V ob R ∧ (∀ b ∈ R, BfIn V b) ∧ R.map Bf.q = L.map Bf.q ∧ R.length = l := by
  have hlen : R.length = l := by rw [hD.len, hl]
  have hin : ∀ b ∈ R, BfIn V b := fun b hb => by
    obtain ⟨i, hi, rfl⟩ := List.getElem_of_mem hb
    have hi2 : i < L.length := by rw [← hD.len]; exact hi
    obtain ⟨hq, h1, h2⟩ := hD.q i L[i] R[i] (List.getElem?_eq_getElem hi2) (List.getElem?_eq_getElem hi)
    have hf := hD.fr i R[i] (List.getElem?_eq_getElem hi) (by omega)
    obtain ⟨_, _, _, _, _, hin⟩ := hP i L[i] (List.getElem?_eq_getElem hi2)
    have hh : (R[i]).head = (L[i]).head := by have := congrArg Bq.head hq; exact this
    refine hf.bfIn ?_ (by rw [hh]; exact hin.head.src) (by rw [hh]; exact hin.head.dst)
    rw [h1, h2, hh]
    exact hin.head.body.on hj
  refine ⟨own_plat hO hin, hin, ?_, hlen⟩
  apply List.ext_getElem?
  intro i
  rw [List.getElem?_map, List.getElem?_map]
  by_cases hi : i < L.length
  · have hi2 : i < R.length := by rw [hD.len]; exact hi
    rw [List.getElem?_eq_getElem hi, List.getElem?_eq_getElem hi2]
    exact congrArg some (hD.q i L[i] R[i] (List.getElem?_eq_getElem hi) (List.getElem?_eq_getElem hi2)).1
  · have h1 := hD.len
    rw [List.getElem?_eq_none (by omega), List.getElem?_eq_none (by omega)]
theorem cp_out {V : World} {B : Nat} {ob : Option Addr} {cap l : Nat} {xs : List Value} {L R : List Bf} {M : Nat → Nat} (hO : Own B V 45 19 ob cap l xs) (hD : CpD V ob l L R M) {r : Nat} (hr : r < B) : r < M 0 ∨ M l ≤ r := by
  rcases hO.form with ⟨_, h1, _⟩ | ⟨g, cur, h1, h2, _⟩
  · subst h1; omega
  · left
    have := hD.lo _ h1
    simp only at this
    omega
/-- What is known of a pool that is handed over. -/
structure PlOk (w : World) (oa : Option Addr) (l c : Nat) (L : List Bf) : Prop where
  at_ : PlAt w oa L
  len : L.length = l
  le : l ≤ 1000
  cap : l ≤ c
  nil : oa = none → l = 0 ∧ c = 0
  held : heldQ (L.map Bf.q) ≤ 1000000000
  fs : ∀ b ∈ L, b.F.length ≤ 100000 ∧ b.head.ol ≤ 1000 ∧ b.head.bl ≤ 1000000 ∧ ∀ f ∈ b.F, f.l ≤ 1000000
  wf : ∀ b ∈ L, BfWf b
/-- What is said of buffers as data. -/
structure QsOk (Q : List Bq) : Prop where
  held : heldQ Q ≤ 1000000000
  fs : ∀ b ∈ Q, b.runs.length ≤ 100000 ∧ b.head.ol ≤ 1000 ∧ b.head.bl ≤ 1000000 ∧ ∀ f ∈ b.runs, f.l ≤ 1000000
  src : ∀ b ∈ Q, 0 ≤ b.src ∧ b.src ≤ 4294967295
  dst : ∀ b ∈ Q, 0 ≤ b.dst ∧ b.dst ≤ 4294967295
  id : ∀ b ∈ Q, -9223372036854775808 ≤ b.id ∧ b.id ≤ 9223372036854775807
  proto : ∀ b ∈ Q, -9223372036854775808 ≤ b.proto ∧ b.proto ≤ 9223372036854775807
  born : ∀ b ∈ Q, -9223372036854775808 ≤ b.born ∧ b.born ≤ 9223372036854775807
  total : ∀ b ∈ Q, -9223372036854775808 ≤ b.total ∧ b.total ≤ 9223372036854775807
  offs : ∀ b ∈ Q, ∀ f ∈ b.runs, -9223372036854775808 ≤ f.k ∧ f.k ≤ 9223372036854775807
theorem QsOk.of {Q : List Bq} (h : QsOk Q) {R : List Bf} (hq : R.map Bf.q = Q) : heldQ (R.map Bf.q) ≤ 1000000000 ∧ (∀ b ∈ R, b.F.length ≤ 100000 ∧ b.head.ol ≤ 1000 ∧ b.head.bl ≤ 1000000 ∧ ∀ f ∈ b.F, f.l ≤ 1000000) ∧ ∀ b ∈ R, BfWf b := by
  subst hq
  have hm : ∀ b ∈ R, b.q ∈ R.map Bf.q := fun b hb => List.mem_map.2 ⟨b, hb, rfl⟩
  have hl : ∀ b : Bf, b.q.runs.length = b.F.length := fun b => by show (b.F.map Ot.d).length = _; rw [List.length_map]
  have hf : ∀ b : Bf, ∀ f ∈ b.F, f.d ∈ b.q.runs := fun b f hf => List.mem_map.2 ⟨f, hf, rfl⟩
  refine ⟨h.held, fun b hb => ?_, fun b hb => ⟨h.src _ (hm b hb), h.dst _ (hm b hb), h.id _ (hm b hb), h.proto _ (hm b hb), h.born _ (hm b hb), h.total _ (hm b hb), fun f hff => h.offs _ (hm b hb) _ (hf b f hff)⟩⟩
  have h1 := h.fs _ (hm b hb)
  rw [hl] at h1
  exact ⟨h1.1, h1.2.1, h1.2.2.1, fun f hff => h1.2.2.2 _ (hf b f hff)⟩
/-- Buffers in memory whose data are 'Q'. -/
structure QsAt (w : World) (oa : Option Addr) (l c : Nat) (Q : List Bq) : Prop where
  ex : ∃ L : List Bf, PlAt w oa L ∧ L.map Bf.q = Q
  len : Q.length = l
  cap : l ≤ c
  nil : oa = none → l = 0 ∧ c = 0
theorem QsAt.on {w w' : World} {oa : Option Addr} {l c : Nat} {Q : List Bq} (h : QsAt w oa l c Q) (hj : Junk w w') : QsAt w' oa l c Q := by
  obtain ⟨L, h1, h2⟩ := h.ex
  exact ⟨⟨L, h1.on hj, h2⟩, h.len, h.cap, h.nil⟩
theorem own_raise {B B' : Nat} {w : World} {e : TypeId} {sz : Nat} {oa : Option Addr} {cap n : Nat} {xs : List Value} (h : Own B w e sz oa cap n xs) (hb : ∀ a, oa = some a → B' ≤ a.block) : Own B' w e sz oa cap n xs := by
  refine ⟨h.1, ?_⟩
  rcases h.2 with h1 | ⟨g, c, cur, h1, h2, h3⟩
  · exact .inl h1
  · refine .inr ⟨g, c, cur, h1, ?_, h3⟩
    simp only [Value.slice.injEq] at h1
    exact hb _ h1.1
theorem listGo_mem {now : Int} : ∀ {seen L : List Bq}, listGo now seen L = true → ∀ b ∈ L, bufB b now = true
  | _, [], _, b, hb => by cases hb
  | seen, x :: L, h, b, hb => by
    unfold listGo at h
    simp only [Bool.and_eq_true] at h
    rcases List.mem_cons.1 hb with rfl | hb
    · exact h.1
    · exact listGo_mem h.2.2 b hb
theorem rightQ_born {room life now : Int} {Q : List Bq} (h : rightQ room life now Q = true) : ∀ b ∈ Q, 0 ≤ b.born ∧ b.born ≤ now := fun b hb => by
  unfold rightQ at h
  simp only [Bool.and_eq_true] at h
  have h1 := listGo_mem h.2.2.2.2.1 b hb
  unfold bufB at h1
  simp only [Bool.and_eq_true] at h1
  have h2 := h1.1
  unfold wiR at h2
  simp only [Bool.and_eq_true, decide_eq_true_eq] at h2
  exact h2
theorem CpD.off {w V : World} {ob oa : Option Addr} {l : Nat} {L R : List Bf} {M : Nat → Nat} (hD : CpD V ob l L R M) (hP : PlAt w oa L) (hl : L.length = l) : ∀ b ∈ R, ∀ r, w.heap.size ≤ r → (r < M 0 ∨ M l ≤ r) → BfOff r b := by
  intro b hb r hw hr
  obtain ⟨i, hi, rfl⟩ := List.getElem_of_mem hb
  have hi2 : i < L.length := by rw [← hD.len]; exact hi
  obtain ⟨hq, h1, h2⟩ := hD.q i L[i] R[i] (List.getElem?_eq_getElem hi2) (List.getElem?_eq_getElem hi)
  have hf := hD.fr i R[i] (List.getElem?_eq_getElem hi) (by omega)
  obtain ⟨_, _, _, _, _, hin⟩ := hP i L[i] (List.getElem?_eq_getElem hi2)
  have hh : (R[i]).head = (L[i]).head := by have := congrArg Bq.head hq; exact this
  have m0 := hD.le_hi i (by omega) 0 (by omega)
  have m1 := hD.le_hi l (Nat.le_refl _) (i + 1) (by omega)
  have hk : ∀ k, some r = some k → k < M i ∨ M (i + 1) ≤ k := fun k hk => by cases hk; omega
  refine ⟨hf.optsIn.off hk, fun hl a ha he => ?_, fun he => ?_, fun f hff => (hf.data f hff).2.1.off hk⟩
  · rw [h1] at ha
    rw [hh] at hl
    have h3 := hin.head.body.below hl a ha
    have h4 : a.block = r := Option.some.inj he
    omega
  · cases hro : (R[i]).ro with
    | none => rw [hro] at he; cases he
    | some a =>
      rw [hro] at he
      have h4 : a.block = r := Option.some.inj he
      have h5 := hf.ownIn a hro
      have h6 := own_fresh hf.own a hro
      omega
/-- A pool's copy under way: beside it stand K boxes. -/
structure PlS (w V : World) (K : Nat) (ob : Option Addr) (cap l : Nat) (R : List Bf) : Prop where
  junk : Junk w V
  own : Own (w.heap.size + K) V 45 19 ob cap l (bfsL R)
  ins : ∀ b ∈ R, BfIn V b
  offl : ∀ b ∈ R, ∀ a, ob = some a → BfOff a.block b
  offb : ∀ b ∈ R, ∀ r, w.heap.size ≤ r → r < w.heap.size + K → BfOff r b
  nil : ob = none → l = 0 ∧ cap = 0
section
variable {w V V' : World} {K cap l : Nat} {ob : Option Addr} {R : List Bf}
theorem PlS.on (h : PlS w V K ob cap l R) (hj : Junk V V') : PlS w V' K ob cap l R :=
  ⟨h.junk.trans hj, h.own.on hj, fun b hb => (h.ins b hb).on hj, h.offl, h.offb, h.nil⟩
/-- A store into one of the boxes. -/
theorem PlS.box (h : PlS w V K ob cap l R) {r : Nat} (hg : V.grownBy V' (some r)) (h1 : w.heap.size ≤ r) (h2 : r < w.heap.size + K) : PlS w V' K ob cap l R :=
  ⟨below_of_grown h.junk hg (fun q hq => by cases hq; exact h1), own_grownR h.own hg (fun q hq a ha => by cases hq; have := own_fresh h.own a ha; omega), fun b hb => (h.ins b hb).grown hg (h.offb b hb r h1 h2), h.offl, h.offb, h.nil⟩
/-- The list was changed. -/
theorem PlS.list {l2 : Nat} {R2 : List Bf} (h : PlS w V K ob cap l R) (hg : V.grownBy V' (rowOf ob)) (hj : Junk w V') (ho : Own (w.heap.size + K) V' 45 19 ob cap l2 (bfsL R2)) (hs : ∀ b ∈ R2, b ∈ R) (hn : l2 ≤ l) : PlS w V' K ob cap l2 R2 := by
  refine ⟨hj, ho, fun b hb => ?_, fun b hb => h.offl b (hs b hb), fun b hb => h.offb b (hs b hb), fun hx => by have := h.nil hx; omega⟩
  cases ob with
  | none =>
    have h0 := h.nil rfl
    have h1 := ho.len
    rw [bfsL_len] at h1
    have h2 : R2 = [] := List.eq_nil_of_length_eq_zero (by omega)
    rw [h2] at hb; cases hb
  | some a => exact (h.ins b (hs b hb)).grown hg (h.offl b (hs b hb) a rfl)
theorem PlS.plat (h : PlS w V K ob cap l R) : PlAt V ob R := own_plat h.own h.ins
theorem PlS.len (h : PlS w V K ob cap l R) : R.length = l := by have := h.own.len; rw [bfsL_len] at this; omega
theorem PlS.qsat (h : PlS w V K ob cap l R) {Q : List Bq} (hq : R.map Bf.q = Q) : QsAt V ob l cap Q := ⟨⟨R, h.plat, hq⟩, by rw [← hq, List.length_map, h.len], h.own.capLe.1, h.nil⟩
end
theorem pls_mk {w WK w4 w5 : World} {K : Nat} {oa ob : Option Addr} {cap l : Nat} {L R : List Bf} {M : Nat → Nat} (hP : PlAt w oa L) (hl : L.length = l) (hs : WK.heap.size = w.heap.size + K) (hJ3 : Junk w WK) (hj4 : Junk WK w4) (hO : Own (WK.heap.size + 2) w4 45 19 ob cap l (bfsL R)) (hD : CpD w4 ob l L R M) (hn : ob = none → l = 0 ∧ cap = 0)
    {r : Nat} (h1 : w.heap.size ≤ r) (h2 : r < w.heap.size + K) (hg : w4.grownBy w5 (some r)) : PlS w w5 K ob cap l R ∧ R.map Bf.q = L.map Bf.q := by
  rw [hs] at hO
  have hJ4 : Junk w w4 := hJ3.trans hj4
  have hJ5 : Junk w w5 := below_of_grown hJ4 hg (fun q hq => by cases hq; exact h1)
  have hO5 := own_grownR hO hg (fun q hq a ha => by cases hq; have := own_fresh hO a ha; omega)
  have hD5 := hD.grown hg (cp_out hO hD (by omega))
  obtain ⟨_, h4, h5, _⟩ := cp_use (w1 := WK) hP hJ5 hl (by rw [hs]; exact hO5) hD5
  refine ⟨⟨hJ5, hO5.lower (by omega), h4, fun b hb a ha => ?_, fun b hb q q1 q2 => hD.off hP hl b hb q q1 (cp_out hO hD (by omega)), hn⟩, h5⟩
  have h6 := own_fresh hO a ha
  exact hD.off hP hl b hb a.block (by omega) (.inl (hD.lo a ha))
def tickQ (life t : Int) (Q : List Bq) : List Bq := Q.filter fun b => !oldB t life b
/-- The answer of Tick. -/
def TickM (w : World) (room life now t : Int) (Q : List Bq) (e : Ending) (w' : World) : Prop :=
  Junk w w' ∧ ∃ (ob : Option Addr) (cap : Nat),
    if rightQ room life now Q && wiR t now 1099511627776 then e = .returned (.tuple #[.agg #[.int .i64 room, .int .i64 life, .int .i64 t, .slice ob (tickQ life t Q).length cap], .int .i64 ((Q.length - (tickQ life t Q).length : Nat) : Int), .int .i64 0]) ∧ QsAt w' ob (tickQ life t Q).length cap (tickQ life t Q)
    else e = .returned (.tuple #[.agg #[.int .i64 room, .int .i64 life, .int .i64 now, .slice ob Q.length cap], .int .i64 0, .int .i64 1]) ∧ QsAt w' ob Q.length cap Q
def TkF (w : World) (room life t : Int) (ob : Option Addr) (cap m : Nat) (R : List Bf) (V : World) : Prop := PlS w V 3 ob cap m R ∧ Box V w.heap.size 31 [.int .i64 room, .int .i64 life, .int .i64 t, .slice ob m cap] ∧ ∃ cz, Box V (w.heap.size + 2) 31 cz ∧ cz.length = 4
theorem TkF.on {w V V' : World} {room life t : Int} {ob : Option Addr} {cap m : Nat} {R : List Bf} (h : TkF w room life t ob cap m R V) (hj : Junk V V') : TkF w room life t ob cap m R V' := by
  obtain ⟨h1, h2, cz, h3, h4⟩ := h
  exact ⟨h1.on hj, h2.on hj, cz, h3.on hj, h4⟩
theorem tkf_cells {cz : List Value} (hz : cz.length = 4) (c : Array Value) (hc : c.size = 4) : cz.take 0 ++ c.toList ++ cz.drop (0 + c.toList.length) = c.toList := by
  rw [List.take_zero, List.nil_append, List.drop_eq_nil_of_le (by simp; omega), List.append_nil]
theorem tkf_box {w9 : World} {g : Nat} {e : TypeId} {cz : List Value} {c : Array Value} (hz : cz.length = 4) (h : Box w9 g e (cz.take 0 ++ c.toList ++ cz.drop (0 + c.toList.length))) (hc : c.size = 4 := by rfl) : Box w9 g e c.toList := by
  rw [tkf_cells hz c hc] at h
  exact h
theorem tkf_store {w V w9 : World} {room life t : Int} {ob : Option Addr} {cap m : Nat} {R : List Bf} {cz : List Value} {c : Array Value} (h : TkF w room life t ob cap m R V) (hg : V.grownBy w9 (some (w.heap.size + 2))) (hz : cz.length = 4) (hb : Box w9 (w.heap.size + 2) 31 (cz.take 0 ++ c.toList ++ cz.drop (0 + c.toList.length))) (hc : c.size = 4 := by rfl) : TkF w room life t ob cap m R w9 := by
  obtain ⟨h1, h2, _, _, _⟩ := h
  exact ⟨h1.box hg (by omega) (by omega), h2.grown hg (by simp), c.toList, tkf_box hz hb hc, by simpa using hc⟩
set_option maxRecDepth 100000 in
set_option maxHeartbeats 32000000 in
theorem tick_any (room life now t : Int) (oa : Option Addr) (l c : Nat) (Q : List Bq) (w : World) (hP : QsAt w oa l c Q) (hl2 : l ≤ 1000) (hQ : QsOk Q) :
    Calls Try.prog 12 #[.agg #[.int .i64 room, .int .i64 life, .int .i64 now, .slice oa l c], .int .i64 t] w (TickM w room life now t Q) := by
  obtain ⟨⟨L, hL1, hLQ⟩, hlen, hlc, hn⟩ := hP
  have hl : L.length = l := by rw [← hlen, ← hLQ, List.length_map]
  obtain ⟨o1, o2, o3⟩ := hQ.of hLQ
  have HCP := Lib.hid (fun w1 (hj : Junk w w1) => copied_any room life now oa l c L w1 (hL1.on hj) hl (by omega) hn (fun b hb => ⟨by have := (o2 b hb).1; omega, by have := (o2 b hb).2.1; omega, fun f hf => by have := (o2 b hb).2.2.2 f hf; omega⟩))
  have HL := Lib.hid hl
  have HP := Lib.hid hL1
  have HQ := Lib.hid hQ
  have HLQ := Lib.hid hLQ
  have HLEN := Lib.hid hlen
  clear hlen hn hl hL1 hQ hLQ o1 o2 o3
  go_enter Try.func12, Try.ntmps12
  go_upto_region 2 with (first | (go_at_call 22; (with_reducible refine (HCP.out _ (by (exact jkc))).mono ?_); rintro e w4 ⟨ob, cap, R, M, rfl, hj4, hO4, hD4, hn4⟩; rw [HL.out] at hO4 hD4 hn4; rw [HL.out]; have HB4 := Lib.hid (show Box w4 w.heap.size 31 [.int .i64 room, .int .i64 life, .int .i64 now, .slice oa l c] ∧ Box w4 (w.heap.size + 1) 3 [.int .i64 t] ∧ Box w4 (w.heap.size + 2) 31 [.int .i64 0, .int .i64 0, .int .i64 0, .slice none 0 0] from ⟨(box3 w #[.int .i64 room, .int .i64 life, .int .i64 now, .slice oa l c] #[.int .i64 t] #[.int .i64 0, .int .i64 0, .int .i64 0, .slice none 0 0] 31 3 31).1.on hj4, (box3 w #[.int .i64 room, .int .i64 life, .int .i64 now, .slice oa l c] #[.int .i64 t] #[.int .i64 0, .int .i64 0, .int .i64 0, .slice none 0 0] 31 3 31).2.1.on hj4, (box3 w #[.int .i64 room, .int .i64 life, .int .i64 now, .slice oa l c] #[.int .i64 t] #[.int .i64 0, .int .i64 0, .int .i64 0, .slice none 0 0] 31 3 31).2.2.on hj4⟩); have H4 := Lib.hid (And.intro hj4 (And.intro hO4 (And.intro hD4 hn4))); clear hj4 hO4 hD4 hn4) | ((with_reducible show wpList _ _ _ _ _ _); refine wpList_storeBox rfl 31 _ _ rfl HB4.out.1 0 #[.int .i64 room, .int .i64 life, .int .i64 now, .slice ob l cap] (show (Try.prog.info? 31).map (·.size) = some 4 from by kernel_rfl) rfl rfl (by simp) (by simp [Value.oneCell']) ?_; intro w5 hg5 hb5; have HG5 := Lib.hid hg5; have HB5 := Lib.hid (show Box w5 w.heap.size 31 [.int .i64 room, .int .i64 life, .int .i64 now, .slice ob l cap] from hb5); clear hg5 hb5))
  have HS := Lib.hid (pls_mk (WK := (((w.alloc (.cells #[.int .i64 room, .int .i64 life, .int .i64 now, .slice oa l c] 31)).alloc (.cells #[.int .i64 t] 3)).alloc (.cells #[.int .i64 0, .int .i64 0, .int .i64 0, .slice none 0 0] 31))) (K := 3) HP.out HL.out (by simp) (by (exact jkc)) H4.out.1 H4.out.2.1 H4.out.2.2.1 H4.out.2.2.2 (Nat.le_refl _) (by omega) HG5.out)
  have HRQ := Lib.hid (HS.out.2.trans HLQ.out)
  have HT5 := Lib.hid HS.out.1
  have HBX := Lib.hid (And.intro HB5.out (And.intro (HB4.out.2.1.grown HG5.out (by simp)) (HB4.out.2.2.grown HG5.out (by simp))))
  clear HS H4 HB4 HG5 HB5 HCP
  have p0 : w5.cell? ⟨w.heap.size, 0, none⟩ = some (.int .i64 room) := HBX.out.1.cell rfl
  have p1 : w5.cell? ⟨w.heap.size, 1, none⟩ = some (.int .i64 life) := HBX.out.1.cell rfl
  have p2 : w5.cell? ⟨w.heap.size, 2, none⟩ = some (.int .i64 now) := HBX.out.1.cell rfl
  have p3 : w5.cell? ⟨w.heap.size, 3, none⟩ = some (.slice ob l cap) := HBX.out.1.cell rfl
  have p4 : w5.cell? ⟨w.heap.size + 1, 0, none⟩ = some (.int .i64 t) := HBX.out.2.1.cell rfl
  have s0 := HBX.out.1.lt
  have s1 := HBX.out.2.1.lt
  have s2 := HBX.out.2.2.lt
  have hlc2 := HT5.out.own.capLe
  have HRL := Lib.hid (show R.length = l from by have := HT5.out.own.len; rw [bfsL_len] at this; omega)
  have HOK := Lib.hid (HQ.out.of HRQ.out)
  obtain ⟨RQ, hRQ⟩ : ∃ RQ, rightQ room life now Q = RQ := ⟨_, rfl⟩
  have HRI := Lib.hid (fun w1 (hj : Junk w5 w1) => show Calls Try.prog 13 #[.agg #[.int .i64 room, .int .i64 life, .int .i64 now, .slice ob l cap]] w1 fun e w' => e = .returned (.bool RQ) ∧ Junk w1 w' from by
    rw [← hRQ, ← HRQ.out]
    exact rright_any room life now ob l cap R w1 ((own_plat HT5.out.own HT5.out.ins).on hj) HRL.out (by omega) hlc2.1 (by have := HOK.out.1; omega) (fun b hb => by have := (HOK.out.2.1 b hb).1; omega) (fun b hb => (HOK.out.2.1 b hb).2.1) HOK.out.2.2)
  obtain ⟨WQ, hWQ⟩ : ∃ WQ, wiR t now 1099511627776 = WQ := ⟨_, rfl⟩
  have HWI := Lib.hid (fun w1 => show Calls Try.prog 21 #[.int .i64 t, .int .i64 now, .int .i64 1099511627776] w1 fun e w' => e = .returned (.bool WQ) ∧ Junk w1 w' from hWQ ▸ rin_any t now 1099511627776 w1)
  have HRQ2 := Lib.hid hRQ
  have HWQ2 := Lib.hid hWQ
  clear hRQ hWQ
  by_cases hok : (RQ && WQ) = true
  · have h12 := Bool.and_eq_true_iff.1 hok
    obtain ⟨rfl, rfl⟩ := h12
    clear hok
    have hti : now ≤ t ∧ t ≤ 1099511627776 := by have := HWQ2.out; unfold wiR at this; simpa using this
    have HBO := Lib.hid (rightQ_born HRQ2.out)
    have HBT := Lib.hid (show ∀ b ∈ R, 0 ≤ b.born ∧ b.born ≤ t from fun b hb => by
      have := HBO.out b.q (by rw [← HRQ.out]; exact List.mem_map.2 ⟨b, hb, rfl⟩)
      have h2 : b.q.born = b.born := rfl
      rw [h2] at this
      omega)
    have ht0 : 0 ≤ t ∧ t ≤ 1099511627776 := by
      refine ⟨?_, hti.2⟩
      have := HRQ2.out
      unfold rightQ wiR at this
      simp only [Bool.and_eq_true, decide_eq_true_eq] at this
      omega
    have HROW := Lib.hid (show ∀ r, r < w.heap.size + 3 → some r ≠ rowOf ob from fun r hr he => by
      cases hob : ob with
      | none => rw [hob] at he; cases he
      | some a =>
        rw [hob] at he
        have h1 : r = a.block := Option.some.inj he
        have := own_fresh HT5.out.own a hob
        omega)
    have HDF := Lib.hid (fun w1 (hj : Junk w5 w1) => delF_any 36 #[.pointer (some ⟨w.heap.size + 1, 0, none⟩), .pointer (some ⟨w.heap.size, 0, none⟩)] ob l cap R (fun b => oldB t life b) w w1 (by omega) HRL.out (HT5.out.junk.trans hj) ((HT5.out.own.on hj).lower (by omega)) (fun w2 hg b hb => by
      have c1 := (HBX.out.2.1.on hj).grown hg (HROW.out _ (by omega))
      have c0 := (HBX.out.1.on hj).grown hg (HROW.out _ (by omega))
      exact clo36_any (w.heap.size + 1) w.heap.size t life w2 c1.lt c0.lt (c1.cell rfl) (c0.cell rfl) ht0 w2 (Junk.refl _) b _ rfl (HBT.out b hb)) (fun _ _ => enter_fn Try.func36 (by kernel_rfl) rfl _ _))
    obtain ⟨R2, hR2⟩ : ∃ R2, R.filter (fun b => !oldB t life b.q) = R2 := ⟨_, rfl⟩
    obtain ⟨m, hm⟩ : ∃ m, R2.length = m := ⟨_, rfl⟩
    rw [hR2] at HDF
    have HR2 := Lib.hid hR2
    have HM := Lib.hid hm
    have hml : m ≤ l := by rw [← hm, ← hR2, ← HRL.out]; exact List.length_filter_le _ _
    have hsub : (l : Int) - (m : Int) = ((l - m : Nat) : Int) := by omega
    have psub := wrapk_i64 ((l : Int) - (m : Int)) (by omega) (by omega)
    clear hR2 hm
    have hmf : ∀ (fn : Fn) (first cap : Array Value) (w : World), (Instr.makeFunc fn first cap).run Try.prog w = .ok (.func fn first cap) w := fun _ _ _ _ => rfl
    go_upto_region 5 with (first | (go_at_call 13; (with_reducible refine (HRI.out _ (by (exact jkc))).mono ?_); rintro e w' ⟨rfl, ⟨osj, dj, rfl⟩⟩) | (go_at_call 21; (with_reducible refine (HWI.out _).mono ?_); rintro e w' ⟨rfl, ⟨osk, dk, rfl⟩⟩))
    go_upto_region 6 with (first | (go_at_call 35; (with_reducible refine (HDF.out _ (by (exact jkc))).mono ?_); rintro e w6 ⟨rfl, hj6, hg6, ho6⟩; rw [HM.out] at ho6; rw [HM.out]; have hb0 := (HBX.out.1.on (show Junk w5 _ by (exact jkc))).grown hg6 (HROW.out _ (by omega)); have u3 := hb0.cell (j := 3) rfl; have uf := hb0.frozen 3; have us := hb0.lt; have H6 := Lib.hid (And.intro hb0 (And.intro ((HBX.out.2.1.on (show Junk w5 _ by (exact jkc))).grown hg6 (HROW.out _ (by omega))) (And.intro ((HBX.out.2.2.on (show Junk w5 _ by (exact jkc))).grown hg6 (HROW.out _ (by omega))) ((HT5.out.on (show Junk w5 _ by (exact jkc))).list hg6 hj6 (own_raise ho6 (fun a ha => own_fresh HT5.out.own a ha)) (fun b hb => by rw [← HR2.out] at hb; exact (List.mem_filter.1 hb).1) hml)))); clear hb0 hj6 hg6 ho6))
    have H7 := Lib.hid (show PlS w (w6.setCell ⟨w.heap.size, 3, none⟩ (.slice ob m cap)) 3 ob cap m R2 ∧ Box (w6.setCell ⟨w.heap.size, 3, none⟩ (.slice ob m cap)) w.heap.size 31 [.int .i64 room, .int .i64 life, .int .i64 now, .slice ob m cap] ∧ Box (w6.setCell ⟨w.heap.size, 3, none⟩ (.slice ob m cap)) (w.heap.size + 1) 3 [.int .i64 t] ∧ Box (w6.setCell ⟨w.heap.size, 3, none⟩ (.slice ob m cap)) (w.heap.size + 2) 31 [.int .i64 0, .int .i64 0, .int .i64 0, .slice none 0 0] from
      ⟨H6.out.2.2.2.box (grown_set w6 ⟨w.heap.size, 3, none⟩ _) (Nat.le_refl _) (by simp only; omega), H6.out.1.set 3 _, H6.out.2.1.far (by simp) _, H6.out.2.2.1.far (by simp) _⟩)
    generalize w6.setCell ⟨w.heap.size, 3, none⟩ (.slice ob m cap) = V7 at H7 ⊢
    clear H6 u3 uf us HDF HRI HWI p0 p1 p2 p3 p4 s0 s1 s2 HBX HT5 hmf
    have y1 : V7.cell? ⟨w.heap.size + 1, 0, none⟩ = some (.int .i64 t) := H7.out.2.2.1.cell rfl
    have x2 : V7.cell? ⟨w.heap.size, 2, none⟩ = some (.int .i64 now) := H7.out.2.1.cell rfl
    have xf := H7.out.2.1.frozen 2
    have s1 := H7.out.2.2.1.lt
    have s0 := H7.out.2.1.lt
    go_upto_region 7 with (fail)
    have H8 := Lib.hid (show PlS w (V7.setCell ⟨w.heap.size, 2, none⟩ (.int .i64 t)) 3 ob cap m R2 ∧ Box (V7.setCell ⟨w.heap.size, 2, none⟩ (.int .i64 t)) w.heap.size 31 [.int .i64 room, .int .i64 life, .int .i64 t, .slice ob m cap] ∧ Box (V7.setCell ⟨w.heap.size, 2, none⟩ (.int .i64 t)) (w.heap.size + 2) 31 [.int .i64 0, .int .i64 0, .int .i64 0, .slice none 0 0] from
      ⟨H7.out.1.box (grown_set V7 ⟨w.heap.size, 2, none⟩ _) (Nat.le_refl _) (by simp only; omega), H7.out.2.1.set 2 _, H7.out.2.2.2.far (by simp) _⟩)
    generalize V7.setCell ⟨w.heap.size, 2, none⟩ (.int .i64 t) = V8 at H8 ⊢
    clear H7 y1 x2 xf s1 s0
    have x0 : V8.cell? ⟨w.heap.size, 0, none⟩ = some (.int .i64 room) := H8.out.2.1.cell rfl
    have x1 : V8.cell? ⟨w.heap.size, 1, none⟩ = some (.int .i64 life) := H8.out.2.1.cell rfl
    have x2 : V8.cell? ⟨w.heap.size, 2, none⟩ = some (.int .i64 t) := H8.out.2.1.cell rfl
    have x3 : V8.cell? ⟨w.heap.size, 3, none⟩ = some (.slice ob m cap) := H8.out.2.1.cell rfl
    have s0 := H8.out.2.1.lt
    have hx0 : ∀ x : PW (TkF w room life t ob cap m R2), x.V.cell? ⟨w.heap.size, 0, none⟩ = some (.int .i64 room) := fun x => x.h.2.1.cell rfl
    have hx1 : ∀ x : PW (TkF w room life t ob cap m R2), x.V.cell? ⟨w.heap.size, 1, none⟩ = some (.int .i64 life) := fun x => x.h.2.1.cell rfl
    have hx2 : ∀ x : PW (TkF w room life t ob cap m R2), x.V.cell? ⟨w.heap.size, 2, none⟩ = some (.int .i64 t) := fun x => x.h.2.1.cell rfl
    have hx3 : ∀ x : PW (TkF w room life t ob cap m R2), x.V.cell? ⟨w.heap.size, 3, none⟩ = some (.slice ob m cap) := fun x => x.h.2.1.cell rfl
    have hxs : ∀ x : PW (TkF w room life t ob cap m R2), w.heap.size < x.V.heap.size := fun x => x.h.2.1.lt
    have HF := Lib.hid (show TkF w room life t ob cap m R2 V8 from ⟨H8.out.1, H8.out.2.1, _, H8.out.2.2, rfl⟩)
    haveI hne : Nonempty (PW (TkF w room life t ob cap m R2)) := ⟨⟨V8, HF.out⟩⟩
    refine wp_region_mixp (TkF w room life t ob cap m R2) (fun _ _ h hj => h.on hj) [(0, true), (1, true), (2, true), (3, true), (4, true), (5, true), (6, false), (7, true), (8, true)] (by kernel_rfl) (by kernel_rfl) (HF.out) ?_; (iterate 6 (refine wpMix_q rfl (fun K hK => ?_); (go_simp; try go_bits); (refine hK _ ?_; clear hK K))); refine wpMix_e1 rfl rfl (fun osm7_0 dm7_0 K hK => ?_); (obtain ⟨cz, hz1, hz2⟩ := (HF.out.on (show Junk V8 ((V8.drew).junk osm7_0 dm7_0) by (exact jkc))).2.2; refine storeBox_wp 31 _ _ rfl hz1 0 #[.int .i64 room, .int .i64 life, .int .i64 t, .slice ob m cap] (show (Try.prog.info? 31).map (·.size) = some 4 from by kernel_rfl) rfl rfl (by rw [hz2]; exact Nat.le_refl 4) (by simp [Value.oneCell']) ?_; intro w9 hg9 hb9; have HF9 := Lib.hid (tkf_store (HF.out.on (show Junk V8 ((V8.drew).junk osm7_0 dm7_0) by (exact jkc))) hg9 hz2 hb9); have HB9 := Lib.hid (tkf_box hz2 hb9); clear hz1 hz2 hg9 hb9); refine hK _ _ (⟨⟨_, by exact HF9.out⟩, rfl⟩) ?_; clear hK K; (iterate 2 (refine wpMix_q rfl (fun K hK => ?_); (go_simp; try go_bits); (refine hK _ ?_; clear hK K))); refine wpMix_nil (fun osm dm => ?_)
    go_wp2
    refine bodyPost_ret (results_cell1tt Try.results12 rfl (((show Box w9 (w.heap.size + 2) 31 [.int .i64 room, .int .i64 life, .int .i64 t, .slice ob m cap] from HB9.out).on (show Junk w9 _ by (exact jkc))).loadVar 31 Try.isAgg31 Try.sizeOf31)) rfl ?_
    have K9 := (HF9.out.on (show Junk w9 (w9.junk osm dm) from ⟨_, _, rfl⟩)).1
    have hTQ : tickQ life t Q = R2.map Bf.q := by
      unfold tickQ
      rw [← HRQ.out, ← HR2.out, List.filter_map]
      rfl
    have hTL : (tickQ life t Q).length = m := by rw [hTQ, List.length_map, HM.out]
    refine ⟨K9.junk, ob, cap, ?_⟩
    rw [if_pos (by rw [HRQ2.out, HWQ2.out]; rfl), hTL, HLEN.out]
    exact ⟨rfl, K9.qsat hTQ.symm⟩
  · have HBAD := Lib.hid (show ¬ ((rightQ room life now Q && wiR t now 1099511627776) = true) from by rw [HRQ2.out, HWQ2.out]; exact hok)
    clear hok
    cases RQ with
    | false =>
      go_upto_region 3 with (first | (go_at_call 13; (with_reducible refine (HRI.out _ (by (exact jkc))).mono ?_); rintro e w' ⟨rfl, ⟨osj, dj, rfl⟩⟩))
      go_wp2_with (first | ((with_reducible show wpList _ _ _ _ _ _); refine wpList_storeBox rfl 31 _ _ rfl (HBX.out.2.2.on (show Junk w5 _ by (exact jkc))) 0 #[.int .i64 room, .int .i64 life, .int .i64 now, .slice ob l cap] (show (Try.prog.info? 31).map (·.size) = some 4 from by kernel_rfl) rfl rfl (by simp) (by simp [Value.oneCell']) ?_; intro w6 hg6 hb6; have HG6 := Lib.hid (grown_tr (grown_junk (show Junk w5 _ by (exact jkc)) (some (w.heap.size + 2))) hg6); have HB6 := Lib.hid hb6; clear hg6 hb6))
      refine bodyPost_ret (results_cell1tt Try.results12 rfl ((show Box w6 (w.heap.size + 2) 31 [.int .i64 room, .int .i64 life, .int .i64 now, .slice ob l cap] from HB6.out).loadVar 31 Try.isAgg31 Try.sizeOf31)) rfl ?_
      have K6 := HT5.out.box HG6.out (by omega) (by omega)
      refine ⟨K6.junk, ob, cap, ?_⟩
      rw [if_neg HBAD.out, HLEN.out]
      exact ⟨rfl, K6.qsat HRQ.out⟩
    | true =>
      cases WQ with
      | true => exact absurd (show (rightQ room life now Q && wiR t now 1099511627776) = true from by rw [HRQ2.out, HWQ2.out]; rfl) HBAD.out
      | false =>
        go_upto_region 3 with (first | (go_at_call 13; (with_reducible refine (HRI.out _ (by (exact jkc))).mono ?_); rintro e w' ⟨rfl, ⟨osj, dj, rfl⟩⟩) | (go_at_call 21; (with_reducible refine (HWI.out _).mono ?_); rintro e w' ⟨rfl, ⟨osk, dk, rfl⟩⟩))
        go_wp2_with (first | ((with_reducible show wpList _ _ _ _ _ _); refine wpList_storeBox rfl 31 _ _ rfl (HBX.out.2.2.on (show Junk w5 _ by (exact jkc))) 0 #[.int .i64 room, .int .i64 life, .int .i64 now, .slice ob l cap] (show (Try.prog.info? 31).map (·.size) = some 4 from by kernel_rfl) rfl rfl (by simp) (by simp [Value.oneCell']) ?_; intro w6 hg6 hb6; have HG6 := Lib.hid (grown_tr (grown_junk (show Junk w5 _ by (exact jkc)) (some (w.heap.size + 2))) hg6); have HB6 := Lib.hid hb6; clear hg6 hb6))
        refine bodyPost_ret (results_cell1tt Try.results12 rfl ((show Box w6 (w.heap.size + 2) 31 [.int .i64 room, .int .i64 life, .int .i64 now, .slice ob l cap] from HB6.out).loadVar 31 Try.isAgg31 Try.sizeOf31)) rfl ?_
        have K6 := HT5.out.box HG6.out (by omega) (by omega)
        refine ⟨K6.junk, ob, cap, ?_⟩
        rw [if_neg HBAD.out, HLEN.out]
        exact ⟨rfl, K6.qsat HRQ.out⟩
end Go.Proofs.Ytgjppmkadmfibaa
set_option linter.unusedVariables false
set_option maxRecDepth 100000
set_option linter.unusedSimpArgs false
namespace Go.Proofs.Ytgjppmkadmfibaa
open Go.RowKit
theorem four_box (w : World) (A B C D : Obj) : ((((w.alloc A).alloc B).alloc C).alloc D).heap[w.heap.size]? = some A ∧ ((((w.alloc A).alloc B).alloc C).alloc D).heap[w.heap.size + 1]? = some B ∧ ((((w.alloc A).alloc B).alloc C).alloc D).heap[w.heap.size + 2]? = some C ∧ ((((w.alloc A).alloc B).alloc C).alloc D).heap[w.heap.size + 3]? = some D := by
  have h := three_box w A B C
  have hs : (((w.alloc A).alloc B).alloc C).heap.size = w.heap.size + 3 := by simp
  have hj : Junk (((w.alloc A).alloc B).alloc C) ((((w.alloc A).alloc B).alloc C).alloc D) := by (exact jkc)
  exact ⟨heap_on h.1 hj, heap_on h.2.1 hj, heap_on h.2.2 hj, by rw [← hs]; exact heap_alloc_last _ _⟩
/-- The four boxes of Take. -/
structure Bx4 (w V : World) (a b c d : List Value) (tA tB tC tD : TypeId) : Prop where
  b0 : Box V w.heap.size tA a
  b1 : Box V (w.heap.size + 1) tB b
  b2 : Box V (w.heap.size + 2) tC c
  b3 : Box V (w.heap.size + 3) tD d
theorem Bx4.on {w V V' : World} {a b c d : List Value} {tA tB tC tD : TypeId} (h : Bx4 w V a b c d tA tB tC tD) (hj : Junk V V') : Bx4 w V' a b c d tA tB tC tD := ⟨h.b0.on hj, h.b1.on hj, h.b2.on hj, h.b3.on hj⟩
theorem box4 (w : World) (A B C D : Array Value) (tA tB tC tD : TypeId) : Bx4 w ((((w.alloc (.cells A tA)).alloc (.cells B tB)).alloc (.cells C tC)).alloc (.cells D tD)) A.toList B.toList C.toList D.toList tA tB tC tD := by
  have h := four_box w (.cells A tA) (.cells B tB) (.cells C tC) (.cells D tD)
  refine ⟨?_, ?_, ?_, ?_⟩ <;> unfold Box <;> rw [Array.toArray_toList]
  · exact h.1
  · exact h.2.1
  · exact h.2.2.1
  · exact h.2.2.2
/-- A new buffer for a piece. -/
def newQ (x : Ip) (now : Int) : Bq := ⟨x.src, x.dst, x.id, x.proto, now, zeroIp, false, -1, []⟩
/-- What a whole packet is. -/
def outI (b : Bq) : Ip := { b.head with bl := heldO b.runs, body := catF b.runs }
def endQ (Q : List Bq) (i : Nat) (b : Bq) : List Bq × Ip × Bool × Int :=
  if gapGo 0 b.runs && ((heldO b.runs : Int) == b.total) then (if mayB (outI b) then (Q.eraseIdx i, outI b, true, 0) else (Q.eraseIdx i, zeroIp, false, 7)) else (Q, zeroIp, false, 0)
def mineP (x : Ip) (b : Bq) : Bool := mineB b x.src x.dst x.id x.proto
/-- reasm.Take, as data. -/
def takeQ (room life now : Int) (Q : List Bq) (x : Ip) : List Bq × Ip × Bool × Int :=
  if !pieceB x then (Q, x, true, 0)
  else if !(rightQ room life now Q && (mayB x && decide (0 < x.bl))) then (Q, zeroIp, false, 1)
  else match Q.findIdx? (mineP x) with
    | some i => match Q[i]? with
      | some b => if clashB b x then (Q.eraseIdx i, zeroIp, false, 7) else if room < (heldQ Q : Int) + x.bl then (Q, zeroIp, false, 8) else endQ (Q.set i (addQ b x)) i (addQ b x)
      | none => (Q, zeroIp, false, 8)
    | none => if Q.length = 64 ∨ room < (heldQ Q : Int) + x.bl then (Q, zeroIp, false, 8) else endQ (Q ++ [addQ (newQ x now) x]) Q.length (addQ (newQ x now) x)
/-- The answer of Take. -/
def TakeM (w : World) (room life now : Int) (Q : List Bq) (x : Ip) (e : Ending) (w' : World) : Prop :=
  Junk w w' ∧ ∃ (ol : Option Addr) (cap : Nat) (o1 o2 : Option Addr) (c1 c2 : Nat), QsAt w' ol (takeQ room life now Q x).1.length cap (takeQ room life now Q x).1 ∧ IpAt w' (takeQ room life now Q x).2.1 o1 c1 o2 c2 ∧
    e = .returned (.tuple #[.agg #[.int .i64 room, .int .i64 life, .int .i64 now, .slice ol (takeQ room life now Q x).1.length cap], .agg #[.int .i64 ((takeQ room life now Q x).2.1).tos, .int .i64 ((takeQ room life now Q x).2.1).id, .bool ((takeQ room life now Q x).2.1).df, .bool ((takeQ room life now Q x).2.1).mf, .int .i64 ((takeQ room life now Q x).2.1).off, .int .i64 ((takeQ room life now Q x).2.1).ttl, .int .i64 ((takeQ room life now Q x).2.1).proto, .int .u32 ((takeQ room life now Q x).2.1).src, .int .u32 ((takeQ room life now Q x).2.1).dst, .slice o1 ((takeQ room life now Q x).2.1).ol c1, .slice o2 ((takeQ room life now Q x).2.1).bl c2], .bool (takeQ room life now Q x).2.2.1, .int .i64 (takeQ room life now Q x).2.2.2])
theorem takeM_mk {w w' : World} {room life now : Int} {Q Q2 : List Bq} {x y : Ip} {ok : Bool} {er : Int} {ol o1 o2 : Option Addr} {cap c1 c2 l2 : Nat} (ht : takeQ room life now Q x = (Q2, y, ok, er)) (hl : Q2.length = l2) (hj : Junk w w') (hs : QsAt w' ol l2 cap Q2) (hi : IpAt w' y o1 c1 o2 c2) :
    TakeM w room life now Q x (.returned (.tuple #[.agg #[.int .i64 room, .int .i64 life, .int .i64 now, .slice ol l2 cap], .agg #[.int .i64 y.tos, .int .i64 y.id, .bool y.df, .bool y.mf, .int .i64 y.off, .int .i64 y.ttl, .int .i64 y.proto, .int .u32 y.src, .int .u32 y.dst, .slice o1 y.ol c1, .slice o2 y.bl c2], .bool ok, .int .i64 er])) w' := by
  subst hl
  unfold TakeM
  rw [ht]
  exact ⟨hj, ol, cap, o1, o2, c1, c2, hs, hi, rfl⟩
theorem ip_zero (w : World) : IpAt w zeroIp none 0 none 0 := ⟨bts_none _ _, bts_none _ _, by decide, by decide⟩
/-- The end of a way. -/
theorem take_end {w V w6 w7 : World} {a b c d c6 c7 : List Value} {ol : Option Addr} {cap l : Nat} {R : List Bf} (hs : PlS w V 4 ol cap l R) (hb : Bx4 w V a b c d 31 25 31 25) (hg6 : V.grownBy w6 (some (w.heap.size + 2))) (hb6 : Box w6 (w.heap.size + 2) 31 c6) (hg7 : w6.grownBy w7 (some (w.heap.size + 3))) (hb7 : Box w7 (w.heap.size + 3) 25 c7) :
    PlS w w7 4 ol cap l R ∧ Box w7 (w.heap.size + 2) 31 c6 ∧ Box w7 (w.heap.size + 3) 25 c7 := ⟨(hs.box hg6 (by omega) (by omega)).box hg7 (by omega) (by omega), hb6.grown hg7 (by simp), hb7⟩
end Go.Proofs.Ytgjppmkadmfibaa
set_option linter.unusedVariables false
set_option maxRecDepth 100000
set_option linter.unusedSimpArgs false
namespace Go.Proofs.Ytgjppmkadmfibaa
open Go.RowKit
structure TkG (w : World) (room life now : Int) (ol : Option Addr) (cap m : Nat) (R : List Bf) (y : Ip) (o1 o2 : Option Addr) (c1 c2 gx : Nat) (V : World) : Prop where
  s : PlS w V 4 ol cap m R
  b0 : Box V w.heap.size 31 [.int .i64 room, .int .i64 life, .int .i64 now, .slice ol m cap]
  bx : Box V gx 25 [.int .i64 y.tos, .int .i64 y.id, .bool y.df, .bool y.mf, .int .i64 y.off, .int .i64 y.ttl, .int .i64 y.proto, .int .u32 y.src, .int .u32 y.dst, .slice o1 y.ol c1, .slice o2 y.bl c2]
  z2 : ∃ cz, Box V (w.heap.size + 2) 31 cz ∧ cz.length = 4
  z3 : ∃ cz, Box V (w.heap.size + 3) 25 cz ∧ cz.length = 11
  g2 : gx ≠ w.heap.size + 2
  g3 : gx ≠ w.heap.size + 3
  i : IpAt V y o1 c1 o2 c2
  f1 : ∀ r, r = w.heap.size + 2 ∨ r = w.heap.size + 3 → Go.Off (some r) o1 y.ol ∧ Go.Off (some r) o2 y.bl
section
variable {w V V' w9 : World} {room life now : Int} {ol : Option Addr} {cap m : Nat} {R : List Bf} {y : Ip} {o1 o2 : Option Addr} {c1 c2 gx : Nat}
theorem TkG.on (h : TkG w room life now ol cap m R y o1 o2 c1 c2 gx V) (hj : Junk V V') : TkG w room life now ol cap m R y o1 o2 c1 c2 gx V' := by
  obtain ⟨cz, hz, hz4⟩ := h.z2
  obtain ⟨ci, hi, hi4⟩ := h.z3
  exact ⟨h.s.on hj, h.b0.on hj, h.bx.on hj, ⟨cz, hz.on hj, hz4⟩, ⟨ci, hi.on hj, hi4⟩, h.g2, h.g3, h.i.on hj, h.f1⟩
theorem all_cells {cz : List Value} {n : Nat} (hz : cz.length = n) (c : Array Value) (hc : c.size = n) : cz.take 0 ++ c.toList ++ cz.drop (0 + c.toList.length) = c.toList := by
  rw [List.take_zero, List.nil_append, List.drop_eq_nil_of_le (by simp; omega), List.append_nil]
theorem all_box {g : Nat} {e : TypeId} {cz : List Value} {n : Nat} {c : Array Value} (hz : cz.length = n) (hc : c.size = n) (h : Box w9 g e (cz.take 0 ++ c.toList ++ cz.drop (0 + c.toList.length))) : Box w9 g e c.toList := by
  rw [all_cells hz c hc] at h
  exact h
theorem TkG.set2 (h : TkG w room life now ol cap m R y o1 o2 c1 c2 gx V) (hg : V.grownBy w9 (some (w.heap.size + 2))) {c : Array Value} (hb : Box w9 (w.heap.size + 2) 31 c.toList) (hc : c.size = 4) : TkG w room life now ol cap m R y o1 o2 c1 c2 gx w9 := by
  obtain ⟨ci, hi, hi4⟩ := h.z3
  have hf := h.f1 _ (.inl rfl)
  exact ⟨h.s.box hg (by omega) (by omega), h.b0.grown hg (by simp), h.bx.grown hg (by simpa using h.g2), ⟨_, hb, by simpa using hc⟩, ⟨ci, hi.grown hg (by simp), hi4⟩, h.g2, h.g3, ⟨h.i.opts.grown hg hf.1, h.i.body.grown hg hf.2, h.i.src, h.i.dst⟩, h.f1⟩
theorem TkG.set3 (h : TkG w room life now ol cap m R y o1 o2 c1 c2 gx V) (hg : V.grownBy w9 (some (w.heap.size + 3))) {c : Array Value} (hb : Box w9 (w.heap.size + 3) 25 c.toList) (hc : c.size = 11) : TkG w room life now ol cap m R y o1 o2 c1 c2 gx w9 := by
  obtain ⟨ci, hi, hi4⟩ := h.z2
  have hf := h.f1 _ (.inr rfl)
  exact ⟨h.s.box hg (by omega) (by omega), h.b0.grown hg (by simp), h.bx.grown hg (by simpa using h.g3), ⟨ci, hi.grown hg (by simp), hi4⟩, ⟨_, hb, by simpa using hc⟩, h.g2, h.g3, ⟨h.i.opts.grown hg hf.1, h.i.body.grown hg hf.2, h.i.src, h.i.dst⟩, h.f1⟩
end
end Go.Proofs.Ytgjppmkadmfibaa
set_option linter.unusedVariables false
set_option maxRecDepth 100000
set_option linter.unusedSimpArgs false
namespace Go.Proofs.Ytgjppmkadmfibaa
open Go.RowKit
theorem take1_mk {w w5 : World} {room life now : Int} {ol : Option Addr} {cap l : Nat} {R : List Bf} {p : Ip} {oo ob o1 o2 : Option Addr} {oc bc c1 c2 d : Nat} {X : Array Obj} (hs : PlS w w5 4 ol cap l R) (hb : Bx4 w w5 [.int .i64 room, .int .i64 life, .int .i64 now, .slice ol l cap] [.int .i64 p.tos, .int .i64 p.id, .bool p.df, .bool p.mf, .int .i64 p.off, .int .i64 p.ttl, .int .i64 p.proto, .int .u32 p.src, .int .u32 p.dst, .slice oo p.ol oc, .slice ob p.bl bc] [.int .i64 0, .int .i64 0, .int .i64 0, .slice none 0 0] [.int .i64 0, .int .i64 0, .bool false, .bool false, .int .i64 0, .int .i64 0, .int .i64 0, .int .u32 0, .int .u32 0, .slice none 0 0, .slice none 0 0] 31 25 31 25) (hX : IpAt w p oo oc ob bc)
    (h1 : Bts (w5.junk X d) o1 p.ol c1 p.opts) (h2 : Bts (w5.junk X d) o2 p.bl c2 p.body) (f1 : Fresh w5.heap.size o1) (f2 : Fresh w5.heap.size o2) :
    TkG w room life now ol cap l R p o1 o2 c1 c2 (w.heap.size + 1) (((w5.setCell ⟨w.heap.size + 1, 9, none⟩ (.slice o1 p.ol c1)).setCell ⟨w.heap.size + 1, 10, none⟩ (.slice o2 p.bl c2)).junk X d) := by
  have hj : Junk w5 (w5.junk X d) := ⟨_, _, rfl⟩
  have s1 := hb.b1.lt
  have s3 := hb.b3.lt
  rw [← World.setCell_junk _ _ _ _ _ _ (by simpa [World.setCell] using s1), ← World.setCell_junk _ _ _ _ _ _ s1]
  have g1 := grown_set (w5.junk X d) ⟨w.heap.size + 1, 9, none⟩ (.slice o1 p.ol c1)
  have g2 := grown_set ((w5.junk X d).setCell ⟨w.heap.size + 1, 9, none⟩ (.slice o1 p.ol c1)) ⟨w.heap.size + 1, 10, none⟩ (.slice o2 p.bl c2)
  have k1 : ∀ l, Go.Off (some (w.heap.size + 1)) o1 l := fun l _ a ha he => by have := f1 a ha; have h4 : a.block = w.heap.size + 1 := Option.some.inj he; omega
  have k2 : ∀ l, Go.Off (some (w.heap.size + 1)) o2 l := fun l _ a ha he => by have := f2 a ha; have h4 : a.block = w.heap.size + 1 := Option.some.inj he; omega
  have hb2 := hb.on hj
  exact ⟨((hs.on hj).box g1 (by simp only; omega) (by simp only; omega)).box g2 (by simp only; omega) (by simp only; omega), (hb2.b0.far (by simp) _).far (by simp) _, (hb2.b1.set 9 _).set 10 _, ⟨_, (hb2.b2.far (by simp) _).far (by simp) _, rfl⟩, ⟨_, (hb2.b3.far (by simp) _).far (by simp) _, rfl⟩, by omega, by omega,
    ⟨(h1.grown g1 (k1 _)).grown g2 (k1 _), (h2.grown g1 (k2 _)).grown g2 (k2 _), hX.src, hX.dst⟩, fun r hr => ⟨fun _ a ha he => by have := f1 a ha; have h4 : a.block = r := Option.some.inj he; omega, fun _ a ha he => by have := f2 a ha; have h4 : a.block = r := Option.some.inj he; omega⟩⟩
set_option maxRecDepth 100000 in
set_option maxHeartbeats 32000000 in
theorem take_whole (room life now : Int) (oa : Option Addr) (l c : Nat) (Q : List Bq) (p : Ip) (oo ob : Option Addr) (oc bc : Nat) (w : World) (hP : QsAt w oa l c Q) (hl2 : l ≤ 1000) (hQ : QsOk Q) (hX : IpAt w p oo oc ob bc) (hpo : p.ol ≤ 1000) (hpb : p.bl ≤ 1000000) (hpi : pieceB p = false) (ht : takeQ room life now Q p = (Q, p, true, 0)) : Calls Try.prog 10 #[.agg #[.int .i64 room, .int .i64 life, .int .i64 now, .slice oa l c], .agg #[.int .i64 p.tos, .int .i64 p.id, .bool p.df, .bool p.mf, .int .i64 p.off, .int .i64 p.ttl, .int .i64 p.proto, .int .u32 p.src, .int .u32 p.dst, .slice oo p.ol oc, .slice ob p.bl bc]] w (TakeM w room life now Q p) := by
  have HPI := Lib.hid (fun w1 => show Calls Try.prog 23 #[.agg #[.int .i64 p.tos, .int .i64 p.id, .bool p.df, .bool p.mf, .int .i64 p.off, .int .i64 p.ttl, .int .i64 p.proto, .int .u32 p.src, .int .u32 p.dst, .slice oo p.ol oc, .slice ob p.bl bc]] w1 fun e w' => e = .returned (.bool false) ∧ Junk w1 w' from hpi ▸ piece_any p oo ob oc bc w1)
  have HC1 := Lib.hid (fun w1 (hj : Junk w w1) => clone_any oo p.ol oc p.opts w1 (by omega) (hX.opts.on hj))
  have HC2 := Lib.hid (fun w1 (hj : Junk w w1) => clone_any ob p.bl bc p.body w1 (by omega) (hX.body.on hj))
  obtain ⟨⟨L, hL1, hLQ⟩, hlen, hlc, hn⟩ := hP
  have hl : L.length = l := by rw [← hlen, ← hLQ, List.length_map]
  obtain ⟨o1, o2, o3⟩ := hQ.of hLQ
  have HCP := Lib.hid (fun w1 (hj : Junk w w1) => copied_any room life now oa l c L w1 (hL1.on hj) hl (by omega) hn (fun b hb => ⟨by have := (o2 b hb).1; omega, by have := (o2 b hb).2.1; omega, fun f hf => by have := (o2 b hb).2.2.2 f hf; omega⟩))
  have HL := Lib.hid hl
  have HP := Lib.hid hL1
  have HQ := Lib.hid hQ
  have HLQ := Lib.hid hLQ
  have HLEN := Lib.hid hlen
  have HX := Lib.hid hX
  have HTQ := Lib.hid ht
  clear hlen hn hl hL1 hQ hLQ o1 o2 o3 hX ht hlc
  go_enter Try.func10, Try.ntmps10
  go_upto_region 2 with (first | (go_at_call 22; (with_reducible refine (HCP.out _ (by (exact jkc))).mono ?_); rintro e w4 ⟨ol, cap, R, M, rfl, hj4, hO4, hD4, hn4⟩; rw [HL.out] at hO4 hD4 hn4; rw [HL.out]; have HB4 := Lib.hid ((box4 w #[.int .i64 room, .int .i64 life, .int .i64 now, .slice oa l c] #[.int .i64 p.tos, .int .i64 p.id, .bool p.df, .bool p.mf, .int .i64 p.off, .int .i64 p.ttl, .int .i64 p.proto, .int .u32 p.src, .int .u32 p.dst, .slice oo p.ol oc, .slice ob p.bl bc] #[.int .i64 0, .int .i64 0, .int .i64 0, .slice none 0 0] #[.int .i64 0, .int .i64 0, .bool false, .bool false, .int .i64 0, .int .i64 0, .int .i64 0, .int .u32 0, .int .u32 0, .slice none 0 0, .slice none 0 0] 31 25 31 25).on hj4); have H4 := Lib.hid (And.intro hj4 (And.intro hO4 (And.intro hD4 hn4))); clear hj4 hO4 hD4 hn4) | ((with_reducible show wpList _ _ _ _ _ _); refine wpList_storeBox rfl 31 _ _ rfl HB4.out.1 0 #[.int .i64 room, .int .i64 life, .int .i64 now, .slice ol l cap] (show (Try.prog.info? 31).map (·.size) = some 4 from by kernel_rfl) rfl rfl (by simp) (by simp [Value.oneCell']) ?_; intro w5 hg5 hb5; have HG5 := Lib.hid hg5; have HB5 := Lib.hid (show Box w5 w.heap.size 31 [.int .i64 room, .int .i64 life, .int .i64 now, .slice ol l cap] from hb5); clear hg5 hb5))
  have HS := Lib.hid (pls_mk (WK := ((((w.alloc (.cells #[.int .i64 room, .int .i64 life, .int .i64 now, .slice oa l c] 31)).alloc (.cells #[.int .i64 p.tos, .int .i64 p.id, .bool p.df, .bool p.mf, .int .i64 p.off, .int .i64 p.ttl, .int .i64 p.proto, .int .u32 p.src, .int .u32 p.dst, .slice oo p.ol oc, .slice ob p.bl bc] 25)).alloc (.cells #[.int .i64 0, .int .i64 0, .int .i64 0, .slice none 0 0] 31)).alloc (.cells #[.int .i64 0, .int .i64 0, .bool false, .bool false, .int .i64 0, .int .i64 0, .int .i64 0, .int .u32 0, .int .u32 0, .slice none 0 0, .slice none 0 0] 25))) (K := 4) HP.out HL.out (by simp) (by (exact jkc)) H4.out.1 H4.out.2.1 H4.out.2.2.1 H4.out.2.2.2 (Nat.le_refl _) (by omega) HG5.out)
  have HRQ := Lib.hid (HS.out.2.trans HLQ.out)
  have HT5 := Lib.hid HS.out.1
  have HBX := Lib.hid (show Bx4 w w5 [.int .i64 room, .int .i64 life, .int .i64 now, .slice ol l cap] [.int .i64 p.tos, .int .i64 p.id, .bool p.df, .bool p.mf, .int .i64 p.off, .int .i64 p.ttl, .int .i64 p.proto, .int .u32 p.src, .int .u32 p.dst, .slice oo p.ol oc, .slice ob p.bl bc] [.int .i64 0, .int .i64 0, .int .i64 0, .slice none 0 0] [.int .i64 0, .int .i64 0, .bool false, .bool false, .int .i64 0, .int .i64 0, .int .i64 0, .int .u32 0, .int .u32 0, .slice none 0 0, .slice none 0 0] 31 25 31 25 from ⟨HB5.out, HB4.out.b1.grown HG5.out (by simp), HB4.out.b2.grown HG5.out (by simp), HB4.out.b3.grown HG5.out (by simp)⟩)
  clear HS H4 HB4 HG5 HB5 HCP
  go_upto_region 3 with (first | ((with_reducible show wpList _ _ _ _ _ _); refine wpList_loadBox rfl 25 _ rfl Try.isAgg25 11 Try.sizeOf25 ((HBX.out.on (show Junk w5 _ by (exact jkc))).b1) 0 rfl [.int .i64 p.tos, .int .i64 p.id, .bool p.df, .bool p.mf, .int .i64 p.off, .int .i64 p.ttl, .int .i64 p.proto, .int .u32 p.src, .int .u32 p.dst, .slice oo p.ol oc, .slice ob p.bl bc] rfl rfl ?_) | (go_at_call 23; (with_reducible refine (HPI.out _).mono ?_); rintro e w' ⟨rfl, ⟨osp, dp, rfl⟩⟩))
  have y9 : w5.cell? ⟨w.heap.size + 1, 9, none⟩ = some (.slice oo p.ol oc) := HBX.out.b1.cell rfl
  have y10 : w5.cell? ⟨w.heap.size + 1, 10, none⟩ = some (.slice ob p.bl bc) := HBX.out.b1.cell rfl
  have yf9 := HBX.out.b1.frozen 9
  have yf10 := HBX.out.b1.frozen 10
  have s0 := HBX.out.b0.lt
  have s1 := HBX.out.b1.lt
  refine wp_region_mixm (w5) [7, 8, 9] [(0, true), (1, true), (3, true), (4, true), (2, false), (6, true), (5, false), (7, false), (8, false), (9, false)] (by kernel_rfl) (by kernel_rfl) (by (first | exact jkc | repeat (first | with_reducible exact Junk.refl _ | with_reducible exact Junk.app _ _ _ _ _ | with_reducible apply Junk.alloc | with_reducible apply Junk.junk | with_reducible apply Junk.drew | with_reducible apply Junk.drewN | (with_reducible refine Junk.setCell ?_ (by simp) _)))) ?_; (iterate 4 (refine wpMixM_q rfl (fun K hK => ?_); (go_simp; try go_bits); (refine hK _ ?_; clear hK K))); refine wpMixM_e rfl (fun osm3_0 dm3_0 K hK => ?_); (go_simp; try go_bits); (go_at_call 24; (with_reducible refine (HC1.out _ (HT5.out.junk.trans (by (exact jkc)))).mono ?_); rintro e w' ⟨o1, c1, rfl, ⟨osc, dc, rfl⟩, hcb, hcn, hcf⟩; have HK1 := Lib.hid (And.intro hcb hcf); clear hcb hcn hcf); refine hK _ _ (Junk.pair (by (first | exact jkc | repeat (first | with_reducible exact Junk.refl _ | with_reducible exact Junk.app _ _ _ _ _ | with_reducible apply Junk.alloc | with_reducible apply Junk.junk | with_reducible apply Junk.drew | with_reducible apply Junk.drewN | (with_reducible refine Junk.setCell ?_ (by simp) _))))) ?_; clear hK K; (iterate 1 (refine wpMixM_q rfl (fun K hK => ?_); (go_simp; try go_bits); (refine hK _ ?_; clear hK K))); refine wpMixM_e rfl (fun osm3_1 dm3_1 K hK => ?_); (go_simp; try go_bits); (go_at_call 24; (with_reducible refine (HC2.out _ (HT5.out.junk.trans (by (exact jkc)))).mono ?_); rintro e w' ⟨o2, c2, rfl, ⟨osd, dd, rfl⟩, hcb, hcn, hcf⟩; have HK2 := Lib.hid (And.intro hcb hcf); clear hcb hcn hcf); refine hK _ _ (Junk.pair (by (first | exact jkc | repeat (first | with_reducible exact Junk.refl _ | with_reducible exact Junk.app _ _ _ _ _ | with_reducible apply Junk.alloc | with_reducible apply Junk.junk | with_reducible apply Junk.drew | with_reducible apply Junk.drewN | (with_reducible refine Junk.setCell ?_ (by simp) _))))) ?_; clear hK K; refine wpMixM_late (by decide) rfl (fun osm3_2 dm3_2 K hK => ?_); (go_simp; try go_bits); refine hK _ _ ?_; clear hK K; refine wpMixM_late (by decide) rfl (fun osm3_3 dm3_3 K hK => ?_); (go_simp; try go_bits); refine hK _ _ ?_; clear hK K; refine wpMixM_late (by decide) rfl (fun osm3_4 dm3_4 K hK => ?_); (go_simp; try go_bits); refine hK _ _ ?_; clear hK K; refine wpMixM_nil (fun osm dm => ?_)
  have HG := Lib.hid (show TkG w room life now ol cap l R p o1 o2 c1 c2 (w.heap.size + 1) ((((w5.setCell ⟨w.heap.size + 1, 9, none⟩ (.slice o1 p.ol c1)).setCell ⟨w.heap.size + 1, 10, none⟩ (.slice o2 p.bl c2)).junk (osp ++ (osm3_0 ++ (osc ++ (osm3_1 ++ (osd ++ (osm3_2 ++ (osm3_3 ++ osm3_4))))))) dm3_4).junk osm dm) from (take1_mk HT5.out HBX.out HX.out (HK1.out.1.on (show Junk _ (w5.junk (osp ++ (osm3_0 ++ (osc ++ (osm3_1 ++ (osd ++ (osm3_2 ++ (osm3_3 ++ osm3_4))))))) dm3_4) by (exact jkc))) (HK2.out.1.on (show Junk _ (w5.junk (osp ++ (osm3_0 ++ (osc ++ (osm3_1 ++ (osd ++ (osm3_2 ++ (osm3_3 ++ osm3_4))))))) dm3_4) by (exact jkc))) (HK1.out.2.lower (by simp)) (HK2.out.2.lower (by simp))).on ⟨osm, dm, rfl⟩)
  clear HK1 HK2 y9 y10 yf9 yf10 s0 s1 HT5 HBX HC1 HC2 HPI
  generalize (((w5.setCell ⟨w.heap.size + 1, 9, none⟩ (.slice o1 p.ol c1)).setCell ⟨w.heap.size + 1, 10, none⟩ (.slice o2 p.bl c2)).junk (osp ++ (osm3_0 ++ (osc ++ (osm3_1 ++ (osd ++ (osm3_2 ++ (osm3_3 ++ osm3_4))))))) dm3_4).junk osm dm = V8 at HG ⊢
  go_upto_region 4 with (fail)
  haveI hne : Nonempty (PW (TkG w room life now ol cap l R p o1 o2 c1 c2 (w.heap.size + 1))) := ⟨⟨V8, HG.out⟩⟩
  have hp0 : ∀ x : PW (TkG w room life now ol cap l R p o1 o2 c1 c2 (w.heap.size + 1)), x.V.cell? ⟨w.heap.size, 0, none⟩ = some (.int .i64 room) := fun x => x.h.b0.cell rfl
  have hp1 : ∀ x : PW (TkG w room life now ol cap l R p o1 o2 c1 c2 (w.heap.size + 1)), x.V.cell? ⟨w.heap.size, 1, none⟩ = some (.int .i64 life) := fun x => x.h.b0.cell rfl
  have hp2 : ∀ x : PW (TkG w room life now ol cap l R p o1 o2 c1 c2 (w.heap.size + 1)), x.V.cell? ⟨w.heap.size, 2, none⟩ = some (.int .i64 now) := fun x => x.h.b0.cell rfl
  have hp3 : ∀ x : PW (TkG w room life now ol cap l R p o1 o2 c1 c2 (w.heap.size + 1)), x.V.cell? ⟨w.heap.size, 3, none⟩ = some (.slice ol l cap) := fun x => x.h.b0.cell rfl
  have hi0 : ∀ x : PW (TkG w room life now ol cap l R p o1 o2 c1 c2 (w.heap.size + 1)), x.V.cell? ⟨(w.heap.size + 1), 0, none⟩ = some (.int .i64 p.tos) := fun x => x.h.bx.cell rfl
  have hi1 : ∀ x : PW (TkG w room life now ol cap l R p o1 o2 c1 c2 (w.heap.size + 1)), x.V.cell? ⟨(w.heap.size + 1), 1, none⟩ = some (.int .i64 p.id) := fun x => x.h.bx.cell rfl
  have hi2 : ∀ x : PW (TkG w room life now ol cap l R p o1 o2 c1 c2 (w.heap.size + 1)), x.V.cell? ⟨(w.heap.size + 1), 2, none⟩ = some (.bool p.df) := fun x => x.h.bx.cell rfl
  have hi3 : ∀ x : PW (TkG w room life now ol cap l R p o1 o2 c1 c2 (w.heap.size + 1)), x.V.cell? ⟨(w.heap.size + 1), 3, none⟩ = some (.bool p.mf) := fun x => x.h.bx.cell rfl
  have hi4 : ∀ x : PW (TkG w room life now ol cap l R p o1 o2 c1 c2 (w.heap.size + 1)), x.V.cell? ⟨(w.heap.size + 1), 4, none⟩ = some (.int .i64 p.off) := fun x => x.h.bx.cell rfl
  have hi5 : ∀ x : PW (TkG w room life now ol cap l R p o1 o2 c1 c2 (w.heap.size + 1)), x.V.cell? ⟨(w.heap.size + 1), 5, none⟩ = some (.int .i64 p.ttl) := fun x => x.h.bx.cell rfl
  have hi6 : ∀ x : PW (TkG w room life now ol cap l R p o1 o2 c1 c2 (w.heap.size + 1)), x.V.cell? ⟨(w.heap.size + 1), 6, none⟩ = some (.int .i64 p.proto) := fun x => x.h.bx.cell rfl
  have hi7 : ∀ x : PW (TkG w room life now ol cap l R p o1 o2 c1 c2 (w.heap.size + 1)), x.V.cell? ⟨(w.heap.size + 1), 7, none⟩ = some (.int .u32 p.src) := fun x => x.h.bx.cell rfl
  have hi8 : ∀ x : PW (TkG w room life now ol cap l R p o1 o2 c1 c2 (w.heap.size + 1)), x.V.cell? ⟨(w.heap.size + 1), 8, none⟩ = some (.int .u32 p.dst) := fun x => x.h.bx.cell rfl
  have hi9 : ∀ x : PW (TkG w room life now ol cap l R p o1 o2 c1 c2 (w.heap.size + 1)), x.V.cell? ⟨(w.heap.size + 1), 9, none⟩ = some (.slice o1 p.ol c1) := fun x => x.h.bx.cell rfl
  have hi10 : ∀ x : PW (TkG w room life now ol cap l R p o1 o2 c1 c2 (w.heap.size + 1)), x.V.cell? ⟨(w.heap.size + 1), 10, none⟩ = some (.slice o2 p.bl c2) := fun x => x.h.bx.cell rfl
  have hs0 : ∀ x : PW (TkG w room life now ol cap l R p o1 o2 c1 c2 (w.heap.size + 1)), w.heap.size < x.V.heap.size := fun x => x.h.b0.lt
  have hs1 : ∀ x : PW (TkG w room life now ol cap l R p o1 o2 c1 c2 (w.heap.size + 1)), (w.heap.size + 1) < x.V.heap.size := fun x => x.h.bx.lt
  refine wp_region_mixp (TkG w room life now ol cap l R p o1 o2 c1 c2 (w.heap.size + 1)) (fun _ _ h hj => h.on hj) [(0, true), (1, true), (2, false), (3, false), (4, true), (5, true)] (by kernel_rfl) (by kernel_rfl) (HG.out) ?_; (iterate 2 (refine wpMix_q rfl (fun K hK => ?_); (go_simp; try go_bits); (refine hK _ ?_; clear hK K))); refine wpMix_e1 rfl rfl (fun osm4_0 dm4_0 K hK => ?_); (obtain ⟨cz9, hz1, hz2⟩ := (HG.out.on (show Junk V8 ((V8.drew).junk osm4_0 dm4_0) by (exact jkc))).z2; refine storeBox_wp 31 _ _ rfl hz1 0 #[.int .i64 room, .int .i64 life, .int .i64 now, .slice ol l cap] (show (Try.prog.info? 31).map (·.size) = some 4 from by kernel_rfl) rfl rfl (by rw [hz2]; exact Nat.le_refl 4) (by simp [Value.oneCell']) ?_; intro w9 hg9 hb9; have hb99 := all_box hz2 rfl hb9; have HG9 := Lib.hid ((HG.out.on (show Junk V8 ((V8.drew).junk osm4_0 dm4_0) by (exact jkc))).set2 hg9 hb99 rfl); have HB9 := Lib.hid hb99; clear hz1 hz2 hg9 hb9 hb99); refine hK _ _ (⟨⟨_, by first | exact HG9.out | exact HG10.out⟩, rfl⟩) ?_; clear hK K; refine wpMix_e1 rfl rfl (fun osm4_1 dm4_1 K hK => ?_); (obtain ⟨cz9, hz1, hz2⟩ := (HG9.out.on (show Junk w9 (w9.junk osm4_1 dm4_1) by (exact jkc))).z3; refine storeBox_wp 25 _ _ rfl hz1 0 #[.int .i64 p.tos, .int .i64 p.id, .bool p.df, .bool p.mf, .int .i64 p.off, .int .i64 p.ttl, .int .i64 p.proto, .int .u32 p.src, .int .u32 p.dst, .slice o1 p.ol c1, .slice o2 p.bl c2] (show (Try.prog.info? 25).map (·.size) = some 11 from by kernel_rfl) rfl rfl (by rw [hz2]; exact Nat.le_refl 11) (by simp [Value.oneCell']) ?_; intro w10 hg10 hb10; have hb99 := all_box hz2 rfl hb10; have HG10 := Lib.hid ((HG9.out.on (show Junk w9 (w9.junk osm4_1 dm4_1) by (exact jkc))).set3 hg10 hb99 rfl); have HB10 := Lib.hid (And.intro ((HB9.out.on (show Junk w9 (w9.junk osm4_1 dm4_1) by (exact jkc))).grown hg10 (by simp)) hb99); clear hz1 hz2 hg10 hb10 hb99); refine hK _ _ (⟨⟨_, by first | exact HG9.out | exact HG10.out⟩, rfl⟩) ?_; clear hK K; (iterate 2 (refine wpMix_q rfl (fun K hK => ?_); (go_simp; try go_bits); (refine hK _ ?_; clear hK K))); refine wpMix_nil (fun osm dm => ?_)
  go_wp2
  refine bodyPost_ret (results_cell2tt Try.results10 rfl rfl ((HB10.out.1.on (show Junk w10 _ by (exact jkc))).loadVar 31 Try.isAgg31 Try.sizeOf31) ((HB10.out.2.on (show Junk w10 _ by (exact jkc))).loadVar 25 Try.isAgg25 Try.sizeOf25)) rfl ?_
  have K10 := HG10.out.on (show Junk w10 (w10.junk osm dm) from ⟨_, _, rfl⟩)
  exact takeM_mk HTQ.out HLEN.out K10.s.junk (K10.s.qsat HRQ.out) K10.i
end Go.Proofs.Ytgjppmkadmfibaa
set_option linter.unusedVariables false
set_option maxRecDepth 100000
set_option linter.unusedSimpArgs false
namespace Go.Proofs.Ytgjppmkadmfibaa
open Go.RowKit
set_option maxRecDepth 100000 in
set_option maxHeartbeats 32000000 in
theorem take_bad (room life now : Int) (oa : Option Addr) (l c : Nat) (Q : List Bq) (p : Ip) (oo ob : Option Addr) (oc bc : Nat) (w : World) (hP : QsAt w oa l c Q) (hl2 : l ≤ 1000) (hQ : QsOk Q) (hX : IpAt w p oo oc ob bc) (hpo : p.ol ≤ 1000) (hpb : p.bl ≤ 1000000) (hpi : pieceB p = true) (hbad : (rightQ room life now Q && (mayB p && decide (0 < p.bl))) = false) (ht : takeQ room life now Q p = (Q, zeroIp, false, 1)) : Calls Try.prog 10 #[.agg #[.int .i64 room, .int .i64 life, .int .i64 now, .slice oa l c], .agg #[.int .i64 p.tos, .int .i64 p.id, .bool p.df, .bool p.mf, .int .i64 p.off, .int .i64 p.ttl, .int .i64 p.proto, .int .u32 p.src, .int .u32 p.dst, .slice oo p.ol oc, .slice ob p.bl bc]] w (TakeM w room life now Q p) := by
  have HPI := Lib.hid (fun w1 => show Calls Try.prog 23 #[.agg #[.int .i64 p.tos, .int .i64 p.id, .bool p.df, .bool p.mf, .int .i64 p.off, .int .i64 p.ttl, .int .i64 p.proto, .int .u32 p.src, .int .u32 p.dst, .slice oo p.ol oc, .slice ob p.bl bc]] w1 fun e w' => e = .returned (.bool true) ∧ Junk w1 w' from hpi ▸ piece_any p oo ob oc bc w1)
  obtain ⟨EP, hEP⟩ : ∃ EP, ipErr p = EP := ⟨_, rfl⟩
  have HPU := Lib.hid (fun w1 (hj : Junk w w1) => show Calls Try.prog 25 #[.agg #[.int .i64 p.tos, .int .i64 p.id, .bool p.df, .bool p.mf, .int .i64 p.off, .int .i64 p.ttl, .int .i64 p.proto, .int .u32 p.src, .int .u32 p.dst, .slice oo p.ol oc, .slice ob p.bl bc]] w1 fun e w' => ∃ o1 l1 c1, e = .returned (.tuple #[.slice o1 l1 c1, .int .i64 EP]) ∧ Junk w1 w' from (ipPut_any p oo ob oc bc w1 (by omega) (by omega) (hX.on hj)).mono fun e w' h => by
    obtain ⟨o1, l1, c1, h1, h2, _⟩ := h
    exact ⟨o1, l1, c1, by rw [h1, hEP], h2⟩)
  obtain ⟨⟨L, hL1, hLQ⟩, hlen, hlc, hn⟩ := hP
  have hl : L.length = l := by rw [← hlen, ← hLQ, List.length_map]
  obtain ⟨o1, o2, o3⟩ := hQ.of hLQ
  have HCP := Lib.hid (fun w1 (hj : Junk w w1) => copied_any room life now oa l c L w1 (hL1.on hj) hl (by omega) hn (fun b hb => ⟨by have := (o2 b hb).1; omega, by have := (o2 b hb).2.1; omega, fun f hf => by have := (o2 b hb).2.2.2 f hf; omega⟩))
  have HL := Lib.hid hl
  have HP := Lib.hid hL1
  have HQ := Lib.hid hQ
  have HLQ := Lib.hid hLQ
  have HLEN := Lib.hid hlen
  have HX := Lib.hid hX
  have HTQ := Lib.hid ht
  clear hlen hn hl hL1 hQ hLQ o1 o2 o3 hX ht hlc
  go_enter Try.func10, Try.ntmps10
  go_upto_region 2 with (first | (go_at_call 22; (with_reducible refine (HCP.out _ (by (exact jkc))).mono ?_); rintro e w4 ⟨ol, cap, R, M, rfl, hj4, hO4, hD4, hn4⟩; rw [HL.out] at hO4 hD4 hn4; rw [HL.out]; have HB4 := Lib.hid ((box4 w #[.int .i64 room, .int .i64 life, .int .i64 now, .slice oa l c] #[.int .i64 p.tos, .int .i64 p.id, .bool p.df, .bool p.mf, .int .i64 p.off, .int .i64 p.ttl, .int .i64 p.proto, .int .u32 p.src, .int .u32 p.dst, .slice oo p.ol oc, .slice ob p.bl bc] #[.int .i64 0, .int .i64 0, .int .i64 0, .slice none 0 0] #[.int .i64 0, .int .i64 0, .bool false, .bool false, .int .i64 0, .int .i64 0, .int .i64 0, .int .u32 0, .int .u32 0, .slice none 0 0, .slice none 0 0] 31 25 31 25).on hj4); have H4 := Lib.hid (And.intro hj4 (And.intro hO4 (And.intro hD4 hn4))); clear hj4 hO4 hD4 hn4) | ((with_reducible show wpList _ _ _ _ _ _); refine wpList_storeBox rfl 31 _ _ rfl HB4.out.1 0 #[.int .i64 room, .int .i64 life, .int .i64 now, .slice ol l cap] (show (Try.prog.info? 31).map (·.size) = some 4 from by kernel_rfl) rfl rfl (by simp) (by simp [Value.oneCell']) ?_; intro w5 hg5 hb5; have HG5 := Lib.hid hg5; have HB5 := Lib.hid (show Box w5 w.heap.size 31 [.int .i64 room, .int .i64 life, .int .i64 now, .slice ol l cap] from hb5); clear hg5 hb5))
  have HS := Lib.hid (pls_mk (WK := ((((w.alloc (.cells #[.int .i64 room, .int .i64 life, .int .i64 now, .slice oa l c] 31)).alloc (.cells #[.int .i64 p.tos, .int .i64 p.id, .bool p.df, .bool p.mf, .int .i64 p.off, .int .i64 p.ttl, .int .i64 p.proto, .int .u32 p.src, .int .u32 p.dst, .slice oo p.ol oc, .slice ob p.bl bc] 25)).alloc (.cells #[.int .i64 0, .int .i64 0, .int .i64 0, .slice none 0 0] 31)).alloc (.cells #[.int .i64 0, .int .i64 0, .bool false, .bool false, .int .i64 0, .int .i64 0, .int .i64 0, .int .u32 0, .int .u32 0, .slice none 0 0, .slice none 0 0] 25))) (K := 4) HP.out HL.out (by simp) (by (exact jkc)) H4.out.1 H4.out.2.1 H4.out.2.2.1 H4.out.2.2.2 (Nat.le_refl _) (by omega) HG5.out)
  have HRQ := Lib.hid (HS.out.2.trans HLQ.out)
  have HT5 := Lib.hid HS.out.1
  have HBX := Lib.hid (show Bx4 w w5 [.int .i64 room, .int .i64 life, .int .i64 now, .slice ol l cap] [.int .i64 p.tos, .int .i64 p.id, .bool p.df, .bool p.mf, .int .i64 p.off, .int .i64 p.ttl, .int .i64 p.proto, .int .u32 p.src, .int .u32 p.dst, .slice oo p.ol oc, .slice ob p.bl bc] [.int .i64 0, .int .i64 0, .int .i64 0, .slice none 0 0] [.int .i64 0, .int .i64 0, .bool false, .bool false, .int .i64 0, .int .i64 0, .int .i64 0, .int .u32 0, .int .u32 0, .slice none 0 0, .slice none 0 0] 31 25 31 25 from ⟨HB5.out, HB4.out.b1.grown HG5.out (by simp), HB4.out.b2.grown HG5.out (by simp), HB4.out.b3.grown HG5.out (by simp)⟩)
  clear HS H4 HB4 HG5 HB5 HCP
  have p0 : w5.cell? ⟨w.heap.size + 1, 10, none⟩ = some (.slice ob p.bl bc) := HBX.out.b1.cell rfl
  have s0 := HBX.out.b0.lt
  have s1 := HBX.out.b1.lt
  have hlc2 := HT5.out.own.capLe
  have HOK := Lib.hid (HQ.out.of HRQ.out)
  obtain ⟨RQ, hRQ⟩ : ∃ RQ, rightQ room life now Q = RQ := ⟨_, rfl⟩
  have HRI := Lib.hid (fun w1 (hj : Junk w5 w1) => show Calls Try.prog 13 #[.agg #[.int .i64 room, .int .i64 life, .int .i64 now, .slice ol l cap]] w1 fun e w' => e = .returned (.bool RQ) ∧ Junk w1 w' from by
    rw [← hRQ, ← HRQ.out]
    exact rright_any room life now ol l cap R w1 (HT5.out.plat.on hj) HT5.out.len (by omega) hlc2.1 (by have := HOK.out.1; omega) (fun b hb => by have := (HOK.out.2.1 b hb).1; omega) (fun b hb => (HOK.out.2.1 b hb).2.1) HOK.out.2.2)
  rw [hRQ] at hbad
  have HBD := Lib.hid hbad
  clear hbad hRQ
  cases RQ with
  | false =>
    go_wp2_with (first | ((with_reducible show wpList _ _ _ _ _ _); refine wpList_loadBox rfl 25 _ rfl Try.isAgg25 11 Try.sizeOf25 ((HBX.out.on (show Junk w5 _ by (exact jkc))).b1) 0 rfl [.int .i64 p.tos, .int .i64 p.id, .bool p.df, .bool p.mf, .int .i64 p.off, .int .i64 p.ttl, .int .i64 p.proto, .int .u32 p.src, .int .u32 p.dst, .slice oo p.ol oc, .slice ob p.bl bc] rfl rfl ?_) | ((with_reducible show wpList _ _ _ _ _ _); refine wpList_loadBox rfl 31 _ rfl Try.isAgg31 4 Try.sizeOf31 ((HBX.out.on (show Junk w5 _ by (exact jkc))).b0) 0 rfl [.int .i64 room, .int .i64 life, .int .i64 now, .slice ol l cap] rfl rfl ?_) | (go_at_call 23; (with_reducible refine (HPI.out _).mono ?_); rintro e w' ⟨rfl, ⟨osp, dp, rfl⟩⟩) | (go_at_call 25; (with_reducible refine (HPU.out _ (HT5.out.junk.trans (by (exact jkc)))).mono ?_); rintro e w' ⟨ou, lu, cu, rfl, ⟨osu, du, rfl⟩⟩) | (go_at_call 13; (with_reducible refine (HRI.out _ (by (exact jkc))).mono ?_); rintro e w' ⟨rfl, ⟨osr, dr, rfl⟩⟩) | ((with_reducible show wpList _ _ _ _ _ _); refine wpList_storeBox rfl 31 _ _ rfl ((HBX.out.on (show Junk w5 _ by (exact jkc))).b2) 0 #[.int .i64 room, .int .i64 life, .int .i64 now, .slice ol l cap] (show (Try.prog.info? 31).map (·.size) = some 4 from by kernel_rfl) rfl rfl (by simp) (by simp [Value.oneCell']) ?_; intro w6 hg6 hb6; have H6 := Lib.hid (And.intro (grown_tr (grown_junk (show Junk w5 _ by (exact jkc)) (some (w.heap.size + 2))) hg6) (And.intro (show Box w6 (w.heap.size + 2) 31 [.int .i64 room, .int .i64 life, .int .i64 now, .slice ol l cap] from hb6) (((HBX.out.on (show Junk w5 _ by (exact jkc))).b3).grown hg6 (by simp)))); clear hg6 hb6) | ((with_reducible show wpList _ _ _ _ _ _); refine wpList_storeBox rfl 25 _ _ rfl H6.out.2.2 0 #[.int .i64 0, .int .i64 0, .bool false, .bool false, .int .i64 0, .int .i64 0, .int .i64 0, .int .u32 0, .int .u32 0, .slice none 0 0, .slice none 0 0] (show (Try.prog.info? 25).map (·.size) = some 11 from by kernel_rfl) rfl rfl (by simp) (by simp [Value.oneCell']) ?_; intro w7 hg7 hb7; have H7 := Lib.hid (And.intro hg7 (show Box w7 (w.heap.size + 3) 25 [.int .i64 0, .int .i64 0, .bool false, .bool false, .int .i64 0, .int .i64 0, .int .i64 0, .int .u32 0, .int .u32 0, .slice none 0 0, .slice none 0 0] from hb7)); clear hg7 hb7))
    refine bodyPost_ret (results_cell2tt Try.results10 rfl rfl ((H6.out.2.1.grown H7.out.1 (by simp)).loadVar 31 Try.isAgg31 Try.sizeOf31) (H7.out.2.loadVar 25 Try.isAgg25 Try.sizeOf25)) rfl ?_
    have K7 := (HT5.out.box H6.out.1 (by omega) (by omega)).box H7.out.1 (by omega) (by omega)
    exact takeM_mk HTQ.out HLEN.out K7.junk (K7.qsat HRQ.out) (ip_zero _)
  | true =>
    by_cases hm : mayB p = true
    · have hb0 : p.bl = 0 := by
        have := HBD.out
        rw [hm] at this
        simp at this
        omega
      have hE0 : EP = 0 := by rw [← hEP]; unfold ipErr; rw [if_pos hm]
      clear hm hEP
      subst hE0
      have hb1 : ((p.bl : Int) == 0) = true := by simp [hb0]
      have HB0 := Lib.hid hb0
      clear hb0
      go_wp2_with (first | ((with_reducible show wpList _ _ _ _ _ _); refine wpList_loadBox rfl 25 _ rfl Try.isAgg25 11 Try.sizeOf25 ((HBX.out.on (show Junk w5 _ by (exact jkc))).b1) 0 rfl [.int .i64 p.tos, .int .i64 p.id, .bool p.df, .bool p.mf, .int .i64 p.off, .int .i64 p.ttl, .int .i64 p.proto, .int .u32 p.src, .int .u32 p.dst, .slice oo p.ol oc, .slice ob p.bl bc] rfl rfl ?_) | ((with_reducible show wpList _ _ _ _ _ _); refine wpList_loadBox rfl 31 _ rfl Try.isAgg31 4 Try.sizeOf31 ((HBX.out.on (show Junk w5 _ by (exact jkc))).b0) 0 rfl [.int .i64 room, .int .i64 life, .int .i64 now, .slice ol l cap] rfl rfl ?_) | (go_at_call 23; (with_reducible refine (HPI.out _).mono ?_); rintro e w' ⟨rfl, ⟨osp, dp, rfl⟩⟩) | (go_at_call 25; (with_reducible refine (HPU.out _ (HT5.out.junk.trans (by (exact jkc)))).mono ?_); rintro e w' ⟨ou, lu, cu, rfl, ⟨osu, du, rfl⟩⟩) | (go_at_call 13; (with_reducible refine (HRI.out _ (by (exact jkc))).mono ?_); rintro e w' ⟨rfl, ⟨osr, dr, rfl⟩⟩) | ((with_reducible show wpList _ _ _ _ _ _); refine wpList_storeBox rfl 31 _ _ rfl ((HBX.out.on (show Junk w5 _ by (exact jkc))).b2) 0 #[.int .i64 room, .int .i64 life, .int .i64 now, .slice ol l cap] (show (Try.prog.info? 31).map (·.size) = some 4 from by kernel_rfl) rfl rfl (by simp) (by simp [Value.oneCell']) ?_; intro w6 hg6 hb6; have H6 := Lib.hid (And.intro (grown_tr (grown_junk (show Junk w5 _ by (exact jkc)) (some (w.heap.size + 2))) hg6) (And.intro (show Box w6 (w.heap.size + 2) 31 [.int .i64 room, .int .i64 life, .int .i64 now, .slice ol l cap] from hb6) (((HBX.out.on (show Junk w5 _ by (exact jkc))).b3).grown hg6 (by simp)))); clear hg6 hb6) | ((with_reducible show wpList _ _ _ _ _ _); refine wpList_storeBox rfl 25 _ _ rfl H6.out.2.2 0 #[.int .i64 0, .int .i64 0, .bool false, .bool false, .int .i64 0, .int .i64 0, .int .i64 0, .int .u32 0, .int .u32 0, .slice none 0 0, .slice none 0 0] (show (Try.prog.info? 25).map (·.size) = some 11 from by kernel_rfl) rfl rfl (by simp) (by simp [Value.oneCell']) ?_; intro w7 hg7 hb7; have H7 := Lib.hid (And.intro hg7 (show Box w7 (w.heap.size + 3) 25 [.int .i64 0, .int .i64 0, .bool false, .bool false, .int .i64 0, .int .i64 0, .int .i64 0, .int .u32 0, .int .u32 0, .slice none 0 0, .slice none 0 0] from hb7)); clear hg7 hb7))
      refine bodyPost_ret (results_cell2tt Try.results10 rfl rfl ((H6.out.2.1.grown H7.out.1 (by simp)).loadVar 31 Try.isAgg31 Try.sizeOf31) (H7.out.2.loadVar 25 Try.isAgg25 Try.sizeOf25)) rfl ?_
      have K7 := (HT5.out.box H6.out.1 (by omega) (by omega)).box H7.out.1 (by omega) (by omega)
      exact takeM_mk HTQ.out HLEN.out K7.junk (K7.qsat HRQ.out) (ip_zero _)
    · have hE0 : EP = 1 := by rw [← hEP]; unfold ipErr; rw [if_neg hm]
      clear hm hEP
      subst hE0
      go_wp2_with (first | ((with_reducible show wpList _ _ _ _ _ _); refine wpList_loadBox rfl 25 _ rfl Try.isAgg25 11 Try.sizeOf25 ((HBX.out.on (show Junk w5 _ by (exact jkc))).b1) 0 rfl [.int .i64 p.tos, .int .i64 p.id, .bool p.df, .bool p.mf, .int .i64 p.off, .int .i64 p.ttl, .int .i64 p.proto, .int .u32 p.src, .int .u32 p.dst, .slice oo p.ol oc, .slice ob p.bl bc] rfl rfl ?_) | ((with_reducible show wpList _ _ _ _ _ _); refine wpList_loadBox rfl 31 _ rfl Try.isAgg31 4 Try.sizeOf31 ((HBX.out.on (show Junk w5 _ by (exact jkc))).b0) 0 rfl [.int .i64 room, .int .i64 life, .int .i64 now, .slice ol l cap] rfl rfl ?_) | (go_at_call 23; (with_reducible refine (HPI.out _).mono ?_); rintro e w' ⟨rfl, ⟨osp, dp, rfl⟩⟩) | (go_at_call 25; (with_reducible refine (HPU.out _ (HT5.out.junk.trans (by (exact jkc)))).mono ?_); rintro e w' ⟨ou, lu, cu, rfl, ⟨osu, du, rfl⟩⟩) | (go_at_call 13; (with_reducible refine (HRI.out _ (by (exact jkc))).mono ?_); rintro e w' ⟨rfl, ⟨osr, dr, rfl⟩⟩) | ((with_reducible show wpList _ _ _ _ _ _); refine wpList_storeBox rfl 31 _ _ rfl ((HBX.out.on (show Junk w5 _ by (exact jkc))).b2) 0 #[.int .i64 room, .int .i64 life, .int .i64 now, .slice ol l cap] (show (Try.prog.info? 31).map (·.size) = some 4 from by kernel_rfl) rfl rfl (by simp) (by simp [Value.oneCell']) ?_; intro w6 hg6 hb6; have H6 := Lib.hid (And.intro (grown_tr (grown_junk (show Junk w5 _ by (exact jkc)) (some (w.heap.size + 2))) hg6) (And.intro (show Box w6 (w.heap.size + 2) 31 [.int .i64 room, .int .i64 life, .int .i64 now, .slice ol l cap] from hb6) (((HBX.out.on (show Junk w5 _ by (exact jkc))).b3).grown hg6 (by simp)))); clear hg6 hb6) | ((with_reducible show wpList _ _ _ _ _ _); refine wpList_storeBox rfl 25 _ _ rfl H6.out.2.2 0 #[.int .i64 0, .int .i64 0, .bool false, .bool false, .int .i64 0, .int .i64 0, .int .i64 0, .int .u32 0, .int .u32 0, .slice none 0 0, .slice none 0 0] (show (Try.prog.info? 25).map (·.size) = some 11 from by kernel_rfl) rfl rfl (by simp) (by simp [Value.oneCell']) ?_; intro w7 hg7 hb7; have H7 := Lib.hid (And.intro hg7 (show Box w7 (w.heap.size + 3) 25 [.int .i64 0, .int .i64 0, .bool false, .bool false, .int .i64 0, .int .i64 0, .int .i64 0, .int .u32 0, .int .u32 0, .slice none 0 0, .slice none 0 0] from hb7)); clear hg7 hb7))
      refine bodyPost_ret (results_cell2tt Try.results10 rfl rfl ((H6.out.2.1.grown H7.out.1 (by simp)).loadVar 31 Try.isAgg31 Try.sizeOf31) (H7.out.2.loadVar 25 Try.isAgg25 Try.sizeOf25)) rfl ?_
      have K7 := (HT5.out.box H6.out.1 (by omega) (by omega)).box H7.out.1 (by omega) (by omega)
      exact takeM_mk HTQ.out HLEN.out K7.junk (K7.qsat HRQ.out) (ip_zero _)
end Go.Proofs.Ytgjppmkadmfibaa
set_option linter.unusedVariables false
set_option maxRecDepth 100000
set_option linter.unusedSimpArgs false
namespace Go.Proofs.Ytgjppmkadmfibaa
open Go.RowKit
theorem map_erase {α β : Type} (f : α → β) (L : List α) (i : Nat) : (L.eraseIdx i).map f = (L.map f).eraseIdx i := by
  rw [List.eraseIdx_eq_take_drop_succ, List.eraseIdx_eq_take_drop_succ, List.map_append, List.map_take, List.map_drop]
theorem junk_cells {V : World} {g o : Nat} {cs : List Value} (h : ∀ j v, cs[j]? = some v → V.cell? ⟨g, o + j, none⟩ = some v) : ∀ w', (∃ x : Jk, w' = V.junk x.os x.d) → ∀ j v, cs[j]? = some v → w'.cell? ⟨g, o + j, none⟩ = some v := by
  rintro w' ⟨x, rfl⟩ j v hv
  have hc := h j v hv
  have hlt : g < V.heap.size := by
    unfold World.cell? at hc
    cases hb : V.heap[g]? with
    | none => simp [hb] at hc
    | some o => exact (Array.getElem?_eq_some_iff.1 hb).1
  rw [World.cell?_junk _ _ _ _ _ hlt]
  exact hc
theorem junk_cells0 {V : World} {g : Nat} {e : TypeId} {cs : List Value} (h : Box V g e cs) : ∀ w', (∃ x : Jk, w' = V.junk x.os x.d) → ∀ j v, cs[j]? = some v → w'.cell? ⟨g, 0 + j, none⟩ = some v := junk_cells (fun j v hv => by rw [Nat.zero_add]; exact h.cell hv)
theorem runGo_mem {tot : Int} : ∀ {at_ : Int} {F : List Od}, 0 ≤ at_ → runGo tot at_ F = true → ∀ f ∈ F, 0 ≤ f.k ∧ f.k ≤ 65535 ∧ f.l ≤ 65535
  | _, [], _, _, f, hf => by cases hf
  | at_, x :: F, h0, h, f, hf => by
    rw [runGo] at h
    simp only [Bool.and_eq_true, Bool.not_eq_true'] at h
    have h1 := h.1
    unfold badRun at h1
    rw [decide_eq_false_iff_not] at h1
    rcases List.mem_cons.1 hf with rfl | hf
    · omega
    · exact runGo_mem (by omega) h.2 f hf
/-- The runs of a right pool. -/
theorem right_runs {room life now : Int} {Q : List Bq} (h : rightQ room life now Q = true) {i : Nat} {b : Bq} (hb : Q[i]? = some b) : ∀ f ∈ b.runs, 0 ≤ f.k ∧ f.k ≤ 65535 ∧ f.l ≤ 65535 := by
  unfold rightQ at h
  simp only [Bool.and_eq_true] at h
  have h1 := listGo_mem h.2.2.2.2.1 b (List.mem_of_getElem? hb)
  unfold bufB at h1
  simp only [Bool.and_eq_true] at h1
  have h2 := h1.2.1
  unfold runsB at h2
  simp only [Bool.and_eq_true] at h2
  exact runGo_mem (Int.le_refl 0) h2.1
set_option maxRecDepth 100000 in
set_option maxHeartbeats 32000000 in
theorem take_clash (room life now : Int) (oa : Option Addr) (l c : Nat) (Q : List Bq) (p : Ip) (oo ob : Option Addr) (oc bc : Nat) (w : World) (hP : QsAt w oa l c Q) (hl2 : l ≤ 1000) (hQ : QsOk Q) (hX : IpAt w p oo oc ob bc) (hpo : p.ol ≤ 1000) (hpb : p.bl ≤ 1000000) (hpi : pieceB p = true) (hr : rightQ room life now Q = true) (hm : mayB p = true) (hb0 : 0 < p.bl) (i : Nat) (hi : Q.findIdx? (mineP p) = some i) (bq : Bq) (hbq : Q[i]? = some bq) (hcl : clashB bq p = true) (ht : takeQ room life now Q p = (Q.eraseIdx i, zeroIp, false, 7)) : Calls Try.prog 10 #[.agg #[.int .i64 room, .int .i64 life, .int .i64 now, .slice oa l c], .agg #[.int .i64 p.tos, .int .i64 p.id, .bool p.df, .bool p.mf, .int .i64 p.off, .int .i64 p.ttl, .int .i64 p.proto, .int .u32 p.src, .int .u32 p.dst, .slice oo p.ol oc, .slice ob p.bl bc]] w (TakeM w room life now Q p) := by
  have HPI := Lib.hid (fun w1 => show Calls Try.prog 23 #[.agg #[.int .i64 p.tos, .int .i64 p.id, .bool p.df, .bool p.mf, .int .i64 p.off, .int .i64 p.ttl, .int .i64 p.proto, .int .u32 p.src, .int .u32 p.dst, .slice oo p.ol oc, .slice ob p.bl bc]] w1 fun e w' => e = .returned (.bool true) ∧ Junk w1 w' from hpi ▸ piece_any p oo ob oc bc w1)
  have HPU := Lib.hid (fun w1 (hj : Junk w w1) => show Calls Try.prog 25 #[.agg #[.int .i64 p.tos, .int .i64 p.id, .bool p.df, .bool p.mf, .int .i64 p.off, .int .i64 p.ttl, .int .i64 p.proto, .int .u32 p.src, .int .u32 p.dst, .slice oo p.ol oc, .slice ob p.bl bc]] w1 fun e w' => ∃ o1 l1 c1, e = .returned (.tuple #[.slice o1 l1 c1, .int .i64 0]) ∧ Junk w1 w' from (ipPut_any p oo ob oc bc w1 (by omega) (by omega) (hX.on hj)).mono fun e w' h => by
    obtain ⟨o1, l1, c1, h1, h2, _⟩ := h
    exact ⟨o1, l1, c1, by rw [h1, show ipErr p = 0 from if_pos hm], h2⟩)
  have HMP := Lib.hid (may_iff.1 hm)
  have hb1 : ((p.bl : Int) == 0) = false := by simp; omega
  have HR0 := Lib.hid hr
  clear hpi hm hr
  obtain ⟨⟨L, hL1, hLQ⟩, hlen, hlc, hn⟩ := hP
  have hl : L.length = l := by rw [← hlen, ← hLQ, List.length_map]
  obtain ⟨o1, o2, o3⟩ := hQ.of hLQ
  have HCP := Lib.hid (fun w1 (hj : Junk w w1) => copied_any room life now oa l c L w1 (hL1.on hj) hl (by omega) hn (fun b hb => ⟨by have := (o2 b hb).1; omega, by have := (o2 b hb).2.1; omega, fun f hf => by have := (o2 b hb).2.2.2 f hf; omega⟩))
  have HL := Lib.hid hl
  have HP := Lib.hid hL1
  have HQ := Lib.hid hQ
  have HLQ := Lib.hid hLQ
  have HLEN := Lib.hid hlen
  have HX := Lib.hid hX
  have HTQ := Lib.hid ht
  clear hlen hn hl hL1 hQ hLQ o1 o2 o3 hX ht hlc
  go_enter Try.func10, Try.ntmps10
  go_upto_region 2 with (first | (go_at_call 22; (with_reducible refine (HCP.out _ (by (exact jkc))).mono ?_); rintro e w4 ⟨ol, cap, R, M, rfl, hj4, hO4, hD4, hn4⟩; rw [HL.out] at hO4 hD4 hn4; rw [HL.out]; have HB4 := Lib.hid ((box4 w #[.int .i64 room, .int .i64 life, .int .i64 now, .slice oa l c] #[.int .i64 p.tos, .int .i64 p.id, .bool p.df, .bool p.mf, .int .i64 p.off, .int .i64 p.ttl, .int .i64 p.proto, .int .u32 p.src, .int .u32 p.dst, .slice oo p.ol oc, .slice ob p.bl bc] #[.int .i64 0, .int .i64 0, .int .i64 0, .slice none 0 0] #[.int .i64 0, .int .i64 0, .bool false, .bool false, .int .i64 0, .int .i64 0, .int .i64 0, .int .u32 0, .int .u32 0, .slice none 0 0, .slice none 0 0] 31 25 31 25).on hj4); have H4 := Lib.hid (And.intro hj4 (And.intro hO4 (And.intro hD4 hn4))); clear hj4 hO4 hD4 hn4) | ((with_reducible show wpList _ _ _ _ _ _); refine wpList_storeBox rfl 31 _ _ rfl HB4.out.1 0 #[.int .i64 room, .int .i64 life, .int .i64 now, .slice ol l cap] (show (Try.prog.info? 31).map (·.size) = some 4 from by kernel_rfl) rfl rfl (by simp) (by simp [Value.oneCell']) ?_; intro w5 hg5 hb5; have HG5 := Lib.hid hg5; have HB5 := Lib.hid (show Box w5 w.heap.size 31 [.int .i64 room, .int .i64 life, .int .i64 now, .slice ol l cap] from hb5); clear hg5 hb5))
  have HS := Lib.hid (pls_mk (WK := ((((w.alloc (.cells #[.int .i64 room, .int .i64 life, .int .i64 now, .slice oa l c] 31)).alloc (.cells #[.int .i64 p.tos, .int .i64 p.id, .bool p.df, .bool p.mf, .int .i64 p.off, .int .i64 p.ttl, .int .i64 p.proto, .int .u32 p.src, .int .u32 p.dst, .slice oo p.ol oc, .slice ob p.bl bc] 25)).alloc (.cells #[.int .i64 0, .int .i64 0, .int .i64 0, .slice none 0 0] 31)).alloc (.cells #[.int .i64 0, .int .i64 0, .bool false, .bool false, .int .i64 0, .int .i64 0, .int .i64 0, .int .u32 0, .int .u32 0, .slice none 0 0, .slice none 0 0] 25))) (K := 4) HP.out HL.out (by simp) (by (exact jkc)) H4.out.1 H4.out.2.1 H4.out.2.2.1 H4.out.2.2.2 (Nat.le_refl _) (by omega) HG5.out)
  have HRQ := Lib.hid (HS.out.2.trans HLQ.out)
  have HT5 := Lib.hid HS.out.1
  have HBX := Lib.hid (show Bx4 w w5 [.int .i64 room, .int .i64 life, .int .i64 now, .slice ol l cap] [.int .i64 p.tos, .int .i64 p.id, .bool p.df, .bool p.mf, .int .i64 p.off, .int .i64 p.ttl, .int .i64 p.proto, .int .u32 p.src, .int .u32 p.dst, .slice oo p.ol oc, .slice ob p.bl bc] [.int .i64 0, .int .i64 0, .int .i64 0, .slice none 0 0] [.int .i64 0, .int .i64 0, .bool false, .bool false, .int .i64 0, .int .i64 0, .int .i64 0, .int .u32 0, .int .u32 0, .slice none 0 0, .slice none 0 0] 31 25 31 25 from ⟨HB5.out, HB4.out.b1.grown HG5.out (by simp), HB4.out.b2.grown HG5.out (by simp), HB4.out.b3.grown HG5.out (by simp)⟩)
  clear HS H4 HB4 HG5 HB5 HCP
  have p0 : w5.cell? ⟨w.heap.size + 1, 10, none⟩ = some (.slice ob p.bl bc) := HBX.out.b1.cell rfl
  have s0 := HBX.out.b0.lt
  have s1 := HBX.out.b1.lt
  have hlc2 := HT5.out.own.capLe
  have HOK := Lib.hid (HQ.out.of HRQ.out)
  have HRI := Lib.hid (fun w1 (hj : Junk w5 w1) => show Calls Try.prog 13 #[.agg #[.int .i64 room, .int .i64 life, .int .i64 now, .slice ol l cap]] w1 fun e w' => e = .returned (.bool true) ∧ Junk w1 w' from by
    rw [← HR0.out, ← HRQ.out]
    exact rright_any room life now ol l cap R w1 (HT5.out.plat.on hj) HT5.out.len (by omega) hlc2.1 (by have := HOK.out.1; omega) (fun b hb => by have := (HOK.out.2.1 b hb).1; omega) (fun b hb => (HOK.out.2.1 b hb).2.1) HOK.out.2.2)
  go_upto_region 8 with (first | ((with_reducible show wpList _ _ _ _ _ _); refine wpList_loadBox rfl 25 _ rfl Try.isAgg25 11 Try.sizeOf25 ((HBX.out.on (show Junk w5 _ by (exact jkc))).b1) 0 rfl [.int .i64 p.tos, .int .i64 p.id, .bool p.df, .bool p.mf, .int .i64 p.off, .int .i64 p.ttl, .int .i64 p.proto, .int .u32 p.src, .int .u32 p.dst, .slice oo p.ol oc, .slice ob p.bl bc] rfl rfl ?_) | ((with_reducible show wpList _ _ _ _ _ _); refine wpList_loadBox rfl 31 _ rfl Try.isAgg31 4 Try.sizeOf31 ((HBX.out.on (show Junk w5 _ by (exact jkc))).b0) 0 rfl [.int .i64 room, .int .i64 life, .int .i64 now, .slice ol l cap] rfl rfl ?_) | (go_at_call 23; (with_reducible refine (HPI.out _).mono ?_); rintro e w' ⟨rfl, ⟨osp, dp, rfl⟩⟩) | (go_at_call 25; (with_reducible refine (HPU.out _ (HT5.out.junk.trans (by (exact jkc)))).mono ?_); rintro e w' ⟨ou, lu, cu, rfl, ⟨osu, du, rfl⟩⟩) | (go_at_call 13; (with_reducible refine (HRI.out _ (by (exact jkc))).mono ?_); rintro e w' ⟨rfl, ⟨osr, dr, rfl⟩⟩))
  refine wp_genX (fun V => Junk w5 V) (by (exact jkc)) ?_
  intro V7 hj7
  have HT7 := Lib.hid (HT5.out.on hj7)
  have HB7 := Lib.hid (HBX.out.on hj7)
  clear hj7 p0 s0 s1 HPI HPU HRI HT5 HBX
  have HROW := Lib.hid (show ∀ r, r < w.heap.size + 4 → some r ≠ rowOf ol from fun r hr he => by
    cases hob : ol with
    | none => rw [hob] at he; cases he
    | some a =>
      rw [hob] at he
      have h1 : r = a.block := Option.some.inj he
      have := own_fresh HT7.out.own a hob
      omega)
  have HRL := Lib.hid HT7.out.len
  have x3 : V7.cell? ⟨w.heap.size, 3, none⟩ = some (.slice ol l cap) := HB7.out.b0.cell rfl
  have s0 := HB7.out.b0.lt
  have s1 := HB7.out.b1.lt
  have HIX := Lib.hid (fun w1 (hj : Junk V7 w1) => ridxB_any 27 #[.pointer (some ⟨w.heap.size + 1, 0, none⟩)] _ ol l cap R (mineP p) w1 (by omega) HRL.out (HT7.out.own.on hj) (fun w2 hj2 b hb => by
    have b1 := HB7.out.b1.on (hj.trans hj2)
    exact clo27_any (w.heap.size + 1) p.src p.dst p.id p.proto w2 b1.lt (b1.cell rfl) (b1.cell rfl) (b1.cell rfl) (b1.cell rfl) w2 (Junk.refl _) b _ rfl) (fun _ _ => enter_fn Try.func27 (by kernel_rfl) rfl _ _))
  rw [HRQ.out] at HIX
  have hmf : ∀ (fn : Fn) (first cap : Array Value) (w : World), (Instr.makeFunc fn first cap).run Try.prog w = .ok (.func fn first cap) w := fun _ _ _ _ => rfl
  obtain ⟨hil, -, -⟩ := List.findIdx?_eq_some_iff_getElem.1 hi
  have hil2 : i < l := by rw [← HLEN.out]; exact hil
  obtain ⟨b, hb⟩ : ∃ b, R[i]? = some b := ⟨_, List.getElem?_eq_getElem (by rw [HRL.out]; exact hil2)⟩
  have HBR := Lib.hid hb
  have HBQ := Lib.hid (show Q[i]? = some b.q from by rw [← HRQ.out, List.getElem?_map, hb]; rfl)
  have hbm := List.mem_of_getElem? hb
  have HIN := Lib.hid (HT7.out.ins b hbm)
  obtain ⟨g, rfl⟩ : ∃ g, ol = some ⟨g, 0, none⟩ := by
    rcases HT7.out.own.form with ⟨_, h, _⟩ | ⟨g, cur, h, _⟩
    · omega
    · exact ⟨g, h⟩
  have HC := Lib.hid (own_bf HT7.out.own hb)
  have gs := (own_geR HT7.out.own).2
  obtain ⟨n, hn⟩ : ∃ n, b.F.length = n := ⟨_, rfl⟩
  have hn6 : n ≤ 100000 := by rw [← hn]; exact (HOK.out.2.1 b hbm).1
  have HN := Lib.hid hn
  have HRB := Lib.hid (right_runs HR0.out HBQ.out)
  have hi0 : (0 : Int) ≤ (i : Int) := by omega
  have hi1 : ((i : Int) < 0) = False := by simp
  have hiL : (i : Int) < (l : Int) := by omega
  rw [hi, show idxR (some i) = (i : Int) from rfl] at HIX
  obtain ⟨CQ, hCQ⟩ : ∃ CQ, clashB b.q p = CQ := ⟨_, rfl⟩
  have HCL := Lib.hid (fun w1 (hj : Junk V7 w1) => show Calls Try.prog 29 #[.agg b.cells.toArray, .agg #[.int .i64 p.tos, .int .i64 p.id, .bool p.df, .bool p.mf, .int .i64 p.off, .int .i64 p.ttl, .int .i64 p.proto, .int .u32 p.src, .int .u32 p.dst, .slice oo p.ol oc, .slice ob p.bl bc]] w1 fun e w' => e = .returned (.bool CQ) ∧ Junk w1 w' from by
    rw [← hCQ]
    exact clashes_any b b.F.length p oo ob oc bc w1 (HIN.out.runs.on hj) rfl (by rw [HN.out]; omega) (fun f hf => by
      obtain ⟨(a1 : 0 ≤ f.k), (a2 : f.k ≤ 65535), (a3 : f.l ≤ 65535)⟩ := HRB.out f.d (List.mem_map.2 ⟨f, hf, rfl⟩)
      exact ⟨a1, by omega, by omega⟩) (by have := HMP.out.off; omega) (by omega))
  have HCQ := Lib.hid hCQ
  clear hb hn hbm hCQ hi hil
  obtain rfl : bq = b.q := by have := HBQ.out; rw [hbq] at this; exact Option.some.inj this
  have hc2 : CQ = true := HCQ.out.symm.trans hcl
  clear hbq hcl
  subst hc2
  go_upto_region 9 with (first | (go_at_call 26; (with_reducible refine (HIX.out _ (by (exact jkc))).mono ?_); rintro e w' ⟨rfl, ⟨osx, dx, rfl⟩⟩))
  refine wp_genX (fun V => Junk V7 V) (by (exact jkc)) ?_
  intro V9 hj9
  have HT9 := Lib.hid (HT7.out.on hj9)
  have HB9 := Lib.hid (HB7.out.on hj9)
  have HC9 := Lib.hid (own_bf HT9.out.own HBR.out)
  have HJ9 := Lib.hid hj9
  have y3 : V9.cell? ⟨w.heap.size, 3, none⟩ = some (.slice (some ⟨g, 0, none⟩) l cap) := HB9.out.b0.cell rfl
  have z0 := HB9.out.b0.lt
  have z1 := HB9.out.b1.lt
  have zg := (own_geR HT9.out.own).2
  clear hj9 x3 s0 s1 gs HT7 HB7 HC HIX
  refine wp_region_junk (by kernel_rfl) (by kernel_rfl) ?_
  iterate 7 (go_big_quiet_step (fail))
  (refine wpQuiet_loadAgg (by first | rfl | (simp [Region.wanted, yielded]; done)) 45 _ rfl Try.isAgg45 g (i * 19) b.cells Try.sizeOf45 rfl (junk_cells HC9.out) ?_; conv => arg 6; simp only [Act.put, List.setIfInBounds_toArray, List.set_cons_zero, List.set_cons_succ])
  (refine wpQuiet_loadAgg (by first | rfl | (simp [Region.wanted, yielded]; done)) 25 _ rfl Try.isAgg25 (w.heap.size + 1) 0 [.int .i64 p.tos, .int .i64 p.id, .bool p.df, .bool p.mf, .int .i64 p.off, .int .i64 p.ttl, .int .i64 p.proto, .int .u32 p.src, .int .u32 p.dst, .slice oo p.ol oc, .slice ob p.bl bc] Try.sizeOf25 rfl (junk_cells0 HB9.out.b1) ?_; conv => arg 6; simp only [Act.put, List.setIfInBounds_toArray, List.set_cons_zero, List.set_cons_succ])
  repeat (go_big_quiet_step (first | (go_at_call 29; with_reducible exact Calls.jc (HCL.out _ (HJ9.out.trans (by (exact jkc)))))))
  refine wpQuiet_nil ?_; rintro _ ⟨⟨osq9, dq9⟩, rfl⟩
  have HDL := Lib.hid (fun w1 (hj : Junk V9 w1) => delB_any g l cap i (l - (i + 1)) R w w1 (by omega) HRL.out (by omega) (HT9.out.junk.trans hj) ((HT9.out.own.on hj).lower (by omega)))
  have hm1 : i + (l - (i + 1)) = l - 1 := by omega
  rw [hm1] at HDL
  have HSUB := Lib.hid (show ∀ x ∈ R.eraseIdx i, x ∈ R from fun x hx => List.mem_of_mem_eraseIdx hx)
  go_upto_region 11 with (first | (go_at_call 30; (with_reducible refine (HDL.out _ (by (exact jkc))).mono ?_); rintro e w6 ⟨rfl, hj6, hg6, ho6⟩; have hb0 := (HB9.out.b0.on (show Junk V9 _ by (exact jkc))).grown hg6 (HROW.out _ (by omega)); have u3 := hb0.cell (j := 3) rfl; have uf := hb0.frozen 3; have us := hb0.lt; have H6 := Lib.hid (And.intro (show Bx4 w w6 [.int .i64 room, .int .i64 life, .int .i64 now, .slice (some ⟨g, 0, none⟩) l cap] [.int .i64 p.tos, .int .i64 p.id, .bool p.df, .bool p.mf, .int .i64 p.off, .int .i64 p.ttl, .int .i64 p.proto, .int .u32 p.src, .int .u32 p.dst, .slice oo p.ol oc, .slice ob p.bl bc] [.int .i64 0, .int .i64 0, .int .i64 0, .slice none 0 0] [.int .i64 0, .int .i64 0, .bool false, .bool false, .int .i64 0, .int .i64 0, .int .i64 0, .int .u32 0, .int .u32 0, .slice none 0 0, .slice none 0 0] 31 25 31 25 from ⟨hb0, (HB9.out.b1.on (show Junk V9 _ by (exact jkc))).grown hg6 (HROW.out _ (by omega)), (HB9.out.b2.on (show Junk V9 _ by (exact jkc))).grown hg6 (HROW.out _ (by omega)), (HB9.out.b3.on (show Junk V9 _ by (exact jkc))).grown hg6 (HROW.out _ (by omega))⟩) ((HT9.out.on (show Junk V9 _ by (exact jkc))).list hg6 hj6 (own_raise ho6 (fun a ha => own_fresh HT9.out.own a ha)) HSUB.out (Nat.sub_le _ _))); clear hb0 hj6 hg6 ho6))
  have HE := Lib.hid (show PlS w (w6.setCell ⟨w.heap.size, 3, none⟩ (.slice (some ⟨g, 0, none⟩) (l - 1) cap)) 4 (some ⟨g, 0, none⟩) cap (l - 1) (R.eraseIdx i) ∧ Bx4 w (w6.setCell ⟨w.heap.size, 3, none⟩ (.slice (some ⟨g, 0, none⟩) (l - 1) cap)) [.int .i64 room, .int .i64 life, .int .i64 now, .slice (some ⟨g, 0, none⟩) (l - 1) cap] [.int .i64 p.tos, .int .i64 p.id, .bool p.df, .bool p.mf, .int .i64 p.off, .int .i64 p.ttl, .int .i64 p.proto, .int .u32 p.src, .int .u32 p.dst, .slice oo p.ol oc, .slice ob p.bl bc] [.int .i64 0, .int .i64 0, .int .i64 0, .slice none 0 0] [.int .i64 0, .int .i64 0, .bool false, .bool false, .int .i64 0, .int .i64 0, .int .i64 0, .int .u32 0, .int .u32 0, .slice none 0 0, .slice none 0 0] 31 25 31 25 from
    ⟨H6.out.2.box (grown_set w6 ⟨w.heap.size, 3, none⟩ _) (Nat.le_refl _) (by simp only; omega), H6.out.1.b0.set 3 _, H6.out.1.b1.far (by simp) _, H6.out.1.b2.far (by simp) _, H6.out.1.b3.far (by simp) _⟩)
  generalize w6.setCell ⟨w.heap.size, 3, none⟩ (.slice (some ⟨g, 0, none⟩) (l - 1) cap) = VE at HE ⊢
  have HTE := Lib.hid HE.out.1
  have HBE := Lib.hid HE.out.2
  have HRE := Lib.hid (show (R.eraseIdx i).map Bf.q = Q.eraseIdx i from by rw [← HRQ.out, map_erase])
  have HQL := Lib.hid (show (Q.eraseIdx i).length = l - 1 from by rw [List.length_eraseIdx_of_lt (by rw [HLEN.out]; exact hil2), HLEN.out])
  clear H6 u3 uf us HE HT9 HB9 HDL HC9 y3 z0 z1 zg
  go_wp2_with (first | ((with_reducible show wpList _ _ _ _ _ _); refine wpList_loadBox rfl 31 _ rfl Try.isAgg31 4 Try.sizeOf31 ((HBE.out.on (show Junk VE _ by (exact jkc))).b0) 0 rfl [.int .i64 room, .int .i64 life, .int .i64 now, .slice (some ⟨g, 0, none⟩) (l - 1) cap] rfl rfl ?_) | ((with_reducible show wpList _ _ _ _ _ _); refine wpList_storeBox rfl 31 _ _ rfl ((HBE.out.on (show Junk VE _ by (exact jkc))).b2) 0 #[.int .i64 room, .int .i64 life, .int .i64 now, .slice (some ⟨g, 0, none⟩) (l - 1) cap] (show (Try.prog.info? 31).map (·.size) = some 4 from by kernel_rfl) rfl rfl (by simp) (by simp [Value.oneCell']) ?_; intro w6 hg6 hb6; have H6 := Lib.hid (And.intro (grown_tr (grown_junk (show Junk VE _ by (exact jkc)) (some (w.heap.size + 2))) hg6) (And.intro (show Box w6 (w.heap.size + 2) 31 [.int .i64 room, .int .i64 life, .int .i64 now, .slice (some ⟨g, 0, none⟩) (l - 1) cap] from hb6) (((HBE.out.on (show Junk VE _ by (exact jkc))).b3).grown hg6 (by simp)))); clear hg6 hb6) | ((with_reducible show wpList _ _ _ _ _ _); refine wpList_storeBox rfl 25 _ _ rfl H6.out.2.2 0 #[.int .i64 0, .int .i64 0, .bool false, .bool false, .int .i64 0, .int .i64 0, .int .i64 0, .int .u32 0, .int .u32 0, .slice none 0 0, .slice none 0 0] (show (Try.prog.info? 25).map (·.size) = some 11 from by kernel_rfl) rfl rfl (by simp) (by simp [Value.oneCell']) ?_; intro w7 hg7 hb7; have H7 := Lib.hid (And.intro hg7 (show Box w7 (w.heap.size + 3) 25 [.int .i64 0, .int .i64 0, .bool false, .bool false, .int .i64 0, .int .i64 0, .int .i64 0, .int .u32 0, .int .u32 0, .slice none 0 0, .slice none 0 0] from hb7)); clear hg7 hb7))
  refine bodyPost_ret (results_cell2tt Try.results10 rfl rfl ((H6.out.2.1.grown H7.out.1 (by simp)).loadVar 31 Try.isAgg31 Try.sizeOf31) (H7.out.2.loadVar 25 Try.isAgg25 Try.sizeOf25)) rfl ?_
  have K7 := (HTE.out.box H6.out.1 (by omega) (by omega)).box H7.out.1 (by omega) (by omega)
  exact takeM_mk HTQ.out HQL.out K7.junk (K7.qsat HRE.out) (ip_zero _)
end Go.Proofs.Ytgjppmkadmfibaa
