/- Packets, and pools of packets that are put together, among a law's arguments. -/
import Derived.Test.YtgjppmkadmfibaaRsU
import Derived.Test.YtgjppmkadmfibaaRsV
import Derived.Test.YtgjppmkadmfibaaRsX
import Derived.Test.YtgjppmkadmfibaaRsY
import Derived.Test.YtgjppmkadmfibaaRsB
import Derived.Test.YtgjppmkadmfibaaRsP
set_option linter.unusedVariables false
set_option maxRecDepth 100000
set_option linter.unusedSimpArgs false
namespace Go.Proofs.Ytgjppmkadmfibaa
open Go.RowKit
theorem take_any (room life now : Int) (oa : Option Addr) (l c : Nat) (Q : List Bq) (p : Ip) (oo ob : Option Addr) (oc bc : Nat) (w : World) (hP : QsAt w oa l c Q) (hl2 : l ≤ 1000) (hQ : QsOk Q) (hX : IpAt w p oo oc ob bc) (hpo : p.ol ≤ 1000) (hpb : p.bl ≤ 1000000) (hnow : -9223372036854775808 ≤ now ∧ now ≤ 9223372036854775807) : Calls Try.prog 10 #[.agg #[.int .i64 room, .int .i64 life, .int .i64 now, .slice oa l c], .agg #[.int .i64 p.tos, .int .i64 p.id, .bool p.df, .bool p.mf, .int .i64 p.off, .int .i64 p.ttl, .int .i64 p.proto, .int .u32 p.src, .int .u32 p.dst, .slice oo p.ol oc, .slice ob p.bl bc]] w (TakeM w room life now Q p) := by
  cases hpi : pieceB p with
  | false => exact take_whole room life now oa l c Q p oo ob oc bc w hP hl2 hQ hX hpo hpb hpi (by unfold takeQ; rw [hpi]; rfl)
  | true =>
    cases hbad : (rightQ room life now Q && (mayB p && decide (0 < p.bl))) with
    | false => exact take_bad room life now oa l c Q p oo ob oc bc w hP hl2 hQ hX hpo hpb hpi hbad (by unfold takeQ; rw [hpi, hbad]; rfl)
    | true =>
      have h0 := hbad
      rw [Bool.and_eq_true, Bool.and_eq_true] at h0
      obtain ⟨hr, hm, hb1⟩ := h0
      have hb0 := of_decide_eq_true hb1
      cases hi : Q.findIdx? (mineP p) with
      | none =>
        by_cases hf : Q.length = 64 ∨ room < (heldQ Q : Int) + p.bl
        · exact take_full_none room life now oa l c Q p oo ob oc bc w hP hl2 hQ hX hpo hpb hpi hr hm hb0 hi hf (by unfold takeQ; rw [hpi, hbad, hi]; simp only [Bool.not_true, Bool.false_eq_true, if_false]; rw [if_pos hf])
        · exact take_none room life now oa l c Q p oo ob oc bc w hP hl2 hQ hX hpo hpb hpi hr hm hb0 hnow hi hf (by unfold takeQ; rw [hpi, hbad, hi]; simp only [Bool.not_true, Bool.false_eq_true, if_false]; rw [if_neg hf])
      | some i =>
        obtain ⟨hil, -, -⟩ := List.findIdx?_eq_some_iff_getElem.1 hi
        have hbq : Q[i]? = some Q[i] := List.getElem?_eq_getElem hil
        cases hcl : clashB Q[i] p with
        | true => exact take_clash room life now oa l c Q p oo ob oc bc w hP hl2 hQ hX hpo hpb hpi hr hm hb0 i hi Q[i] hbq hcl (by unfold takeQ; rw [hpi, hbad, hi]; simp only [Bool.not_true, Bool.false_eq_true, if_false, hbq]; rw [if_pos hcl])
        | false =>
          by_cases hf : room < (heldQ Q : Int) + p.bl
          · exact take_full_some room life now oa l c Q p oo ob oc bc w hP hl2 hQ hX hpo hpb hpi hr hm hb0 i hi Q[i] hbq hcl hf (by unfold takeQ; rw [hpi, hbad, hi]; simp only [Bool.not_true, Bool.false_eq_true, if_false, hbq]; rw [if_neg (by rw [hcl]; simp), if_pos hf])
          · exact take_some room life now oa l c Q p oo ob oc bc w hP hl2 hQ hX hpo hpb hpi hr hm hb0 i hi Q[i] hbq hcl hf (by unfold takeQ; rw [hpi, hbad, hi]; simp only [Bool.not_true, Bool.false_eq_true, if_false, hbq]; rw [if_neg (by rw [hcl]; simp), if_neg hf])
end Go.Proofs.Ytgjppmkadmfibaa
set_option linter.unusedVariables false
set_option maxRecDepth 100000
set_option linter.unusedSimpArgs false
namespace Go.Proofs.Ytgjppmkadmfibaa
open Go.RowKit
theorem listGo_iff {now : Int} : ∀ {L seen : List Bq}, listGo now seen L = true ↔ (∀ b ∈ L, bufB b now = true) ∧ (∀ b ∈ L, ∀ s ∈ seen, oneOf b s = false) ∧ L.Pairwise (fun a b => oneOf b a = false)
  | [], seen => by simp [listGo]
  | x :: L, seen => by
    unfold listGo
    rw [Bool.and_eq_true, Bool.and_eq_true, listGo_iff (L := L) (seen := seen ++ [x])]
    constructor
    · rintro ⟨h1, h2, h3, h4, h5⟩
      have h6 : ∀ s ∈ seen, oneOf x s = false := fun s hs => by
        cases h7 : oneOf x s with
        | false => rfl
        | true =>
          have h8 : seen.any (oneOf x) = true := List.any_eq_true.2 ⟨s, hs, h7⟩
          rw [h8] at h2; cases h2
      refine ⟨fun b hb => ?_, fun b hb s hs => ?_, List.pairwise_cons.2 ⟨fun b hb => h4 b hb x (List.mem_append_right _ (List.mem_singleton.2 rfl)), h5⟩⟩
      · rcases List.mem_cons.1 hb with rfl | hb
        · exact h1
        · exact h3 b hb
      · rcases List.mem_cons.1 hb with rfl | hb
        · exact h6 s hs
        · exact h4 b hb s (List.mem_append_left _ hs)
    · rintro ⟨h1, h2, h3⟩
      obtain ⟨h4, h5⟩ := List.pairwise_cons.1 h3
      refine ⟨h1 x (List.mem_cons_self ..), ?_, fun b hb => h1 b (List.mem_cons_of_mem _ hb), fun b hb s hs => ?_, h5⟩
      · cases h7 : seen.any (oneOf x) with
        | false => rfl
        | true =>
          obtain ⟨s, hs, h8⟩ := List.any_eq_true.1 h7
          rw [h2 x (List.mem_cons_self ..) s hs] at h8; cases h8
      · rcases List.mem_append.1 hs with hs | hs
        · exact h2 b (List.mem_cons_of_mem _ hb) s hs
        · rw [List.mem_singleton.1 hs]; exact h4 b hb
theorem heldQ_sub {P Q : List Bq} (h : P.Sublist Q) : heldQ P ≤ heldQ Q := by
  induction h with
  | slnil => exact Nat.le_refl _
  | cons a _ ih => unfold heldQ at *; rw [List.map_cons, List.sum_cons]; omega
  | cons_cons a _ ih => unfold heldQ at *; rw [List.map_cons, List.map_cons, List.sum_cons, List.sum_cons]; omega
theorem bufB_later {b : Bq} {now t : Int} (h : bufB b now = true) (ht : now ≤ t) : bufB b t = true := by
  unfold bufB at *
  rw [Bool.and_eq_true] at *
  refine ⟨?_, h.2⟩
  have h1 := h.1
  unfold wiR at *
  simp only [Bool.and_eq_true, decide_eq_true_eq] at *
  omega
/-- The parts of a right pool. -/
structure RiQ (room life now : Int) (Q : List Bq) : Prop where
  rm : 1 ≤ room ∧ room ≤ 1048576
  lf : 1 ≤ life ∧ life ≤ 1048576
  nw : 0 ≤ now ∧ now ≤ 1099511627776
  len : Q.length ≤ 64
  buf : ∀ b ∈ Q, bufB b now = true
  one : Q.Pairwise (fun a b => oneOf b a = false)
  held : (heldQ Q : Int) ≤ room
theorem rightQ_iff {room life now : Int} {Q : List Bq} : rightQ room life now Q = true ↔ RiQ room life now Q := by
  unfold rightQ wiR
  simp only [Bool.and_eq_true, decide_eq_true_eq]
  constructor
  · rintro ⟨h1, h2, h3, h4, h5, h6⟩
    obtain ⟨h7, _, h8⟩ := listGo_iff.1 h5
    exact ⟨h1, h2, h3, h4, h7, h8, h6⟩
  · intro h
    exact ⟨h.rm, h.lf, h.nw, h.len, listGo_iff.2 ⟨h.buf, (fun _ _ s hs => by cases hs), h.one⟩, h.held⟩
theorem RiQ.sub {room life now : Int} {P Q : List Bq} (h : RiQ room life now Q) (hs : P.Sublist Q) : RiQ room life now P :=
  ⟨h.rm, h.lf, h.nw, Nat.le_trans hs.length_le h.len, fun b hb => h.buf b (hs.subset hb), h.one.sublist hs, by have := heldQ_sub hs; have := h.held; omega⟩
theorem RiQ.later {room life now t : Int} {Q : List Bq} (h : RiQ room life now Q) (h1 : now ≤ t) (h2 : t ≤ 1099511627776) : RiQ room life t Q :=
  ⟨h.rm, h.lf, ⟨by have := h.nw; omega, h2⟩, h.len, fun b hb => bufB_later (h.buf b hb) h1, h.one, h.held⟩
theorem tickQ_right {room life now t : Int} {Q : List Bq} (h : rightQ room life now Q = true) (h1 : now ≤ t) (h2 : t ≤ 1099511627776) : rightQ room life t (tickQ life t Q) = true :=
  rightQ_iff.2 (((rightQ_iff.1 h).later h1 h2).sub (List.filter_sublist ..))
theorem tickQ_held {life t : Int} {Q : List Bq} : heldQ (tickQ life t Q) ≤ heldQ Q := heldQ_sub (List.filter_sublist ..)
theorem QsOk.sub {P Q : List Bq} (h : QsOk Q) (hs : P.Sublist Q) : QsOk P :=
  ⟨by have := heldQ_sub hs; have := h.held; omega, fun b hb => h.fs b (hs.subset hb), fun b hb => h.src b (hs.subset hb), fun b hb => h.dst b (hs.subset hb), fun b hb => h.id b (hs.subset hb), fun b hb => h.proto b (hs.subset hb), fun b hb => h.born b (hs.subset hb), fun b hb => h.total b (hs.subset hb), fun b hb => h.offs b (hs.subset hb)⟩
theorem tickQ_young {life t : Int} {Q : List Bq} : ∀ b ∈ tickQ life t Q, oldB t life b = false := fun b hb => by
  have h := (List.mem_filter.1 hb).2
  simpa using h
end Go.Proofs.Ytgjppmkadmfibaa
set_option linter.unusedVariables false
set_option maxRecDepth 100000
set_option linter.unusedSimpArgs false
namespace Go.Proofs.Ytgjppmkadmfibaa
open Go.RowKit
def shortQB (b : Bq) : Bool := decide (b.runs.length ≤ 40) && (decide (b.head.ol ≤ 100) && (decide (b.head.bl ≤ 100) && b.runs.all fun f => decide (f.l ≤ 2000)))
def shortQ (Q : List Bq) : Bool := decide (Q.length ≤ 70) && Q.all shortQB
theorem shortQ_false {Q : List Bq} {k : Nat} {b : Bq} (h : Q[k]? = some b) (hb : shortQB b = false) : shortQ Q = false := by
  unfold shortQ
  have : Q.all shortQB = false := by
    cases h1 : Q.all shortQB with
    | false => rfl
    | true => rw [List.all_eq_true.1 h1 b (List.mem_of_getElem? h)] at hb; cases hb
  rw [this, Bool.and_false]
theorem shortQ_true {Q : List Bq} {k : Nat} (hl : Q.length ≤ 70) (hk : Q.length = k) (h : ∀ b ∈ Q.take k, shortQB b = true) : shortQ Q = true := by
  unfold shortQ
  rw [decide_eq_true hl, Bool.true_and]
  exact List.all_eq_true.2 fun b hb => h b (by rw [List.take_of_length_le (by omega)]; exact hb)
theorem mem_take_succ {α : Type} {L : List α} {k : Nat} {x : α} (h : L[k]? = some x) {P : α → Prop} (h0 : ∀ y ∈ L.take k, P y) (hx : P x) : ∀ y ∈ L.take (k + 1), P y := fun y hy => by
  rw [List.take_add_one, h] at hy
  rcases List.mem_append.1 hy with h1 | h1
  · exact h0 y h1
  · have : y = x := by simpa using h1
    rw [this]; exact hx
theorem shortQB_f1 {b : Bq} (h : 40 < b.runs.length) : shortQB b = false := by unfold shortQB; rw [decide_eq_false (by omega)]; rfl
theorem shortQB_f2 {b : Bq} (h : 100 < b.head.ol) : shortQB b = false := by unfold shortQB; rw [decide_eq_false (show ¬ b.head.ol ≤ 100 by omega)]; simp
theorem shortQB_f3 {b : Bq} (h : 100 < b.head.bl) : shortQB b = false := by unfold shortQB; rw [decide_eq_false (show ¬ b.head.bl ≤ 100 by omega)]; simp
theorem shortQB_f4 {b : Bq} {m : Nat} {f : Od} (hf : b.runs[m]? = some f) (h : 2000 < f.l) : shortQB b = false := by
  unfold shortQB
  have : (b.runs.all fun f => decide (f.l ≤ 2000)) = false := by
    cases h1 : b.runs.all fun f => decide (f.l ≤ 2000) with
    | false => rfl
    | true => have := of_decide_eq_true (List.all_eq_true.1 h1 f (List.mem_of_getElem? hf)); omega
  rw [this]; simp
theorem shortQB_t {b : Bq} {n : Nat} (h1 : n ≤ 40) (hn : b.runs.length = n) (h2 : b.head.ol ≤ 100) (h3 : b.head.bl ≤ 100) (h : ∀ f ∈ b.runs.take n, f.l ≤ 2000) : shortQB b = true := by
  unfold shortQB
  rw [decide_eq_true (show b.runs.length ≤ 40 by omega), decide_eq_true h2, decide_eq_true h3]
  simp only [Bool.true_and]
  exact List.all_eq_true.2 fun f hf => decide_eq_true (h f (by rw [List.take_of_length_le (by omega)]; exact hf))
set_option maxHeartbeats 16000000 in
theorem short7_any (room life now : Int) (oa : Option Addr) (l c : Nat) (L : List Bf) (w : World) (hP : PlAt w oa L) (hl : L.length = l) :
    Calls Try.prog 15 #[.agg #[.int .i64 room, .int .i64 life, .int .i64 now, .slice oa l c]] w fun e w' => e = .returned (.bool (shortQ (L.map Bf.q))) ∧ Junk w w' := by
  obtain ⟨S, hS⟩ : ∃ S, shortQ (L.map Bf.q) = S := ⟨_, rfl⟩
  rw [hS]
  have HS := Lib.hid hS
  have HP := Lib.hid hP
  have HL := Lib.hid hl
  have HLQ := Lib.hid (show (L.map Bf.q).length = l by rw [List.length_map, hl])
  clear hP hl hS
  by_cases h70 : 70 < l
  · have h70i : decide ((70 : Int) < (l : Int)) = true := decide_eq_true (by omega)
    have h70j : (70 : Int) < (l : Int) := by omega
    obtain rfl : S = false := by rw [← HS.out]; unfold shortQ; rw [decide_eq_false (by rw [HLQ.out]; omega)]; rfl
    go_enter Try.func15, Try.ntmps15
    go_wp2
    go_ret
    exact ⟨rfl, by (exact jkc)⟩
  · have h70i : decide ((70 : Int) < (l : Int)) = false := decide_eq_false (by omega)
    have h70j : ¬ (70 : Int) < (l : Int) := by omega
    have H70 := Lib.hid h70
    clear h70
    go_enter Try.func15, Try.ntmps15
    go_wp2
    go_loopw [3] (fun i wr => ∃ k : Nat, k ≤ l ∧ i = .int .i64 (k : Int) ∧ Junk (w.alloc (.cells #[.int .i64 room, .int .i64 life, .int .i64 now, .slice oa l c] 31)) wr ∧ Hid (∀ b ∈ (L.map Bf.q).take k, shortQB b = true)) (fun i _ => l + 1 - (intOf i).toNat)
    case atStart => exact ⟨0, by omega, rfl, Junk.refl _, Lib.hid (fun b hb => by simp at hb)⟩
    case round =>
      obtain ⟨k, hk, rfl, hj, hA⟩ := hrel
      have HJ := Lib.hid hj
      have BX := (box_new w #[.int .i64 room, .int .i64 life, .int .i64 now, .slice oa l c] 31).on hj
      have q3 : wr.cell? ⟨w.heap.size, 3, none⟩ = some (.slice oa l c) := BX.cell (j := 3) rfl
      have qs := BX.lt
      clear BX
      have HA := Lib.hid hA.out
      clear hj hA
      by_cases hkl : k < l
      · have hkl2 : (k : Int) < (l : Int) := by omega
        have hk0 : (0 : Int) ≤ (k : Int) := by omega
        have pk := wrapk_i64 ((k : Int) + 1) (by omega) (by have := H70.out; omega)
        obtain ⟨b, hb⟩ : ∃ b, L[k]? = some b := ⟨_, List.getElem?_eq_getElem (by rw [HL.out]; exact hkl)⟩
        obtain ⟨g, off, hob, hgl, hc, hin⟩ := (HP.out.on ((show Junk w _ by (exact jkc)).trans HJ.out)) k b hb
        have HBQ := Lib.hid (show (L.map Bf.q)[k]? = some b.q by rw [List.getElem?_map, hb]; rfl)
        obtain ⟨n, hn⟩ : ∃ n, b.F.length = n := ⟨_, rfl⟩
        have c18 : wr.cell? ⟨g, off + k * 19 + 18, none⟩ = some (.slice b.ro n b.rc) := by rw [← hn]; exact hc 18 _ rfl
        have c14 : wr.cell? ⟨g, off + k * 19 + 14, none⟩ = some (.slice b.ho b.head.ol b.hoc) := hc 14 _ rfl
        have c15 : wr.cell? ⟨g, off + k * 19 + 15, none⟩ = some (.slice b.hb b.head.bl b.hbc) := hc 15 _ rfl
        have HN := Lib.hid hn
        have HNQ := Lib.hid (show b.q.runs.length = n from by show (b.F.map Ot.d).length = n; rw [List.length_map, hn])
        have HIN := Lib.hid hin
        subst hob
        clear hc hin hb hn
        by_cases d1 : 40 < n
        · have e1 : decide ((40 : Int) < (n : Int)) = true := decide_eq_true (by omega)
          obtain rfl : S = false := by rw [← HS.out]; exact shortQ_false HBQ.out (shortQB_f1 (by rw [HNQ.out]; exact d1))
          go_wp2
          go_ret
          exact ⟨rfl, by first | exact (show Junk w _ by (exact jkc)).trans HJ.out | exact ((show Junk w _ by (exact jkc)).trans HJ.out).trans HJQ.out⟩
        · have e1 : decide ((40 : Int) < (n : Int)) = false := decide_eq_false (by omega)
          have D1 := Lib.hid d1
          clear d1
          by_cases d2 : 100 < b.head.ol
          · have e2 : decide ((100 : Int) < (b.head.ol : Int)) = true := decide_eq_true (by omega)
            obtain rfl : S = false := by rw [← HS.out]; exact shortQ_false HBQ.out (shortQB_f2 d2)
            go_wp2
            go_ret
            exact ⟨rfl, by first | exact (show Junk w _ by (exact jkc)).trans HJ.out | exact ((show Junk w _ by (exact jkc)).trans HJ.out).trans HJQ.out⟩
          · have e2 : decide ((100 : Int) < (b.head.ol : Int)) = false := decide_eq_false (by omega)
            have D2 := Lib.hid d2
            clear d2
            by_cases d3 : 100 < b.head.bl
            · have e3 : decide ((100 : Int) < (b.head.bl : Int)) = true := decide_eq_true (by omega)
              obtain rfl : S = false := by rw [← HS.out]; exact shortQ_false HBQ.out (shortQB_f3 d3)
              go_wp2
              go_ret
              exact ⟨rfl, by first | exact (show Junk w _ by (exact jkc)).trans HJ.out | exact ((show Junk w _ by (exact jkc)).trans HJ.out).trans HJQ.out⟩
            · have e3 : decide ((100 : Int) < (b.head.bl : Int)) = false := decide_eq_false (by omega)
              have D3 := Lib.hid d3
              clear d3
              go_wp2
              go_loopw [4] (fun i wq => ∃ m : Nat, m ≤ n ∧ i = .int .i64 (m : Int) ∧ Junk wr wq ∧ Hid (∀ f ∈ b.q.runs.take m, f.l ≤ 2000)) (fun i _ => n + 1 - (intOf i).toNat)
              case atStart => exact ⟨0, by omega, rfl, by (exact jkc), Lib.hid (fun f hf => by simp at hf)⟩
              case round =>
                obtain ⟨m, hm, rfl, hjq, hB⟩ := hrel
                have HJQ := Lib.hid hjq
                have HB := Lib.hid hB.out
                have f18 := cells_on c18 hgl hjq
                have f3 := cells_on q3 qs hjq
                clear hjq hB c18 c14 c15 q3 qs
                by_cases hml : m < n
                · have hml2 : (m : Int) < (n : Int) := by omega
                  have hm0 : (0 : Int) ≤ (m : Int) := by omega
                  have pm := wrapk_i64 ((m : Int) + 1) (by omega) (by have := D1.out; omega)
                  obtain ⟨f, hf⟩ : ∃ f, b.F[m]? = some f := ⟨_, List.getElem?_eq_getElem (by rw [HN.out]; exact hml)⟩
                  obtain ⟨gx, ox, hox, hgx, d0, d1, _⟩ := (HIN.out.runs.on HJQ.out) m f hf
                  have HFQ := Lib.hid (show b.q.runs[m]? = some f.d by show (b.F.map Ot.d)[m]? = _; rw [List.getElem?_map, hf]; rfl)
                  rw [hox] at f18
                  clear hf
                  by_cases d4 : 2000 < f.l
                  · have e4 : decide ((2000 : Int) < (f.l : Int)) = true := decide_eq_true (by omega)
                    obtain rfl : S = false := by rw [← HS.out]; exact shortQ_false HBQ.out (shortQB_f4 HFQ.out d4)
                    go_wp2
                    go_ret
                    exact ⟨rfl, by first | exact (show Junk w _ by (exact jkc)).trans HJ.out | exact ((show Junk w _ by (exact jkc)).trans HJ.out).trans HJQ.out⟩
                  · have e4 : decide ((2000 : Int) < (f.l : Int)) = false := decide_eq_false (by omega)
                    have D4 := Lib.hid d4
                    clear d4
                    go_wp2
                    exact ⟨⟨m + 1, by omega, by go_num, HJQ.out.trans (by (exact jkc)), Lib.hid (mem_take_succ HFQ.out HB.out (Nat.le_of_not_lt D4.out))⟩, by simp [intOf]; omega⟩
                · have hml2 : ¬ (m : Int) < (n : Int) := by omega
                  obtain rfl : m = n := by omega
                  go_wp2
                  exact ⟨⟨k + 1, by omega, by go_num, HJ.out.trans HJQ.out, Lib.hid (mem_take_succ HBQ.out HA.out (shortQB_t (Nat.le_of_not_lt D1.out) HNQ.out (Nat.le_of_not_lt D2.out) (Nat.le_of_not_lt D3.out) HB.out))⟩, by simp [intOf]; omega⟩
      · have hkl2 : ¬ (k : Int) < (l : Int) := by omega
        obtain rfl : k = l := by omega
        obtain rfl : S = true := by rw [← HS.out]; exact shortQ_true (by rw [HLQ.out]; exact Nat.le_of_not_lt H70.out) HLQ.out HA.out
        go_wp2
        go_ret
        exact ⟨rfl, by first | exact (show Junk w _ by (exact jkc)).trans HJ.out | exact ((show Junk w _ by (exact jkc)).trans HJ.out).trans HJQ.out⟩
end Go.Proofs.Ytgjppmkadmfibaa
set_option linter.unusedVariables false
set_option maxRecDepth 100000
set_option linter.unusedSimpArgs false
namespace Go.Proofs.Ytgjppmkadmfibaa
open Go.RowKit
theorem box_cell {V : World} {r : Nat} {e : TypeId} {cs : List Value} (h : Box V r e cs) {j : Nat} {v : Value} (hv : V.cell? ⟨r, j, none⟩ = some v) : cs[j]? = some v := by
  rw [cell_of_row V r j cs.toArray e (0, 0) h] at hv
  simpa using hv
theorem bts_off {V : World} {r : Nat} (nb : ∀ j v, V.cell? ⟨r, j, none⟩ ≠ some (.int .u8 v)) {oa : Option Addr} {l c : Nat} {xs : Nat → Int} (h : Bts V oa l c xs) : Go.Off (some r) oa l := fun hl a ha he => by
  obtain ⟨b, off, h1, h2, h3⟩ := h.at_ 0 hl
  rw [ha] at h1
  cases h1
  have h4 : b = r := Option.some.inj he
  subst h4
  exact nb _ _ h3
/-- The block of a pool: three numbers and the list. -/
def PoolBox (V : World) (r : Nat) (e : TypeId) (x y z : Int) (oq : Option Addr) (lq cq : Nat) (Rq : List Bf) : Prop := Box V r e [.int .i64 x, .int .i64 y, .int .i64 z, .slice oq lq cq] ∧ PlAt V oq Rq ∧ Rq.length = lq
section
variable {V V' : World} {r : Nat} {e : TypeId} {x y z : Int} {oq : Option Addr} {lq cq : Nat} {Rq : List Bf}
theorem PoolBox.cell (h : PoolBox V r e x y z oq lq cq Rq) {j : Nat} {v : Value} (hv : V.cell? ⟨r, j, none⟩ = some v) : (∃ n, v = .int .i64 n) ∨ v = .slice oq lq cq := by
  have h1 := box_cell h.1 hv
  match j, h1 with
  | 0, h1 => exact .inl ⟨x, (Option.some.inj h1).symm⟩
  | 1, h1 => exact .inl ⟨y, (Option.some.inj h1).symm⟩
  | 2, h1 => exact .inl ⟨z, (Option.some.inj h1).symm⟩
  | 3, h1 => exact .inr (Option.some.inj h1).symm
  | j + 4, h1 => simp at h1
theorem PoolBox.noByte (h : PoolBox V r e x y z oq lq cq Rq) (j : Nat) (v : Int) : V.cell? ⟨r, j, none⟩ ≠ some (.int .u8 v) := fun hv => by
  rcases h.cell hv with ⟨n, h1⟩ | h1 <;> cases h1
theorem PoolBox.noWord (h : PoolBox V r e x y z oq lq cq Rq) (j : Nat) (v : Int) : V.cell? ⟨r, j, none⟩ ≠ some (.int .u32 v) := fun hv => by
  rcases h.cell hv with ⟨n, h1⟩ | h1 <;> cases h1
theorem PoolBox.bfOff (h : PoolBox V r e x y z oq lq cq Rq) {b : Bf} (hi : BfIn V b) (h0 : 0 < b.F.length) (h1 : ∀ f ∈ b.F, 0 < f.l) : BfOff r b := by
  refine ⟨bts_off h.noByte hi.head.opts, bts_off h.noByte hi.head.body, fun he => ?_, fun f hf => ?_⟩
  · have hf0 : b.F[0]? = some b.F[0] := List.getElem?_eq_getElem h0
    obtain ⟨g, off, hro, hlt, c0, c1, hb3⟩ := hi.runs 0 _ hf0
    rw [hro] at he
    have h4 : g = r := Option.some.inj he
    subst h4
    have h5 := h1 b.F[0] (List.getElem_mem h0)
    rcases h.cell c1 with ⟨n, h2⟩ | h2
    · cases h2
    · simp only [Value.slice.injEq] at h2
      obtain ⟨e1, e2, _⟩ := h2
      have hq0 : 0 < Rq.length := by rw [h.2.2, ← e2]; exact h5
      obtain ⟨g2, off2, a1, a2, a3, _⟩ := h.2.1 0 _ (List.getElem?_eq_getElem hq0)
      obtain ⟨g3, off3, b1, b2, b3⟩ := hb3.at_ 0 h5
      rw [e1, a1] at b1
      cases b1
      have a4 := a3 0 _ rfl
      simp only [Nat.zero_mul, Nat.add_zero] at a4 b3
      rw [a4] at b3
      cases b3
  · obtain ⟨k, hk, rfl⟩ := List.getElem_of_mem hf
    obtain ⟨_, _, _, _, _, _, hb3⟩ := hi.runs k _ (List.getElem?_eq_getElem hk)
    exact bts_off h.noByte hb3
/-- A list of buffers with runs stays. -/
theorem PoolBox.plat (h : PoolBox V r e x y z oq lq cq Rq) {ol : Option Addr} {L : List Bf} (hP : PlAt V ol L) (h0 : ∀ b ∈ L, 0 < b.F.length ∧ ∀ f ∈ b.F, 0 < f.l) (hg : V.grownBy V' (some r)) : PlAt V' ol L := fun i b hb => by
  obtain ⟨g, off, he, hlt, hc, hin⟩ := hP i b hb
  have hm := List.mem_of_getElem? hb
  have hne : g ≠ r := fun e => by
    subst e
    exact h.noWord _ _ (hc 0 _ rfl)
  refine ⟨g, off, he, Nat.lt_of_lt_of_le hlt hg.size, fun j v hv => hg.cell (hc j v hv) (fun e => hne (Option.some.inj e)), hin.grown hg (h.bfOff hin (h0 b hm).1 (h0 b hm).2)⟩
theorem PoolBox.qs (h : PoolBox V r e x y z oq lq cq Rq) {ol : Option Addr} {l c : Nat} {Q : List Bq} (hP : QsAt V ol l c Q) (h0 : ∀ b ∈ Q, 0 < b.runs.length ∧ ∀ f ∈ b.runs, 0 < f.l) (hg : V.grownBy V' (some r)) : QsAt V' ol l c Q := by
  obtain ⟨L, h1, h2⟩ := hP.ex
  refine ⟨⟨L, h.plat h1 (fun b hb => ?_) hg, h2⟩, hP.len, hP.cap, hP.nil⟩
  have h3 := h0 b.q (by rw [← h2]; exact List.mem_map.2 ⟨b, hb, rfl⟩)
  have h4 : b.q.runs = b.F.map Ot.d := rfl
  rw [h4, List.length_map] at h3
  exact ⟨h3.1, fun f hf => h3.2 f.d (List.mem_map.2 ⟨f, hf, rfl⟩)⟩
end
end Go.Proofs.Ytgjppmkadmfibaa
set_option linter.unusedVariables false
set_option maxRecDepth 100000
set_option linter.unusedSimpArgs false
namespace Go.Proofs.Ytgjppmkadmfibaa
open Go.RowKit
def aw1 : Ip := ⟨0, 0, false, false, 8, 5, 17, 0, 0, 0, fun _ => 0, 1, fun _ => 9⟩
def aw2 : Ip := ⟨0, 0, false, true, 0, 6, 17, 0, 0, 0, fun _ => 0, 8, fun _ => 0⟩
def awQ : Bq := addQ (newQ aw1 0) aw1
def awY : Ip := outI (addQ awQ aw2)
theorem awTake1 : takeQ 100 9 0 [] aw1 = ([awQ], zeroIp, false, 0) := rfl
theorem awTake2 : takeQ 100 9 0 [awQ] aw2 = ([], awY, true, 0) := rfl
theorem awY_bl : awY.bl = 9 := rfl
theorem awY_8 : awY.body 8 = 9 := rfl
theorem awY_ttl : awY.ttl = 6 := rfl
theorem awHeld : heldQ [awQ] = 1 := rfl
theorem awQ_ok : QsOk [awQ] := by
  refine ⟨by decide, ?_, ?_, ?_, ?_, ?_, ?_, ?_, ?_⟩ <;> intro b hb <;> rw [List.mem_singleton.1 hb]
  · refine ⟨by decide, by decide, by decide, fun f hf => ?_⟩
    rw [show awQ.runs = [⟨8, 1, fun _ => 9⟩] from rfl] at hf
    rw [List.mem_singleton.1 hf]; decide
  · decide
  · decide
  · decide
  · decide
  · decide
  · decide
  · intro f hf
    rw [show awQ.runs = [⟨8, 1, fun _ => 9⟩] from rfl] at hf
    rw [List.mem_singleton.1 hf]; decide
theorem awNil_ok : QsOk [] := ⟨by decide, (fun _ h => by cases h), (fun _ h => by cases h), (fun _ h => by cases h), (fun _ h => by cases h), (fun _ h => by cases h), (fun _ h => by cases h), (fun _ h => by cases h), (fun _ h => by cases h)⟩
theorem qsat_nil (w : World) : QsAt w none 0 0 [] := ⟨⟨[], fun i b hb => by simp at hb, rfl⟩, rfl, Nat.le_refl _, fun _ => ⟨rfl, rfl⟩⟩
theorem awQ_runs : ∀ b ∈ [awQ], 0 < b.runs.length ∧ ∀ f ∈ b.runs, 0 < f.l := fun b hb => by
  rw [List.mem_singleton.1 hb]
  refine ⟨by decide, fun f hf => ?_⟩
  rw [show awQ.runs = [⟨8, 1, fun _ => 9⟩] from rfl] at hf
  rw [List.mem_singleton.1 hf]; decide
/-- Runs of a right pool hold bytes. -/
theorem runGo_pos {tot : Int} : ∀ {at_ : Int} {F : List Od}, runGo tot at_ F = true → ∀ f ∈ F, 0 < f.l
  | _, [], _, f, hf => by cases hf
  | at_, x :: F, h, f, hf => by
    unfold runGo at h
    rw [Bool.and_eq_true] at h
    rcases List.mem_cons.1 hf with rfl | hf
    · have h1 := h.1
      unfold badRun at h1
      simp only [Bool.not_eq_true', decide_eq_false_iff_not] at h1
      omega
    · exact runGo_pos h.2 f hf
theorem RiQ.runs {room life now : Int} {Q : List Bq} (h : RiQ room life now Q) : ∀ b ∈ Q, 0 < b.runs.length ∧ ∀ f ∈ b.runs, 0 < f.l := fun b hb => by
  have h1 := h.buf b hb
  unfold bufB runsB at h1
  simp only [Bool.and_eq_true, decide_eq_true_eq] at h1
  exact ⟨h1.2.1.2, runGo_pos h1.2.1.1⟩
end Go.Proofs.Ytgjppmkadmfibaa
set_option linter.unusedVariables false
set_option maxRecDepth 100000
set_option linter.unusedSimpArgs false
namespace Go.Proofs.Ytgjppmkadmfibaa
open Go.RowKit
theorem badRun_iff {tot at_ : Int} {f : Od} : badRun tot at_ f = false ↔ (0 < f.l ∧ at_ ≤ f.k ∧ f.k ≤ 65535 ∧ f.k % 8 = 0 ∧ f.l ≤ 65535 ∧ f.k + f.l ≤ 65535 ∧ (0 ≤ tot → f.k + f.l ≤ tot)) := by
  unfold badRun
  rw [decide_eq_false_iff_not]
  omega
theorem runGo_cons {tot at_ : Int} {f : Od} {F : List Od} : runGo tot at_ (f :: F) = true ↔ badRun tot at_ f = false ∧ runGo tot (f.k + f.l) F = true := by
  rw [runGo, Bool.and_eq_true, Bool.not_eq_true']
theorem runGo_tot {tot tot' : Int} : ∀ {at_ : Int} {F : List Od}, runGo tot at_ F = true → (∀ f ∈ F, 0 ≤ tot' → f.k + f.l ≤ tot') → runGo tot' at_ F = true
  | _, [], _, _ => rfl
  | at_, f :: F, h, hs => by
    rw [runGo_cons] at h ⊢
    refine ⟨?_, runGo_tot h.2 fun x hx => hs x (List.mem_cons_of_mem _ hx)⟩
    have h1 := badRun_iff.1 h.1
    have h2 := hs f (List.mem_cons_self ..)
    exact badRun_iff.2 ⟨h1.1, h1.2.1, h1.2.2.1, h1.2.2.2.1, h1.2.2.2.2.1, h1.2.2.2.2.2.1, h2⟩
theorem runGo_ins {tot tot' : Int} {r : Od} (hr : badRun tot' r.k r = false) : ∀ {at_ : Int} {F : List Od}, runGo tot at_ F = true → (∀ f ∈ F, 0 ≤ tot' → f.k + f.l ≤ tot') → (∀ f ∈ F, ¬ (r.k < f.k + f.l ∧ f.k < r.k + r.l)) → at_ ≤ r.k → runGo tot' at_ (insOd F r) = true
  | at_, [], _, _, _, ha => by
    have h1 := badRun_iff.1 hr
    rw [insOd, runGo_cons]
    exact ⟨badRun_iff.2 ⟨h1.1, ha, h1.2.2⟩, rfl⟩
  | at_, f :: F, h, hs, hc, ha => by
    have h1 := badRun_iff.1 hr
    have h2 := hs f (List.mem_cons_self ..)
    have h3 := hc f (List.mem_cons_self ..)
    rw [runGo_cons] at h
    have h4 := badRun_iff.1 h.1
    rw [insOd]
    split
    · rename_i hlt
      rw [runGo_cons]
      exact ⟨badRun_iff.2 ⟨h4.1, h4.2.1, h4.2.2.1, h4.2.2.2.1, h4.2.2.2.2.1, h4.2.2.2.2.2.1, h2⟩, runGo_ins hr h.2 (fun x hx => hs x (List.mem_cons_of_mem _ hx)) (fun x hx => hc x (List.mem_cons_of_mem _ hx)) (by omega)⟩
    · rename_i hge
      rw [runGo_cons, runGo_cons]
      exact ⟨badRun_iff.2 ⟨h1.1, ha, h1.2.2⟩, badRun_iff.2 ⟨h4.1, by omega, h4.2.2.1, h4.2.2.2.1, h4.2.2.2.2.1, h4.2.2.2.2.2.1, h2⟩, runGo_tot h.2 fun x hx => hs x (List.mem_cons_of_mem _ hx)⟩
/-- A buffer's name. -/
def nmQ (b : Bq) : Int × Int × Int × Int := (b.src, b.dst, b.id, b.proto)
theorem mineB_iff {b : Bq} {s d i p : Int} : mineB b s d i p = true ↔ nmQ b = (s, d, i, p) := by
  unfold mineB nmQ
  simp [and_assoc]
theorem one_nodup {Q : List Bq} : Q.Pairwise (fun a b => oneOf b a = false) ↔ (Q.map nmQ).Nodup := by
  rw [List.Nodup, List.pairwise_map]
  constructor
  · intro h
    refine h.imp fun {a b} hab e => ?_
    have : oneOf b a = true := mineB_iff.2 e
    rw [hab] at this; cases this
  · intro h
    refine h.imp fun {a b} hab => ?_
    cases h1 : oneOf b a with
    | false => rfl
    | true => exact absurd (mineB_iff.1 h1) hab
theorem heldQ_set {Q : List Bq} {i : Nat} {b b' : Bq} (h : Q[i]? = some b) : heldQ (Q.set i b') + heldO b.runs = heldQ Q + heldO b'.runs := by
  induction Q generalizing i with
  | nil => simp at h
  | cons x Q ih =>
    cases i with
    | zero =>
      have h1 : x = b := by simpa using h
      subst h1
      unfold heldQ
      simp
      omega
    | succ i =>
      have h1 : Q[i]? = some b := by simpa using h
      have h2 := ih h1
      unfold heldQ at h2 ⊢
      simp only [List.set_cons_succ, List.map_cons, List.sum_cons]
      omega
theorem heldQ_push {Q : List Bq} {b : Bq} : heldQ (Q ++ [b]) = heldQ Q + heldO b.runs := by unfold heldQ; simp
theorem map_set_same {Q : List Bq} {i : Nat} {b b' : Bq} (h : Q[i]? = some b) (hn : nmQ b' = nmQ b) : (Q.set i b').map nmQ = Q.map nmQ := by
  rw [List.map_set, hn]
  apply List.ext_getElem?
  intro j
  by_cases hij : i = j
  · subst hij
    rw [List.getElem?_set_self (by rw [List.length_map]; exact (List.getElem?_eq_some_iff.1 h).1), List.getElem?_map, h]; rfl
  · rw [List.getElem?_set_ne hij]
end Go.Proofs.Ytgjppmkadmfibaa
set_option linter.unusedVariables false
set_option maxRecDepth 100000
set_option linter.unusedSimpArgs false
namespace Go.Proofs.Ytgjppmkadmfibaa
open Go.RowKit
theorem wiR_iff {n a b : Int} : wiR n a b = true ↔ a ≤ n ∧ n ≤ b := by unfold wiR; simp
theorem headI_headI (x : Ip) : headI (headI x) = headI x := rfl
theorem clashB_no {b : Bq} {x : Ip} (h : clashB b x = false) : (0 ≤ b.total → x.mf = true ∧ x.off + x.bl ≤ b.total) ∧ ∀ f ∈ b.runs, ¬ (x.off < f.k + f.l ∧ f.k < x.off + x.bl) ∧ (x.mf = false → f.k + f.l ≤ x.off + x.bl) := by
  unfold clashB at h
  rw [Bool.or_eq_false_iff] at h
  obtain ⟨h1, h2⟩ := h
  constructor
  · intro h0
    rw [decide_eq_true h0, Bool.true_and, Bool.or_eq_false_iff] at h1
    exact ⟨by simpa using h1.1, by have := h1.2; simp at this; omega⟩
  · intro f hf
    have h3 : clashR x.off (x.off + x.bl) x.mf f = false := by
      cases h4 : clashR x.off (x.off + x.bl) x.mf f with
      | false => rfl
      | true => rw [List.any_eq_true.2 ⟨f, hf, h4⟩] at h2; cases h2
    unfold clashR at h3
    rw [Bool.or_eq_false_iff] at h3
    obtain ⟨h5, h6⟩ := h3
    constructor
    · rintro ⟨a1, a2⟩
      rw [decide_eq_true a1, decide_eq_true a2] at h5
      cases h5
    · intro hm
      rw [hm] at h6
      simp at h6
      omega
def off1 : List Od → Int → Int
  | [], k => k
  | f :: _, k => if f.k < k then f.k else k
def firstR : List Od → Bool
  | [] => false
  | f :: _ => f.k == 0
theorem off0_ins {F : List Od} {r : Od} {b : Bq} (h : b.runs = insOd F r) : off0 b = off1 F r.k := by
  unfold off0
  rw [h]
  cases F with
  | nil => rfl
  | cons f F =>
    rw [insOd, off1]
    by_cases hlt : f.k < r.k
    · simp only [if_pos hlt]
    · simp only [if_neg hlt]
theorem bufB_add {b : Bq} {x : Ip} {now : Int} (hw : wiR b.born 0 now = true) (hrun : runGo b.total 0 b.runs = true) (ht : b.total = -1 ∨ 1 ≤ b.total ∧ b.total ≤ 65535)
    (hf : b.first = firstR b.runs) (hol : b.head.ol ≤ 40) (hs : sameIp b.head (headI b.head) = true) (hz : (b.first || sameIp b.head zeroIp) = true)
    (hx : 0 ≤ x.off ∧ x.off % 8 = 0 ∧ x.off + x.bl ≤ 65535 ∧ x.ol ≤ 40) (hb0 : 0 < x.bl) (hcl : clashB b x = false) : bufB (addQ b x) now = true := by
  obtain ⟨c1, c2⟩ := clashB_no hcl
  have hr : badRun (addQ b x).total (⟨x.off, x.bl, x.body⟩ : Od).k ⟨x.off, x.bl, x.body⟩ = false := by
    refine badRun_iff.2 ⟨hb0, Int.le_refl _, ?_, hx.2.1, ?_, hx.2.2.1, ?_⟩
    · show x.off ≤ 65535
      omega
    · show x.bl ≤ 65535
      omega
    · show 0 ≤ (if x.mf then b.total else x.off + x.bl) → x.off + x.bl ≤ (if x.mf then b.total else x.off + x.bl)
      split
      · intro h; exact (c1 h).2
      · intro _; exact Int.le_refl _
  have hgo : runGo (addQ b x).total 0 (addQ b x).runs = true := by
    refine runGo_ins hr hrun (fun f hff => ?_) (fun f hff => (c2 f hff).1) hx.1
    show 0 ≤ (if x.mf then b.total else x.off + x.bl) → f.k + f.l ≤ (if x.mf then b.total else x.off + x.bl)
    cases hm : x.mf with
    | true =>
      simp only [if_true]
      intro h0
      obtain ⟨k, hk, rfl⟩ := List.getElem_of_mem hff
      have : ∀ {at_ : Int} {F : List Od}, runGo b.total at_ F = true → ∀ f ∈ F, f.k + f.l ≤ b.total := by
        intro at_ F
        induction F generalizing at_ with
        | nil => intro _ f hf; cases hf
        | cons y F ih =>
          intro h f hf
          rw [runGo_cons] at h
          rcases List.mem_cons.1 hf with rfl | hf
          · exact (badRun_iff.1 h.1).2.2.2.2.2.2 h0
          · exact ih h.2 f hf
      exact this hrun _ (List.getElem_mem hk)
    | false =>
      simp only [Bool.false_eq_true, if_false]
      intro _
      exact (c2 f hff).2 hm
  have hfirst : ((addQ b x).first == (off0 (addQ b x) == 0)) = true := by
    rw [off0_ins (b := addQ b x) rfl]
    show ((b.first || (x.off == 0)) == _) = true
    rw [hf]
    cases hR : b.runs with
    | nil => simp [firstR, off1]
    | cons f F =>
      rw [hR, runGo_cons] at hrun
      have h0 := (badRun_iff.1 hrun.1).2.1
      simp only [firstR, off1]
      by_cases hlt : f.k < x.off
      · rw [if_pos hlt]
        have : (x.off == 0) = false := by simp; omega
        rw [this]; simp
      · rw [if_neg hlt]
        by_cases hk0 : f.k = 0
        · have : x.off = 0 := by omega
          rw [this, hk0]; rfl
        · have : (f.k == 0) = false := by simpa using hk0
          rw [this]; simp
  unfold bufB runsB
  simp only [Bool.and_eq_true]
  refine ⟨hw, ⟨hgo, ?_⟩, ?_, hfirst, ?_, ?_, ?_⟩
  · refine decide_eq_true ?_
    show 0 < (insOd b.runs _).length
    rw [insOd_len]; omega
  · show (((if x.mf then b.total else x.off + x.bl) == -1) || wiR (if x.mf then b.total else x.off + x.bl) 1 65535) = true
    rw [Bool.or_eq_true, wiR_iff]
    split
    · rcases ht with h | h
      · left; rw [h]; rfl
      · right; exact h
    · right; omega
  · refine decide_eq_true ?_
    show (if x.off = 0 then headI x else b.head).ol ≤ 40
    split
    · exact hx.2.2.2
    · exact hol
  · show sameIp (if x.off = 0 then headI x else b.head) (headI (if x.off = 0 then headI x else b.head)) = true
    split
    · rw [headI_headI]; exact sameIp_refl _
    · exact hs
  · show ((b.first || (x.off == 0)) || sameIp (if x.off = 0 then headI x else b.head) zeroIp) = true
    by_cases h0 : x.off = 0
    · rw [h0]; simp
    · rw [if_neg h0]
      rw [Bool.or_eq_true] at hz ⊢
      rcases hz with h | h
      · left; rw [h]; rfl
      · right; exact h
end Go.Proofs.Ytgjppmkadmfibaa
set_option linter.unusedVariables false
set_option maxRecDepth 100000
set_option linter.unusedSimpArgs false
namespace Go.Proofs.Ytgjppmkadmfibaa
open Go.RowKit
theorem RiQ.endQ {room life now : Int} {Q : List Bq} (h : RiQ room life now Q) (i : Nat) (b : Bq) : RiQ room life now (endQ Q i b).1 := by
  unfold Go.Proofs.Ytgjppmkadmfibaa.endQ
  split
  · split
    · exact h.sub (List.eraseIdx_sublist ..)
    · exact h.sub (List.eraseIdx_sublist ..)
  · exact h
theorem addQ_held (b : Bq) (x : Ip) : heldO (addQ b x).runs = heldO b.runs + x.bl := heldO_ins b.runs ⟨x.off, x.bl, x.body⟩
theorem RiQ.setAdd {room life now : Int} {Q : List Bq} {i : Nat} {b : Bq} {x : Ip} (h : RiQ room life now Q) (hb : Q[i]? = some b) (hm : MayP x) (hb0 : 0 < x.bl) (hcl : clashB b x = false) (hr : ¬ room < (heldQ Q : Int) + x.bl) : RiQ room life now (Q.set i (addQ b x)) := by
  have hbm := List.mem_of_getElem? hb
  refine ⟨h.rm, h.lf, h.nw, by rw [List.length_set]; exact h.len, fun y hy => ?_, ?_, ?_⟩
  · rcases List.mem_or_eq_of_mem_set hy with h1 | rfl
    · exact h.buf y h1
    · have h2 := h.buf b hbm
      unfold bufB runsB at h2
      simp only [Bool.and_eq_true, decide_eq_true_eq] at h2
      obtain ⟨a1, ⟨a2, a3⟩, a4, a5, a6, a7, a8⟩ := h2
      refine bufB_add a1 a2 ?_ ?_ a6 a7 a8 ⟨hm.off.1, hm.off8, by have := hm.fit; omega, hm.ol⟩ hb0 hcl
      · rw [Bool.or_eq_true, wiR_iff] at a4
        rcases a4 with h3 | h3
        · left; simpa using h3
        · right; exact h3
      · have h4 : b.first = (off0 b == 0) := by simpa using a5
        rw [h4]
        unfold off0 firstR
        cases hR : b.runs with
        | nil => rw [hR] at a3; simp at a3
        | cons f F => rfl
  · rw [one_nodup, map_set_same (b' := addQ b x) hb rfl, ← one_nodup]
    exact h.one
  · have h1 := heldQ_set (b' := addQ b x) hb
    rw [addQ_held] at h1
    omega
theorem RiQ.push {room life now : Int} {Q : List Bq} {x : Ip} (h : RiQ room life now Q) (hi : Q.findIdx? (mineP x) = none) (hm : MayP x) (hb0 : 0 < x.bl) (hr : ¬ (Q.length = 64 ∨ room < (heldQ Q : Int) + x.bl)) : RiQ room life now (Q ++ [addQ (newQ x now) x]) := by
  refine ⟨h.rm, h.lf, h.nw, ?_, fun y hy => ?_, ?_, ?_⟩
  · have := h.len
    simp only [List.length_append, List.length_singleton]
    omega
  · rcases List.mem_append.1 hy with h1 | h1
    · exact h.buf y h1
    · rw [List.mem_singleton.1 h1]
      refine bufB_add (b := newQ x now) ?_ rfl (.inl rfl) rfl (Nat.zero_le 40) rfl rfl ⟨hm.off.1, hm.off8, by have := hm.fit; omega, hm.ol⟩ hb0 ?_
      · exact wiR_iff.2 ⟨h.nw.1, Int.le_refl _⟩
      · unfold clashB
        rw [show decide (0 ≤ (newQ x now).total) = false from decide_eq_false (show ¬ (0 : Int) ≤ -1 by omega)]
        rfl
  · rw [List.pairwise_append]
    refine ⟨h.one, List.pairwise_singleton _ _, fun a ha b hb => ?_⟩
    rw [List.mem_singleton.1 hb]
    have h1 := List.findIdx?_eq_none_iff.1 hi a ha
    exact h1
  · rw [heldQ_push, addQ_held]
    show ((heldQ Q + (0 + x.bl) : Nat) : Int) ≤ room
    omega
theorem RiQ.take {room life now : Int} {Q : List Bq} (h : RiQ room life now Q) (x : Ip) : RiQ room life now (takeQ room life now Q x).1 := by
  unfold takeQ
  split
  · exact h
  · split
    · exact h
    · rename_i hp hbad
      have hbad2 : (rightQ room life now Q && (mayB x && decide (0 < x.bl))) = true := by
        cases h9 : (rightQ room life now Q && (mayB x && decide (0 < x.bl))) with
        | true => rfl
        | false => rw [h9] at hbad; exact absurd rfl hbad
      rw [Bool.and_eq_true, Bool.and_eq_true] at hbad2
      obtain ⟨hr, hm, hb1⟩ := hbad2
      have hb0 := of_decide_eq_true hb1
      have hm2 := may_iff.1 hm
      split
      · rename_i i hi
        split
        · rename_i b hb
          split
          · exact h.sub (List.eraseIdx_sublist ..)
          · split
            · exact h
            · rename_i hc hroom
              exact (h.setAdd hb hm2 hb0 (by simpa using hc) hroom).endQ _ _
        · exact h
      · rename_i hi
        split
        · exact h
        · rename_i hf
          exact (h.push hi hm2 hb0 hf).endQ _ _
theorem takeQ_right {room life now : Int} {Q : List Bq} {x : Ip} (h : rightQ room life now Q = true) : rightQ room life now (takeQ room life now Q x).1 = true := rightQ_iff.2 ((rightQ_iff.1 h).take x)
end Go.Proofs.Ytgjppmkadmfibaa
set_option linter.unusedVariables false
set_option maxRecDepth 100000
set_option linter.unusedSimpArgs false
namespace Go.Proofs.Ytgjppmkadmfibaa
open Go.RowKit
structure NmB (b : Bq) : Prop where
  src : 0 ≤ b.src ∧ b.src ≤ 4294967295
  dst : 0 ≤ b.dst ∧ b.dst ≤ 4294967295
  id : -9223372036854775808 ≤ b.id ∧ b.id ≤ 9223372036854775807
  proto : -9223372036854775808 ≤ b.proto ∧ b.proto ≤ 9223372036854775807
theorem runGo_len {tot : Int} : ∀ {at_ : Int} {F : List Od}, runGo tot at_ F = true → at_ ≤ 65535 → at_ + F.length ≤ 65535
  | at_, [], _, h => by simpa using h
  | at_, f :: F, h, _ => by
    rw [runGo_cons] at h
    have h1 := badRun_iff.1 h.1
    have h2 := runGo_len h.2 (by omega)
    rw [List.length_cons]
    omega
theorem runGo_in {tot : Int} : ∀ {at_ : Int} {F : List Od}, 0 ≤ at_ → runGo tot at_ F = true → ∀ f ∈ F, 0 ≤ f.k ∧ f.k ≤ 65535 ∧ f.l ≤ 65535
  | _, [], _, _, f, hf => by cases hf
  | at_, x :: F, h0, h, f, hf => by
    rw [runGo_cons] at h
    have h1 := badRun_iff.1 h.1
    rcases List.mem_cons.1 hf with rfl | hf
    · omega
    · exact runGo_in (by omega) h.2 f hf
theorem RiQ.ok {room life now : Int} {Q : List Bq} (h : RiQ room life now Q) (hn : ∀ b ∈ Q, NmB b) : QsOk Q := by
  have hp : ∀ b ∈ Q, (0 ≤ b.born ∧ b.born ≤ now) ∧ runGo b.total 0 b.runs = true ∧ (b.total = -1 ∨ 1 ≤ b.total ∧ b.total ≤ 65535) ∧ b.head.ol ≤ 40 ∧ b.head.bl = 0 := fun b hb => by
    have h2 := h.buf b hb
    unfold bufB runsB at h2
    simp only [Bool.and_eq_true, decide_eq_true_eq] at h2
    obtain ⟨a1, ⟨a2, a3⟩, a4, a5, a6, a7, a8⟩ := h2
    refine ⟨wiR_iff.1 a1, a2, ?_, a6, ?_⟩
    · rw [Bool.or_eq_true, wiR_iff] at a4
      rcases a4 with h3 | h3
      · left; simpa using h3
      · right; exact h3
    · unfold sameIp at a7
      rw [Bool.and_eq_true] at a7
      exact (of_decide_eq_true (show decide (b.head.bl = 0 ∧ ∀ i, i < b.head.bl → b.head.body i = (headI b.head).body i) = true from a7.2)).1
  have hw := h.nw
  refine ⟨by have := h.held; have := h.rm; omega, fun b hb => ?_, fun b hb => (hn b hb).src, fun b hb => (hn b hb).dst, fun b hb => (hn b hb).id, fun b hb => (hn b hb).proto, fun b hb => ?_, fun b hb => ?_, fun b hb f hf => ?_⟩
  · obtain ⟨p1, p2, p3, p4, p5⟩ := hp b hb
    have h3 := runGo_len p2 (by omega)
    exact ⟨by omega, by omega, by omega, fun f hf => by have := runGo_in (Int.le_refl 0) p2 f hf; omega⟩
  · have := (hp b hb).1; omega
  · have := (hp b hb).2.2.1; omega
  · have := runGo_in (Int.le_refl 0) (hp b hb).2.1 f hf; omega
theorem NmB.add {b : Bq} (h : NmB b) (x : Ip) : NmB (addQ b x) := ⟨h.src, h.dst, h.id, h.proto⟩
theorem NmB.new {x : Ip} (now : Int) (hm : MayP x) (hs : 0 ≤ x.src ∧ x.src ≤ 4294967295) (hd : 0 ≤ x.dst ∧ x.dst ≤ 4294967295) : NmB (newQ x now) :=
  ⟨hs, hd, by have := hm.id; show _ ≤ x.id ∧ x.id ≤ _; omega, by have := hm.proto; show _ ≤ x.proto ∧ x.proto ≤ _; omega⟩
end Go.Proofs.Ytgjppmkadmfibaa
set_option linter.unusedVariables false
set_option maxRecDepth 100000
set_option linter.unusedSimpArgs false
namespace Go.Proofs.Ytgjppmkadmfibaa
open Go.RowKit
theorem endQ_all {P : Bq → Prop} {Q : List Bq} (h : ∀ b ∈ Q, P b) (i : Nat) (c : Bq) : ∀ b ∈ (endQ Q i c).1, P b := by
  unfold endQ
  split
  · split
    · exact fun b hb => h b ((List.eraseIdx_sublist ..).subset hb)
    · exact fun b hb => h b ((List.eraseIdx_sublist ..).subset hb)
  · exact h
theorem takeQ_all {P : Bq → Prop} {room life now : Int} {Q : List Bq} {x : Ip} (h : ∀ b ∈ Q, P b) (hadd : ∀ b, P b → P (addQ b x)) (hnew : MayP x → P (newQ x now)) : ∀ b ∈ (takeQ room life now Q x).1, P b := by
  unfold takeQ
  split
  · exact h
  · split
    · exact h
    · rename_i hp hbad
      have hm : MayP x := by
        cases h9 : mayB x with
        | true => exact may_iff.1 h9
        | false =>
          refine absurd ?_ hbad
          rw [h9, Bool.false_and, Bool.and_false]; rfl
      split
      · rename_i i hi
        split
        · rename_i b hb
          split
          · exact fun y hy => h y ((List.eraseIdx_sublist ..).subset hy)
          · split
            · exact h
            · refine endQ_all (fun y hy => ?_) _ _
              rcases List.mem_or_eq_of_mem_set hy with h1 | rfl
              · exact h y h1
              · exact hadd b (h b (List.mem_of_getElem? hb))
        · exact h
      · split
        · exact h
        · refine endQ_all (fun y hy => ?_) _ _
          rcases List.mem_append.1 hy with h1 | h1
          · exact h y h1
          · rw [List.mem_singleton.1 h1]
            exact hadd _ (hnew hm)
theorem takeQ_nm {room life now : Int} {Q : List Bq} {x : Ip} (h : ∀ b ∈ Q, NmB b) (hs : 0 ≤ x.src ∧ x.src ≤ 4294967295) (hd : 0 ≤ x.dst ∧ x.dst ≤ 4294967295) : ∀ b ∈ (takeQ room life now Q x).1, NmB b :=
  takeQ_all h (fun _ hb => hb.add x) (fun hm => NmB.new now hm hs hd)
theorem takeQ_young {room life now : Int} {Q : List Bq} {x : Ip} (hl : 1 ≤ life) (h : ∀ b ∈ Q, oldB now life b = false) : ∀ b ∈ (takeQ room life now Q x).1, oldB now life b = false :=
  takeQ_all h (fun _ hb => hb) (fun _ => by unfold oldB newQ; rw [decide_eq_false_iff_not]; simp only; omega)
end Go.Proofs.Ytgjppmkadmfibaa
set_option linter.unusedVariables false
set_option maxRecDepth 100000
set_option linter.unusedSimpArgs false
namespace Go.Proofs.Ytgjppmkadmfibaa
open Go.RowKit
def AnsOk (r : List Bq × Ip × Bool × Int) : Prop := (r.2.2.1 = false → r.2.1.bl = 0) ∧ (r.2.2.1 = true → r.2.2.2 = 0)
theorem ansOk_no {Q : List Bq} {e : Int} : AnsOk (Q, zeroIp, false, e) := ⟨fun _ => rfl, fun h => by cases h⟩
theorem ansOk_yes {Q : List Bq} {y : Ip} : AnsOk (Q, y, true, 0) := ⟨(fun h => by cases h), fun _ => rfl⟩
theorem endQ_ans {Q : List Bq} (i : Nat) (c : Bq) : AnsOk (endQ Q i c) := by
  unfold endQ
  split
  · split
    · exact ansOk_yes
    · exact ansOk_no
  · exact ansOk_no
theorem takeQ_ans {room life now : Int} {Q : List Bq} {x : Ip} : AnsOk (takeQ room life now Q x) := by
  unfold takeQ
  split
  · exact ansOk_yes
  · split
    · exact ansOk_no
    · split
      · split
        · split
          · exact ansOk_no
          · split
            · exact ansOk_no
            · exact endQ_ans _ _
        · exact ansOk_no
      · split
        · exact ansOk_no
        · exact endQ_ans _ _
theorem tickQ_all {room life now t : Int} {Q : List Bq} (h : RiQ room life now Q) (ht : now + life ≤ t) : tickQ life t Q = [] := by
  unfold tickQ
  refine List.filter_eq_nil_iff.2 fun b hb => ?_
  have h2 := h.buf b hb
  unfold bufB at h2
  rw [Bool.and_eq_true, wiR_iff] at h2
  have h3 : oldB t life b = true := by unfold oldB; exact decide_eq_true (by omega)
  rw [h3]
  simp
end Go.Proofs.Ytgjppmkadmfibaa
set_option linter.unusedVariables false
set_option maxRecDepth 100000
set_option linter.unusedSimpArgs false
namespace Go
section
variable {P : Program} {ops : Array Oper} {md : Region.Mode} {D : World → Prop} {late fl : List Nat} {Le : Array Bool}
/-- What may come up, where late operations wait for the floating ones too. -/
def Region.readyF (md : Region.Mode) (ops : Array Oper) (late fl : List Nat) (listed : Array Bool) : List Nat := (Region.ready md ops listed).filter fun i => !late.contains i || fl.all fun k => listed.getD k false
theorem readyF_iff {listed : Array Bool} {i : Nat} : i ∈ Region.readyF md ops late fl listed ↔ i ∈ Region.ready md ops listed ∧ (i ∈ late → ∀ k ∈ fl, listed.getD k false = true) := by
  unfold Region.readyF
  rw [List.mem_filter]
  simp only [Bool.or_eq_true, Bool.not_eq_true', List.contains_eq_mem, decide_eq_false_iff_not, List.all_eq_true]
  constructor
  · rintro ⟨h1, h2⟩
    exact ⟨h1, fun h => h2.resolve_left (fun h3 => h3 h)⟩
  · rintro ⟨h1, h2⟩
    refine ⟨h1, ?_⟩
    by_cases h : i ∈ late
    · exact .inr (h2 h)
    · exact .inl h
theorem getD_put_true {listed : Array Bool} {i j : Nat} (h : listed.getD i false = true) : (listed.setIfInBounds j true).getD i false = true := by
  by_cases hji : j = i
  · subst hji
    rcases Nat.lt_or_ge j listed.size with h' | h'
    · simp [h']
    · simp [Array.getElem?_eq_none h'] at h
  · rw [getD_set_ne false hji]; exact h
theorem readyF_mono {listed : Array Bool} {i j : Nat} (h : j ∈ Region.readyF md ops late fl listed) (hne : j ≠ i) : j ∈ Region.readyF md ops late fl (listed.setIfInBounds i true) := by
  rw [readyF_iff] at h ⊢
  exact ⟨ready_mono h.1 hne, fun hl k hk => getD_put_true (h.2 hl k hk)⟩
/-- A late operation waits for all others, but for the floating ones. -/
def Region.lateF (md : Region.Mode) (ops : Array Oper) (late fl : List Nat) : Bool := late.all fun t => (List.range ops.size).all fun i => late.contains i || fl.contains i || Region.downB md ops ops.size i t
theorem Region.lateF_spec (h : Region.lateF md ops late fl = true) {t : Nat} (ht : t ∈ late) {listed : Array Bool} {i : Nat} (hc : Region.Closed md ops listed) (hr : t ∈ Region.readyF md ops late fl listed) (hi : i ∉ late) (his : i < ops.size) : listed.getD i false = true := by
  unfold Region.lateF at h
  rw [readyF_iff] at hr
  obtain ⟨_, o, ho, hall⟩ := mem_ready.1 hr.1
  simp only [List.all_eq_true, List.mem_range, Bool.or_eq_true, List.contains_eq_mem, decide_eq_true_eq] at h
  rcases h t ht i his with (h1 | h1) | h1
  · exact absurd h1 hi
  · exact hr.2 ht i h1
  · refine Region.downB_listed hc _ t (fun o' ho' e he hb => ?_) h1
    rw [ho] at ho'
    cases ho'
    exact hall e he hb
/-- Whatever order is picked, up to the late operations; the world but grows. -/
def wpAnyB (P : Program) (md : Region.Mode) (ops : Array Oper) (late fl : List Nat) (Le : Array Bool) (B : Act → World → Prop) : Nat → Array Bool → Act → World → Prop
  | 0, listed, a, w => listed = Le ∧ ∀ w', Junk w w' → B a w'
  | f + 1, listed, a, w => Region.readyF md ops late fl listed ≠ [] ∧
    ∀ i ∈ Region.readyF md ops late fl listed, i ∉ late ∧ ∀ w', Junk w w' → wpE P ops i (fun a' w'' => Junk w' w'' ∧ wpAnyB P md ops late fl Le B f (listed.setIfInBounds i true) a' w'') a w'
theorem wpAnyB_junk {B : Act → World → Prop} : ∀ {f : Nat} {listed : Array Bool} {a : Act} {w w' : World}, Junk w w' → wpAnyB P md ops late fl Le B f listed a w → wpAnyB P md ops late fl Le B f listed a w'
  | 0, _, _, _, _, hj, h => ⟨h.1, fun _ h' => h.2 _ (hj.trans h')⟩
  | _ + 1, _, _, _, _, hj, h => ⟨h.1, fun i hi => ⟨(h.2 i hi).1, fun _ h' => (h.2 i hi).2 _ (hj.trans h')⟩⟩
/-- The same operation, where a slot that it does not use is written. -/
theorem wpE_put' {j : Nat} {oi oj : Oper} {v : Value} (hj : ops[j]? = some oj) (hap : oi.apart ops oj = true) (hsj : ∀ cs b, oj.op ≠ .select cs b)
    {K : Act → World → Prop} {a : Act} {w : World} (h : wpE P ops j K a w) : wpE P ops j (fun a' w' => ∃ a0, a' = a0.put oi.dst v ∧ K a0 w') (a.put oi.dst v) w := by
  obtain ⟨h1, h2, h3⟩ := Oper.apart_spec hap
  unfold wpE at *
  simp only [hj] at *
  rw [wanted_put oj a oi.dst v h1]
  split
  · rename_i hw
    simp only [hw, if_true] at h
    unfold Oper.wp at *
    rw [execOp_put oj hsj a oi.dst v h1]
    generalize (execOp a.eval oj).run P w = r at *
    cases r with
    | ok n w' =>
      cases n with
      | enter f args =>
        simp only [Oper.upon] at h ⊢
        refine h.mono fun e w'' he => ?_
        cases e with
        | returned u => exact ⟨_, Act.put_comm a v u h2, he⟩
        | panicked c => exact he.elim
        | outgrown => obtain ⟨_, _, h⟩ := he; exact h.elim
      | value u => exact ⟨_, Act.put_comm a v u h2, h⟩
      | skip => exact ⟨_, Act.put_comm a v undef h2, h⟩
      | defer d =>
        simp only [Oper.upon] at h ⊢
        refine ⟨_, ?_, h⟩
        rw [← Act.put_comm _ v undef h2]
        cases hd : oi.dst <;> simp [Act.put]
      | row r args => exact Rows.mono h fun u w'' he => ⟨_, Act.put_comm a v u h2, he⟩
      | _ => exact h.elim
    | halt x w' => cases x <;> exact h.elim
  · rename_i hw
    simp only [hw] at h
    exact ⟨_, Act.put_comm a v undef h2, h⟩
theorem getD_true_ne {listed : Array Bool} {i j : Nat} (hi : listed.getD i false = true) (hj : j ∈ Region.readyF md ops late fl listed) : j ≠ i := fun e => by
  subst e
  have h0 := (mem_ready.1 (readyF_iff.1 hj).1).1
  rcases Nat.lt_or_ge j listed.size with h' | h'
  · simp [h'] at h0 hi; rw [h0] at hi; cases hi
  · simp [Array.getElem?_eq_none h'] at hi
theorem getD_set_self {listed : Array Bool} {i : Nat} (hr : i ∈ Region.readyF md ops late fl listed) : (listed.setIfInBounds i true).getD i false = true := by
  have h0 := (mem_ready.1 (readyF_iff.1 hr).1).1
  rcases Nat.lt_or_ge i listed.size with h' | h'
  · simp [h']
  · simp [Array.getElem?_eq_none h'] at h0
/-- What an operation has left behind, put where it belongs. -/
theorem wpAnyB_put {B : Act → World → Prop} {R : Value → World → Prop} (hR : ∀ v w w', R v w → Junk w w' → R v w') {i : Nat} {oi : Oper} {v : Value} (hsel : ∀ (j : Nat) (o : Oper) cs b, ops[j]? = some o → o.op ≠ .select cs b)
    (hap : ∀ j oj, ops[j]? = some oj → j ≠ i → j ∉ late → oi.apart ops oj = true) :
    ∀ (f : Nat) (listed : Array Bool) (a : Act) (w : World), listed.getD i false = true → R v w →
      wpAnyB P md ops late fl Le (fun a w => ∀ v, R v w → B (a.put oi.dst v) w) f listed a w → wpAnyB P md ops late fl Le B f listed (a.put oi.dst v) w := by
  intro f
  induction f with
  | zero => intro listed a w hi hr h; exact ⟨h.1, fun w' hw' => h.2 w' hw' v (hR _ _ _ hr hw')⟩
  | succ f ih =>
    intro listed a w hi hr h
    refine ⟨h.1, fun j hj => ⟨(h.2 j hj).1, fun w' hw' => ?_⟩⟩
    obtain ⟨-, oj, hoj, -⟩ := mem_ready.1 (readyF_iff.1 hj).1
    refine wpE_mono ?_ (wpE_put' (v := v) hoj (hap j oj hoj (getD_true_ne hi hj) (h.2 j hj).1) (fun cs b => hsel j oj cs b hoj) ((h.2 j hj).2 w' hw'))
    rintro a' w'' ⟨a0, rfl, h1, h2⟩
    exact ⟨h1, ih _ a0 w'' (getD_put_true hi) (hR _ _ _ (hR _ _ _ hr hw') h1) h2⟩
/-- An operation that lays a new variable: it may come up at any time. -/
theorem wpAnyB_new (hcl : ∀ w w', D w → Junk w w' → D w') {B : Act → World → Prop} {R : Value → World → Prop} (hR : ∀ v w w', R v w → Junk w w' → R v w') {i : Nat} {oi : Oper} (hi : ops[i]? = some oi) (hsel : ∀ (j : Nat) (o : Oper) cs b, ops[j]? = some o → o.op ≠ .select cs b)
    (hap : ∀ j oj, ops[j]? = some oj → j ≠ i → j ∉ late → oi.apart ops oj = true) (hlast : Region.lateF md ops late fl = true) (hLe : ∀ j ∈ Region.readyF md ops late fl Le, j ∈ late) (hil : i ∉ late)
    (hspec : ∀ a w, D w → wpE P ops i (fun a' w' => ∃ v, a' = a.put oi.dst v ∧ Junk w w' ∧ R v w') a w) :
    ∀ (f : Nat) (listed : Array Bool) (a : Act) (w : World), i ∈ Region.readyF md ops late fl listed → Region.Closed md ops listed → D w →
      wpAnyB P md ops late fl Le (fun a w => ∀ v, R v w → B (a.put oi.dst v) w) f (listed.setIfInBounds i true) a w → wpAnyB P md ops late fl Le B (f + 1) listed a w := by
  have hself : ∀ (f : Nat) (listed : Array Bool) (a : Act) (w : World), i ∈ Region.readyF md ops late fl listed → D w →
      wpAnyB P md ops late fl Le (fun a w => ∀ v, R v w → B (a.put oi.dst v) w) f (listed.setIfInBounds i true) a w → ∀ w', Junk w w' →
      wpE P ops i (fun a' w'' => Junk w' w'' ∧ wpAnyB P md ops late fl Le B f (listed.setIfInBounds i true) a' w'') a w' := fun f listed a w hr hD H w' hw' => by
    refine wpE_mono ?_ (hspec a w' (hcl _ _ hD hw'))
    rintro a' w'' ⟨v, rfl, h1, h2⟩
    exact ⟨h1, wpAnyB_put hR hsel hap f _ a w'' (getD_set_self hr) h2 (wpAnyB_junk (hw'.trans h1) H)⟩
  intro f
  induction f with
  | zero =>
    intro listed a w hr hcs hD H
    refine ⟨fun h => (by rw [h] at hr; cases hr), fun j hj => ?_⟩
    by_cases hji : j = i
    · subst hji; exact ⟨hil, hself 0 listed a w hr hD H⟩
    · have h1 := readyF_mono hj hji
      rw [H.1] at h1
      have h2 := Region.lateF_spec hlast (hLe j h1) hcs hj hil (Array.getElem?_eq_some_iff.1 hi).1
      have h0 := (mem_ready.1 (readyF_iff.1 hr).1).1
      rcases Nat.lt_or_ge i listed.size with h' | h'
      · simp [h'] at h0 h2; rw [h0] at h2; cases h2
      · simp [Array.getElem?_eq_none h'] at h2
  | succ f ih =>
    intro listed a w hr hcs hD H
    refine ⟨fun h => (by rw [h] at hr; cases hr), fun j hj => ?_⟩
    by_cases hji : j = i
    · subst hji; exact ⟨hil, hself _ listed a w hr hD H⟩
    · have h1 := H.2 j (readyF_mono hj hji)
      refine ⟨h1.1, fun w' hw' => wpE_mono (fun a' w'' h3 => ⟨h3.1, ih (listed.setIfInBounds j true) a' w'' (readyF_mono hr (Ne.symm hji)) (hcs.set (readyF_iff.1 hj).1) (hcl _ _ (hcl _ _ hD hw') h3.1) ?_⟩) (h1.2 w' hw')⟩
      rw [Array.setIfInBounds_comm _ _ hji]
      exact h3.2
theorem wpAnyB_first (hcl : ∀ w w', D w → Junk w w' → D w') {B : Act → World → Prop} {i : Nat} {oi : Oper} {v : Value} (hi : ops[i]? = some oi) (hsel : ∀ (j : Nat) (o : Oper) cs b, ops[j]? = some o → o.op ≠ .select cs b) (hlast : Region.lateF md ops late fl = true) (hLe : ∀ j ∈ Region.readyF md ops late fl Le, j ∈ late) (hil : i ∉ late) :
    ∀ (f : Nat) (listed : Array Bool) (a : Act) (w : World),
      (∀ j oj, ops[j]? = some oj → j ≠ i → listed.getD j true = false → (∀ e ∈ oj.after, Region.binds md e = true → e.on ≠ i) → oi.apart ops oj = true) →
      i ∈ Region.readyF md ops late fl listed → Region.Closed md ops listed → YieldsJ P ops D oi v a → D w →
      wpAnyB P md ops late fl Le B f (listed.setIfInBounds i true) (a.put oi.dst v) w → wpAnyB P md ops late fl Le B (f + 1) listed a w := by
  intro f
  induction f with
  | zero =>
    intro listed a w _ hr hcs hy hD H
    refine ⟨fun h => (by rw [h] at hr; cases hr), fun j hj => ?_⟩
    by_cases hji : j = i
    · subst hji; exact ⟨hil, fun w' hw' => hy.wpE hi (hcl _ _ hD hw') fun w'' hw'' => ⟨hw'', wpAnyB_junk (hw'.trans hw'') H⟩⟩
    · have h1 := readyF_mono hj hji
      rw [H.1] at h1
      have h2 := Region.lateF_spec hlast (hLe j h1) hcs hj hil (Array.getElem?_eq_some_iff.1 hi).1
      have h0 := (mem_ready.1 (readyF_iff.1 hr).1).1
      rcases Nat.lt_or_ge i listed.size with h' | h'
      · simp [h'] at h0 h2; rw [h0] at h2; cases h2
      · simp [Array.getElem?_eq_none h'] at h2
  | succ f ih =>
    intro listed a w hfree hr hcs hy hD H
    refine ⟨fun h => (by rw [h] at hr; cases hr), fun j hj => ?_⟩
    by_cases hji : j = i
    · subst hji; exact ⟨hil, fun w' hw' => hy.wpE hi (hcl _ _ hD hw') fun w'' hw'' => ⟨hw'', wpAnyB_junk (hw'.trans hw'') H⟩⟩
    · have h1 := H.2 j (readyF_mono hj hji)
      obtain ⟨hjun, oj, hoj, hall⟩ := mem_ready.1 (readyF_iff.1 hj).1
      have hnot : ∀ e ∈ oj.after, Region.binds md e = true → e.on ≠ i := fun e he hb heq => by
        have h1 := hall e he hb
        have h0 := (mem_ready.1 (readyF_iff.1 hr).1).1
        rw [heq] at h1
        rcases Nat.lt_or_ge i listed.size with h' | h'
        · simp [h'] at h0 h1; rw [h0] at h1; cases h1
        · simp [Array.getElem?_eq_none h'] at h1
      refine ⟨h1.1, fun w' hw' => ?_⟩
      have h2 := wpE_put hoj (hfree j oj hoj hji hjun hnot) (fun cs b => hsel i oi cs b hi) (fun cs b => hsel j oj cs b hoj) hy (h1.2 w' hw')
      have hfree' : ∀ k ok, ops[k]? = some ok → k ≠ i → (listed.setIfInBounds j true).getD k true = false →
          (∀ e ∈ ok.after, Region.binds md e = true → e.on ≠ i) → oi.apart ops ok = true := fun k ok hk hki hun hno => by
        refine hfree k ok hk hki ?_ hno
        by_cases hjk : j = k
        · subst hjk; exact hjun
        · rw [getD_set_ne true hjk] at hun; exact hun
      refine wpE_mono (fun a' w'' h3 => ⟨h3.2.1, ih (listed.setIfInBounds j true) a' w'' hfree' (readyF_mono hr (Ne.symm hji)) (hcs.set (readyF_iff.1 hj).1) h3.1 (hcl _ _ (hcl _ _ hD hw') h3.2.1) ?_⟩) h2
      rw [Array.setIfInBounds_comm _ _ hji]
      exact h3.2.2
/-- The order of our choice, up to the late ones. -/
def Region.mixBB (md : Region.Mode) (ops : Array Oper) (late fl : List Nat) (Le : Array Bool) : List (Nat × Bool) → Array Bool → Bool
  | [], listed => decide (listed = Le)
  | (k, q) :: r, listed => !late.contains k && (if q then (Region.readyF md ops late fl listed).contains k && Region.free md ops listed k else decide (Region.readyF md ops late fl listed = [k])) && Region.mixBB md ops late fl Le r (listed.setIfInBounds k true)
def wpMixB (P : Program) (ops : Array Oper) (D : World → Prop) (B : Act → World → Prop) : List (Nat × Bool) → Act → World → Prop
  | [], a, w => ∀ w', Junk w w' → B a w'
  | (k, true) :: r, a, w => match ops[k]? with
    | none => False
    | some o => if Region.wanted o (yielded ops a.tmps) then ∃ v, (∀ w, D w → o.quietAt P a (Junk w) w v) ∧ wpMixB P ops D B r (a.put o.dst v) w else wpMixB P ops D B r (a.put o.dst undef) w
  | (k, false) :: r, a, w => ∀ w', Junk w w' → wpE P ops k (fun a' w'' => Junk w' w'' ∧ wpMixB P ops D B r a' w'') a w'
theorem wpMixB_q {B : Act → World → Prop} {k : Nat} {r : List (Nat × Bool)} {o : Oper} {a : Act} {w : World} (ho : ops[k]? = some o)
    (h : ∀ K : Act → Prop, (∀ a, wpMixB P ops D B r a w → K a) → if Region.wanted o (yielded ops a.tmps) then ∃ v, (∀ w, D w → o.quietAt P a (Junk w) w v) ∧ K (a.put o.dst v) else K (a.put o.dst undef)) :
    wpMixB P ops D B ((k, true) :: r) a w := by
  unfold wpMixB
  simp only [ho]
  exact h _ (fun _ h => h)
theorem wpMixB_e {B : Act → World → Prop} {k : Nat} {r : List (Nat × Bool)} {o : Oper} {a : Act} {w : World} (ho : ops[k]? = some o)
    (h : ∀ os d, ∀ K : Act → World → Prop, (∀ a w', Junk (w.junk os d) w' → wpMixB P ops D B r a w' → K a w') → if Region.wanted o (yielded ops a.tmps) then o.wp P a (w.junk os d) K NoExit else K (a.put o.dst undef) (w.junk os d)) :
    wpMixB P ops D B ((k, false) :: r) a w := by
  unfold wpMixB
  rintro w' ⟨os, d, rfl⟩
  unfold wpE
  simp only [ho]
  exact h os d _ (fun _ _ hd h => ⟨hd, h⟩)
theorem wpMixB_e1 {B : Act → World → Prop} {k : Nat} {r : List (Nat × Bool)} {o : Oper} {a : Act} {w : World} (ho : ops[k]? = some o) (hg : o.guard = none)
    (h : ∀ os d, ∀ K : Act → World → Prop, (∀ a w', Junk (w.junk os d) w' → wpMixB P ops D B r a w' → K a w') → o.wp P a (w.junk os d) K NoExit) :
    wpMixB P ops D B ((k, false) :: r) a w :=
  wpMixB_e ho fun os d K hK => by
    have hw : Region.wanted o (yielded ops a.tmps) = true := by simp [Region.wanted, hg]
    rw [if_pos hw]
    exact h os d K hK
theorem wpMixB_nil {B : Act → World → Prop} {a : Act} {w : World} (h : ∀ os d, B a (w.junk os d)) : wpMixB P ops D B [] a w := by
  unfold wpMixB
  rintro w' ⟨os, d, rfl⟩
  exact h os d
theorem wpAnyB_mix (hcl : ∀ w w', D w → Junk w w' → D w') {B : Act → World → Prop} (hsel : Region.noSelect ops = true) (hlast : Region.lateF md ops late fl = true) (hLe : ∀ j ∈ Region.readyF md ops late fl Le, j ∈ late) : ∀ (π : List (Nat × Bool)) (listed : Array Bool) (a : Act) (w : World),
    Region.mixBB md ops late fl Le π listed = true → Region.Closed md ops listed → D w → wpMixB P ops D B π a w → wpAnyB P md ops late fl Le B π.length listed a w
  | [], _, _, _, hB, _, _, h => ⟨by simpa [Region.mixBB] using hB, by unfold wpMixB at h; exact h⟩
  | (k, true) :: r, listed, a, w, hB, hcs, hD, h => by
    simp only [Region.mixBB, if_true, Bool.and_eq_true, Bool.not_eq_true', List.contains_eq_mem, decide_eq_false_iff_not] at hB
    obtain ⟨⟨hkl, hr, hf⟩, hB'⟩ := hB
    unfold wpMixB at h
    split at h
    · exact h.elim
    · rename_i o ho
      have hk : ∃ v, YieldsJ P ops D o v a ∧ wpMixB P ops D B r (a.put o.dst v) w := by
        split at h
        · rename_i hw; obtain ⟨v, h1, h2⟩ := h; exact ⟨v, .inl ⟨hw, h1⟩, h2⟩
        · rename_i hw; exact ⟨undef, .inr ⟨by simpa using hw, rfl⟩, h⟩
      obtain ⟨v, hy, h2⟩ := hk
      have hr' : k ∈ Region.readyF md ops late fl listed := by simpa using hr
      exact wpAnyB_first hcl ho (Region.noSelect_spec hsel) hlast hLe hkl r.length listed a w (Region.free_spec ho hf) hr' hcs hy hD (wpAnyB_mix hcl hsel hlast hLe r _ _ w hB' (hcs.set (readyF_iff.1 hr').1) hD h2)
  | (k, false) :: r, listed, a, w, hB, hcs, hD, h => by
    simp only [Region.mixBB, Bool.false_eq_true, if_false, Bool.and_eq_true, Bool.not_eq_true', List.contains_eq_mem, decide_eq_false_iff_not, decide_eq_true_eq] at hB
    obtain ⟨⟨hkl, hr⟩, hB'⟩ := hB
    unfold wpMixB at h
    refine ⟨by rw [hr]; simp, fun i hi => ?_⟩
    rw [hr] at hi
    obtain rfl : i = k := by simpa using hi
    exact ⟨hkl, fun w' hw' => wpE_mono (fun a' w'' h' => ⟨h'.1, wpAnyB_mix hcl hsel hlast hLe r _ a' w'' hB' (hcs.set (readyF_iff.1 (show i ∈ Region.readyF md ops late fl listed by rw [hr]; simp)).1) (hcl _ _ (hcl _ _ hD hw') h'.1) h'.2⟩) (h w' hw')⟩
def dstOf (ops : Array Oper) (e : Nat) : Option Tmp := match ops[e]? with
  | some o => o.dst
  | none => none
def nestB (ops : Array Oper) (R : Nat → Value → World → Prop) : List Nat → (Act → World → Prop) → Act → World → Prop
  | [], B => B
  | e :: E, B => nestB ops R E fun a w => ∀ v, R e v w → B (a.put (dstOf ops e) v) w
def Region.earlyB (md : Region.Mode) (ops : Array Oper) (late fl : List Nat) : List Nat → Array Bool → Bool
  | [], _ => true
  | e :: E, listed => (Region.readyF md ops late fl listed).contains e && !late.contains e && (match ops[e]? with
      | some oe => (List.range ops.size).all fun j => j == e || late.contains j || match ops[j]? with
        | some oj => oe.apart ops oj
        | none => true
      | none => false) && Region.earlyB md ops late fl E (listed.setIfInBounds e true)
def listAll (E : List Nat) (listed : Array Bool) : Array Bool := E.foldl (fun l e => l.setIfInBounds e true) listed
theorem wpAnyB_news (hcl : ∀ w w', D w → Junk w w' → D w') {R : Nat → Value → World → Prop} (hR : ∀ e v w w', R e v w → Junk w w' → R e v w') (hsel : Region.noSelect ops = true) (hlast : Region.lateF md ops late fl = true) (hLe : ∀ j ∈ Region.readyF md ops late fl Le, j ∈ late) {f : Nat} :
    ∀ (E : List Nat) (B : Act → World → Prop) (listed : Array Bool) (a : Act) (w : World), Region.earlyB md ops late fl E listed = true → Region.Closed md ops listed → D w →
      (∀ e ∈ E, ∀ a w, D w → wpE P ops e (fun a' w' => ∃ v, a' = a.put (dstOf ops e) v ∧ Junk w w' ∧ R e v w') a w) →
      (Region.Closed md ops (listAll E listed) → wpAnyB P md ops late fl Le (nestB ops R E B) f (listAll E listed) a w) → wpAnyB P md ops late fl Le B (f + E.length) listed a w
  | [], B, listed, a, w, _, hcs, _, _, H => H hcs
  | e :: E, B, listed, a, w, hE, hcs, hD, hs, H => by
    simp only [Region.earlyB, Bool.and_eq_true, Bool.not_eq_true', List.contains_eq_mem, decide_eq_false_iff_not, decide_eq_true_eq] at hE
    obtain ⟨⟨⟨hr, hel⟩, hap⟩, hE'⟩ := hE
    obtain ⟨-, oe, ho, -⟩ := mem_ready.1 (readyF_iff.1 hr).1
    simp only [ho, List.all_eq_true, List.mem_range, Bool.or_eq_true, beq_iff_eq, decide_eq_true_eq] at hap
    have hd : dstOf ops e = oe.dst := by unfold dstOf; rw [ho]
    have h1 := wpAnyB_news hcl hR hsel hlast hLe E _ (listed.setIfInBounds e true) a w hE' (hcs.set (readyF_iff.1 hr).1) hD (fun e' he' => hs e' (List.mem_cons_of_mem _ he')) H
    rw [List.length_cons, ← Nat.add_assoc]
    refine wpAnyB_new hcl (R := R e) (hR e) ho (Region.noSelect_spec hsel) (fun j oj hj hne hjl => ?_) hlast hLe hel (fun a w hD => ?_) _ listed a w hr hcs hD ?_
    · have h2 := hap j (Array.getElem?_eq_some_iff.1 hj).1
      rw [hj] at h2
      rcases h2 with (h2 | h2) | h2
      · exact absurd h2 hne
      · exact absurd h2 hjl
      · exact h2
    · have := hs e (List.mem_cons_self ..) a w hD
      rw [hd] at this
      exact this
    · rw [← hd]; exact h1
/-- A new variable of the region: behind it its block. -/
def NewVar (W0 : World) (L : List (Nat × TypeId × List Value)) (e : Nat) (v : Value) (w : World) : Prop := match L.find? (fun p => p.1 == e) with
  | some p => ∃ r, v = .pointer (some ⟨r, 0, none⟩) ∧ W0.heap.size ≤ r ∧ Box w r p.2.1 p.2.2
  | none => False
theorem NewVar.on {W0 : World} {L : List (Nat × TypeId × List Value)} {e : Nat} {v : Value} {w w' : World} (h : NewVar W0 L e v w) (hj : Junk w w') : NewVar W0 L e v w' := by
  unfold NewVar at *
  split at h
  · obtain ⟨r, h1, h2, h3⟩ := h
    exact ⟨r, h1, h2, h3.on hj⟩
  · exact h
theorem newVar_wpE {W0 : World} {L : List (Nat × TypeId × List Value)} {e : Nat} {o : Oper} {p : Nat × TypeId × List Value} (ho : ops[e]? = some o) (hg : o.guard = none) (hop : o.op = .alloc p.2.1) (hf : L.find? (fun p => p.1 == e) = some p)
    (hal : ∀ w, (Instr.alloc p.2.1 true (.tuple #[])).run P w = .ok (.pointer (some ⟨w.heap.size, 0, none⟩)) (w.alloc (.cells p.2.2.toArray p.2.1))) (a : Act) (w : World) (hj : Junk W0 w) :
    wpE P ops e (fun a' w' => ∃ v, a' = a.put (dstOf ops e) v ∧ Junk w w' ∧ NewVar W0 L e v w') a w := by
  unfold wpE
  have hd : dstOf ops e = o.dst := by unfold dstOf; rw [ho]
  have hw : Region.wanted o (yielded ops a.tmps) = true := by simp [Region.wanted, hg]
  simp only [ho, if_pos hw]
  unfold Oper.wp
  simp only [execOp, hop, hal, Sem.run_bind, Sem.run_pure, Result.andThen, Oper.upon]
  refine ⟨.pointer (some ⟨w.heap.size, 0, none⟩), by rw [hd], (Junk.refl w).alloc _, ?_⟩
  unfold NewVar
  rw [hf]
  exact ⟨_, rfl, hj.size, by have := box_new w p.2.2.toArray p.2.1; simpa using this⟩
/-- Does the operation only move or take apart what a slot holds? -/
def Oper.floats (o : Oper) : Bool := match o.op, o.guard with
  | .move _, none => true
  | .extract _ _, none => true
  | _, _ => false
theorem float_spec {i : Nat} {o : Oper} {a : Act} {w : World} {K : Act → World → Prop} (ho : ops[i]? = some o) (hf : o.floats = true) (h : wpE P ops i K a w) : ∃ v, YieldsJ P ops (fun _ => True) o v a ∧ K (a.put o.dst v) w := by
  unfold wpE at h
  simp only [ho] at h
  unfold Oper.floats at hf
  split at hf
  · rename_i x hop hg
    have hw : Region.wanted o (yielded ops a.tmps) = true := by simp [Region.wanted, hg]
    rw [if_pos hw] at h
    refine ⟨a.eval x, .inl ⟨hw, fun w' _ => ?_⟩, ?_⟩
    · unfold Oper.quietAt Oper.quietUpon
      simp [execOp, hop, Sem.run_pure]
    · unfold Oper.wp at h
      simpa only [execOp, hop, Sem.run_pure, Oper.upon] using h
  · rename_i x k hop hg
    have hw : Region.wanted o (yielded ops a.tmps) = true := by simp [Region.wanted, hg]
    rw [if_pos hw] at h
    unfold Oper.wp at h
    simp only [execOp, hop, Sem.run_bind] at h
    generalize hy : a.eval x = y at h
    cases y
    case tuple vs =>
      cases hv : (vs[k]? : Option Value) with
      | some v =>
        refine ⟨v, .inl ⟨hw, fun w' _ => ?_⟩, ?_⟩
        · unfold Oper.quietAt Oper.quietUpon
          simp [execOp, hop, hy, Instr.extract, hv, Sem.run_bind, Sem.run_pure, Result.andThen]
        · simpa [Instr.extract, hv, Sem.run_pure, Result.andThen, Oper.upon] using h
      | none => simp [Instr.extract, hv, stuck, Result.andThen, Oper.upon, NoExit] at h
    all_goals simp [Instr.extract, stuck, Result.andThen, Oper.upon, NoExit] at h
  · cases hf
/-- The floating operations: they only move, late ones wait for nothing less, and others are apart from them. -/
def Region.floatB (md : Region.Mode) (ops : Array Oper) (late fl : List Nat) : Bool := fl.all fun i => !late.contains i && match ops[i]? with
  | some o => o.floats && (late.all fun t => o.after.all fun e => !Region.binds md e || Region.downB md ops ops.size e.on t) && (List.range ops.size).all fun j => j == i || Region.downB md ops ops.size j i || match ops[j]? with
    | some oj => oj.after.any (fun e => Region.binds md e && e.on == i) || o.apart ops oj
    | none => true
  | none => false
theorem wpAnyD_of_B {B : Act → World → Prop} {Q : Act → World → Prop} {n : Nat} (hfl : Region.floatB md ops late fl = true) (hsel : ∀ (j : Nat) (o : Oper) cs b, ops[j]? = some o → o.op ≠ .select cs b)
    (hB : ∀ a w, B a w → wpAnyD P md ops (fun _ => True) Q n Le a w) : ∀ (f : Nat) (listed : Array Bool) (a : Act) (w : World), Region.Closed md ops listed → listed.size = ops.size → wpAnyB P md ops late fl Le B f listed a w → wpAnyD P md ops (fun _ => True) Q (f + n) listed a w
  | 0, _, _, _, _, _, h => by
    obtain ⟨rfl, h2⟩ := h
    rw [Nat.zero_add]
    exact hB _ _ (h2 _ (Junk.refl _))
  | f + 1, listed, a, w, hcs, hsz, h => by
    have hspec : ∀ i ∈ fl, i ∉ late ∧ ∃ o, ops[i]? = some o ∧ o.floats = true ∧ (∀ t ∈ late, ∀ e ∈ o.after, Region.binds md e = true → Region.downB md ops ops.size e.on t = true) ∧
        ∀ j oj, ops[j]? = some oj → j ≠ i → Region.downB md ops ops.size j i = false → (∀ e ∈ oj.after, Region.binds md e = true → e.on ≠ i) → o.apart ops oj = true := fun i hi => by
      have h1 := List.all_eq_true.1 hfl i hi
      simp only [Bool.and_eq_true, Bool.not_eq_true', List.contains_eq_mem, decide_eq_false_iff_not] at h1
      refine ⟨h1.1, ?_⟩
      have h2 := h1.2
      split at h2
      · rename_i o ho
        simp only [Bool.and_eq_true, List.all_eq_true, Array.all_eq_true_iff_forall_mem, Bool.or_eq_true, Bool.not_eq_true', List.mem_range, beq_iff_eq] at h2
        refine ⟨o, ho, h2.1.1, fun t ht e he hb => ?_, fun j oj hj hne hdn hno => ?_⟩
        · rcases h2.1.2 t ht e he with h3 | h3
          · rw [hb] at h3; cases h3
          · exact h3
        · have h3 := h2.2 j (Array.getElem?_eq_some_iff.1 hj).1
          rw [hj] at h3
          rcases h3 with (h3 | h3) | h3
          · exact absurd h3 hne
          · rw [hdn] at h3; cases h3
          · simp only [Bool.or_eq_true] at h3
            rcases h3 with h3 | h3
            · obtain ⟨e, he, hb⟩ := Array.any_eq_true'.1 h3
              simp only [Bool.and_eq_true, beq_iff_eq] at hb
              exact absurd hb.2 (hno e he hb.1)
            · exact h3
      · cases h2
    have hsz' : ∀ i, (listed.setIfInBounds i true).size = ops.size := fun i => by simpa using hsz
    rw [show f + 1 + n = (f + n) + 1 by omega]
    by_cases hx : ∃ i, i ∈ fl ∧ i ∈ Region.ready md ops listed
    · obtain ⟨i, hif, hir⟩ := hx
      obtain ⟨hil, o, ho, hof, _, hap⟩ := hspec i hif
      have hρ : i ∈ Region.readyF md ops late fl listed := readyF_iff.2 ⟨hir, fun hl => absurd hl hil⟩
      obtain ⟨v, hy, hj, h2⟩ := float_spec ho hof ((h.2 i hρ).2 w (Junk.refl _))
      refine wpAnyD_first (D := fun _ => True) (fun _ _ _ _ => trivial) ho hsel (f + n) listed a w (fun j oj hj hne hun hno => ?_) hir hy trivial (wpAnyD_of_B hfl hsel hB f _ _ w (hcs.set hir) (hsz' i) h2)
      refine hap j oj hj hne ?_ hno
      cases hd : Region.downB md ops ops.size j i with
      | false => rfl
      | true =>
        obtain ⟨_, o', ho', hall⟩ := mem_ready.1 hir
        have h3 := Region.downB_listed hcs ops.size i (fun o'' ho'' e he hb => by rw [ho'] at ho''; cases ho''; exact hall e he hb) hd
        rcases Nat.lt_or_ge j listed.size with h' | h'
        · simp [h'] at hun h3; rw [hun] at h3; cases h3
        · simp [Array.getElem?_eq_none h'] at h3
    · refine ⟨fun h0 => absurd ?_ h.1, fun j hj w' hw' => ?_⟩
      · unfold Region.readyF; rw [h0]; rfl
      · have hρ : j ∈ Region.readyF md ops late fl listed := readyF_iff.2 ⟨hj, fun hl k hk => by
          obtain ⟨_, o, ho, _, hdn, _⟩ := hspec k hk
          cases hg : listed.getD k false with
          | true => rfl
          | false =>
            refine absurd ⟨k, hk, mem_ready.2 ⟨?_, o, ho, fun e he hb => ?_⟩⟩ hx
            · have hk' : k < listed.size := by rw [hsz]; exact (Array.getElem?_eq_some_iff.1 ho).1
              simp [hk'] at hg ⊢; exact hg
            · obtain ⟨_, o', ho', hall⟩ := mem_ready.1 hj
              exact Region.downB_listed hcs ops.size j (fun o'' ho'' e he hb => by rw [ho'] at ho''; cases ho''; exact hall e he hb) (hdn j hl e he hb)⟩
        exact wpE_mono (fun a' w'' h' => ⟨trivial, wpAnyD_of_B hfl hsel hB f _ a' w'' (hcs.set hj) (hsz' j) h'.2⟩) ((h.2 j hρ).2 w' hw')
theorem wp_region_mixa {id : Nat} {Q : Exit → Act → World → Prop} {a : Act} {w1 : World} {l : List Oper} (W0 : World) (L : List (Nat × TypeId × List Value)) (late fl : List Nat) (Le : Array Bool) (π π2 : List (Nat × Bool)) (hm : P.follows .mixedOrders = true)
    (hB : (Region.noSelect l.toArray && decide (L.length + π.length + π2.length = l.length) && Region.earlyB .any l.toArray late fl (L.map Prod.fst) (Array.replicate l.length false) && Region.mixBB .any l.toArray late fl Le π (listAll (L.map Prod.fst) (Array.replicate l.length false))
      && Region.lateF .any l.toArray late fl && (Region.readyF .any l.toArray late fl Le).all late.contains && Region.mixB .any l.toArray π2 Le && Region.floatB .any l.toArray late fl) = true)
    (hj : Junk W0 w1) (hL : ∀ e ∈ L.map Prod.fst, ∀ a w, Junk W0 w → wpE P l.toArray e (fun a' w' => ∃ v, a' = a.put (dstOf l.toArray e) v ∧ Junk w w' ∧ NewVar W0 L e v w') a w)
    (h : wpMixB P l.toArray (fun w' => ∃ x : Jk, w' = W0.junk x.os x.d) (nestB l.toArray (NewVar W0 L) (L.map Prod.fst) fun a w => wpMix P l.toArray (fun _ => True) (fun a' w' => Q .normal a' w') π2 a w) π a w1.drew) : (Code.region id l.toArray true).wp P Q a w1 := by
  simp only [Bool.and_eq_true, decide_eq_true_eq] at hB
  obtain ⟨⟨⟨⟨⟨⟨⟨hsel, hlen⟩, hE⟩, hπ⟩, hlast⟩, hLe0⟩, hπ2⟩, hfl⟩ := hB
  have hLe : ∀ j ∈ Region.readyF .any l.toArray late fl Le, j ∈ late := fun j hj => by
    have := List.all_eq_true.1 hLe0 j hj
    simpa using this
  have hcl : ∀ w w' : World, (∃ x : Jk, w = W0.junk x.os x.d) → Junk w w' → ∃ x : Jk, w' = W0.junk x.os x.d := fun _ _ h1 h2 => InJunk.on (w := W0) h1 h2
  have hcE : ∀ (E : List Nat) (listed : Array Bool), Region.earlyB .any l.toArray late fl E listed = true → Region.Closed .any l.toArray listed → Region.Closed .any l.toArray (listAll E listed) := by
    intro E
    induction E with
    | nil => intro listed _ h; exact h
    | cons e E ih =>
      intro listed hE hc
      simp only [Region.earlyB, Bool.and_eq_true, List.contains_eq_mem, decide_eq_true_eq] at hE
      exact ih _ hE.2 (hc.set (readyF_iff.1 hE.1.1.1).1)
  have hjd : ∃ x : Jk, w1.drew = W0.junk x.os x.d := hj.drew.pair
  refine wp_region_any hm (wpAny_of_D (D := fun _ => True) (Q := fun a' w' => Q .normal a' w') (fun _ _ h => h) _ _ _ _ ?_)
  have h1 := wpAnyB_mix (P := P) (md := .any) (B := nestB l.toArray (NewVar W0 L) (L.map Prod.fst) fun a w => wpMix P l.toArray (fun _ => True) (fun a' w' => Q .normal a' w') π2 a w) hcl hsel hlast hLe π (listAll (L.map Prod.fst) (Array.replicate l.length false)) a w1.drew hπ (hcE _ _ hE (Region.Closed.none _)) hjd h
  have h2 := wpAnyB_news (P := P) (md := .any) hcl (R := NewVar W0 L) (fun _ _ _ _ h hj => h.on hj) hsel hlast hLe (L.map Prod.fst) (fun a w => wpMix P l.toArray (fun _ => True) (fun a' w' => Q .normal a' w') π2 a w) (Array.replicate l.length false) a w1.drew hE (Region.Closed.none _) hjd
    (fun e he a w hD => hL e he a w (by obtain ⟨x, rfl⟩ := hD; exact ⟨_, _, rfl⟩)) (fun _ => h1)
  have h3 := wpAnyD_of_B (P := P) (md := .any) (n := π2.length) hfl (Region.noSelect_spec hsel) (fun a w hb => wpAnyD_mix (P := P) (md := .any) (D := fun _ => True) (fun _ _ _ _ => trivial) hsel π2 Le a w hπ2 trivial hb) _ _ _ _ (Region.Closed.none _) (by simp) h2
  rw [List.length_map, show π.length + L.length + π2.length = l.length by omega] at h3
  simpa using h3
end
end Go
set_option linter.unusedVariables false
set_option maxRecDepth 100000
set_option linter.unusedSimpArgs false
namespace Go.Proofs.Ytgjppmkadmfibaa
open Go.RowKit
theorem awTk1 (w : World) (ob : Option Addr) (hB : Bts w ob 1 1 (fun _ => 9)) :
    Calls Try.prog 10 #[.agg #[.int .i64 100, .int .i64 9, .int .i64 0, .slice none 0 0], .agg #[.int .i64 0, .int .i64 0, .bool false, .bool false, .int .i64 8, .int .i64 5, .int .i64 17, .int .u32 0, .int .u32 0, .slice none 0 0, .slice ob 1 1]] w fun e w' => Junk w w' ∧ ∃ (ol : Option Addr) (cap : Nat) (o1 o2 : Option Addr) (c1 c2 : Nat), QsAt w' ol 1 cap [awQ] ∧
      e = .returned (.tuple #[.agg #[.int .i64 100, .int .i64 9, .int .i64 0, .slice ol 1 cap], .agg #[.int .i64 0, .int .i64 0, .bool false, .bool false, .int .i64 0, .int .i64 0, .int .i64 0, .int .u32 0, .int .u32 0, .slice o1 0 c1, .slice o2 0 c2], .bool false, .int .i64 0]) := by
  have hX : IpAt w aw1 none 0 ob 1 := ⟨bts_none _ _, hB, by decide, by decide⟩
  refine (take_any 100 9 0 none 0 0 [] aw1 none ob 0 1 w (qsat_nil w) (by omega) awNil_ok hX (by decide) (by decide) (by omega)).mono ?_
  rintro e w' ⟨hj, ol, cap, o1, o2, c1, c2, h1, h2, rfl⟩
  rw [awTake1] at h1
  exact ⟨hj, ol, cap, o1, o2, c1, c2, h1, by rw [awTake1]; rfl⟩
theorem awTk2 (w : World) (oq : Option Addr) (cq : Nat) (hQ : QsAt w oq 1 cq [awQ]) (ob : Option Addr) (hB : Bts w ob 8 8 (fun _ => 0)) :
    Calls Try.prog 10 #[.agg #[.int .i64 100, .int .i64 9, .int .i64 0, .slice oq 1 cq], .agg #[.int .i64 0, .int .i64 0, .bool false, .bool true, .int .i64 0, .int .i64 6, .int .i64 17, .int .u32 0, .int .u32 0, .slice none 0 0, .slice ob 8 8]] w fun e w' => Junk w w' ∧ ∃ (ol : Option Addr) (cap : Nat) (o1 o2 : Option Addr) (c1 c2 : Nat), Bts w' o2 9 c2 awY.body ∧
      e = .returned (.tuple #[.agg #[.int .i64 100, .int .i64 9, .int .i64 0, .slice ol 0 cap], .agg #[.int .i64 0, .int .i64 0, .bool false, .bool false, .int .i64 0, .int .i64 6, .int .i64 17, .int .u32 0, .int .u32 0, .slice o1 0 c1, .slice o2 9 c2], .bool true, .int .i64 0]) := by
  have hX : IpAt w aw2 none 0 ob 8 := ⟨bts_none _ _, hB, by decide, by decide⟩
  refine (take_any 100 9 0 oq 1 cq [awQ] aw2 none ob 0 8 w hQ (by omega) awQ_ok hX (by decide) (by decide) (by omega)).mono ?_
  rintro e w' ⟨hj, ol, cap, o1, o2, c1, c2, h1, h2, rfl⟩
  rw [awTake2] at h2
  exact ⟨hj, ol, cap, o1, o2, c1, c2, h2.body, by rw [awTake2]; rfl⟩
theorem awNew (w : World) : Calls Try.prog 9 #[.int .i64 100, .int .i64 9] w fun e w' => e = .returned (.tuple #[.agg #[.int .i64 100, .int .i64 9, .int .i64 0, .slice none 0 0], .int .i64 0]) ∧ Junk w w' :=
  (new_any 100 9 w).mono fun e w' h => ⟨by rw [h.2]; rfl, h.1⟩
theorem awHe (w : World) (oq : Option Addr) (cq : Nat) (hQ : QsAt w oq 1 cq [awQ]) : Calls Try.prog 14 #[.agg #[.int .i64 100, .int .i64 9, .int .i64 0, .slice oq 1 cq]] w fun e w' => e = .returned (.int .i64 1) ∧ Junk w w' := by
  obtain ⟨L, h1, h2⟩ := hQ.ex
  have h3 := held_any 100 9 0 oq 1 cq L w h1 (by rw [← hQ.len, ← h2, List.length_map]) (by omega) (by rw [h2]; decide) (fun b hb => by
    have h4 : b.q ∈ [awQ] := by rw [← h2]; exact List.mem_map.2 ⟨b, hb, rfl⟩
    have h5 := List.mem_singleton.1 h4
    have h6 : b.F.length = b.q.runs.length := by show _ = (b.F.map Ot.d).length; rw [List.length_map]
    rw [h6, h5]; decide)
  rw [h2] at h3
  exact h3
theorem bts_box {V : World} {g n : Nat} {e : TypeId} {cs : List Value} {xs : Nat → Int} (h : Box V g e cs) (hc : ∀ i, i < n → cs[i]? = some (.int .u8 (xs i))) (hx : ∀ i, i < n → 0 ≤ xs i ∧ xs i ≤ 255) (hn : n ≤ maxLen) : Bts V (some ⟨g, 0, none⟩) n n xs :=
  ⟨fun i hi => ⟨g, 0, rfl, h.lt, by rw [Nat.zero_add]; exact h.cell (hc i hi)⟩, hx, (fun h => by cases h), Nat.le_refl _, hn⟩
theorem box_ne {V : World} {r r' : Nat} {e e' : TypeId} {cs cs' : List Value} (h : Box V r e cs) (h' : Box V r' e' cs') (hne : e ≠ e') : some r ≠ some r' := fun he => by
  cases he
  unfold Box at h h'
  rw [h] at h'
  simp only [Option.some.injEq, Obj.cells.injEq] at h'
  exact hne h'.2.1
def notByte : Value → Bool
  | .int .u8 _ => false
  | _ => true
theorem box_noByte {V : World} {r : Nat} {e : TypeId} {cs : List Value} (h : Box V r e cs) (hn : cs.all notByte = true) : ∀ j v, V.cell? ⟨r, j, none⟩ ≠ some (.int .u8 v) := fun j v hv => by
  have h2 := List.all_eq_true.1 hn _ (List.mem_of_getElem? (box_cell h hv))
  cases h2
/-- What the pool's block is while it holds no list. -/
theorem poolBox_nil {V : World} {r : Nat} {x y z : Int} (h : Box V r 31 [.int .i64 x, .int .i64 y, .int .i64 z, .slice none 0 0]) : PoolBox V r 31 x y z none 0 0 [] := ⟨h, (fun i b hb => by simp at hb), rfl⟩
set_option maxRecDepth 100000 in
set_option maxHeartbeats 16000000 in
theorem awake7_any (w : World) : Calls Try.prog 7 #[] w fun e w' => e = .returned (.bool true) ∧ Junk w w' := by
  go_enter Try.func7, Try.ntmps7
  go_upto_region 2 with (first | (go_at_call 9; (with_reducible refine (awNew _).mono ?_); rintro e w' ⟨rfl, ⟨osj, dj, rfl⟩⟩))
  have BX := box_new (w.junk osj dj) #[.int .i64 100, .int .i64 9, .int .i64 0, .slice none 0 0] 31
  rw [World.size_junk] at BX
  generalize hr1 : w.heap.size + osj.size = r1 at BX ⊢
  refine wp_genX (fun V => Junk w V ∧ Box V r1 31 [.int .i64 100, .int .i64 9, .int .i64 0, .slice none 0 0]) ⟨by (exact jkc), BX⟩ ?_
  clear BX
  rintro V1 ⟨hj1, hb1⟩
  have HJ1 := Lib.hid hj1
  have HB1 := Lib.hid hb1
  have HR1 := Lib.hid (show w.heap.size ≤ r1 from by omega)
  have q0 : V1.cell? ⟨r1, 0, none⟩ = some (.int .i64 100) := hb1.cell rfl
  have q1 : V1.cell? ⟨r1, 1, none⟩ = some (.int .i64 9) := hb1.cell rfl
  have q2 : V1.cell? ⟨r1, 2, none⟩ = some (.int .i64 0) := hb1.cell rfl
  have q3 : V1.cell? ⟨r1, 3, none⟩ = some (.slice none 0 0) := hb1.cell rfl
  have s1 := hb1.lt
  clear hj1 hb1 hr1 osj dj
  go_upto_region 3 with (first
    | (go_at_call 10; (with_reducible refine (awTk1 _ _ ?_).mono ?_); (exact bts_box (box_new V1 #[.int .u8 9] 5) (fun i hi => by obtain rfl : i = 0 := (by omega); rfl) (fun i _ => by decide) (by decide)); rintro e w2 ⟨hj2, ol, cap, o1, o2, c1, c2, hq2, rfl⟩; have HJ2 := Lib.hid hj2; have HQ2 := Lib.hid hq2; have HB2 := Lib.hid (HB1.out.on ((show Junk V1 _ by (exact jkc)).trans hj2)); have HS2 := Lib.hid (show w.heap.size ≤ w2.heap.size from (HJ1.out.trans ((show Junk V1 _ by (exact jkc)).trans hj2)).size); have HL2 := Lib.hid (HB2.out.lt); clear hj2 hq2)
    | ((with_reducible show wpList _ _ _ _ _ _); refine wpList_storeBox rfl 31 _ _ rfl (HB2.out.on (show Junk w2 _ by (exact jkc))) 0 #[.int .i64 100, .int .i64 9, .int .i64 0, .slice ol 1 cap] (show (Try.prog.info? 31).map (·.size) = some 4 from by kernel_rfl) rfl rfl (by simp) (by simp [Value.oneCell']) ?_; intro w3 hg3 hb3; have HG3 := Lib.hid hg3; have HB3 := Lib.hid (show Box w3 r1 31 [.int .i64 100, .int .i64 9, .int .i64 0, .slice ol 1 cap] from hb3); clear hg3 hb3)
    | ((with_reducible show wpList _ _ _ _ _ _); refine wpList_storeBox rfl 25 _ _ rfl ((box_new w2 _ 25).grown HG3.out (by have := HL2.out; simp; omega)) 0 #[.int .i64 0, .int .i64 0, .bool false, .bool false, .int .i64 0, .int .i64 0, .int .i64 0, .int .u32 0, .int .u32 0, .slice o1 0 c1, .slice o2 0 c2] (show (Try.prog.info? 25).map (·.size) = some 11 from by kernel_rfl) rfl rfl (by simp) (by simp [Value.oneCell']) ?_; intro w4 hg4 hb4; have HG4 := Lib.hid hg4; clear hg4 hb4))
  have HGT := Lib.hid (show w2.grownBy w4 (some r1) from grown_past (grown_tr (grown_junk (show Junk w2 _ from (Junk.refl w2).alloc _) _) HG3.out) HG4.out (Nat.le_refl _))
  have HQ4 := Lib.hid ((poolBox_nil HB2.out).qs HQ2.out awQ_runs HGT.out)
  have HB4 := Lib.hid (HB3.out.grown HG4.out (by have := HL2.out; simp; omega))
  have HJ4 := Lib.hid (below_of_grown ((HJ1.out.trans (show Junk V1 _ by (exact jkc))).trans HJ2.out) HGT.out (fun k hk => by cases hk; exact HR1.out))
  have HR4 := Lib.hid (HB4.out.lt)
  clear HJ1 HB1 HJ2 HQ2 HB2 HS2 HL2 HG3 HB3 HG4 HGT q0 q1 q2 q3 s1
  have q0 : w4.cell? ⟨r1, 0, none⟩ = some (.int .i64 100) := HB4.out.cell rfl
  have q1 : w4.cell? ⟨r1, 1, none⟩ = some (.int .i64 9) := HB4.out.cell rfl
  have q2 : w4.cell? ⟨r1, 2, none⟩ = some (.int .i64 0) := HB4.out.cell rfl
  have q3 : w4.cell? ⟨r1, 3, none⟩ = some (.slice ol 1 cap) := HB4.out.cell rfl
  have s1 := HB4.out.lt
  have hmk : ∀ w1 : World, (Instr.makeSlice 23 (.int .i64 8) (.int .i64 8)).run Try.prog w1 = .ok (.slice (some ⟨w1.heap.size, 0, none⟩) 8 8) (w1.alloc (.cells (rowArr 8 (fun _ => 0)) 5)) := fun w1 => make_bytes w1 8 (by decide)
  refine wp_region_mixa (w4) [(9, 31, [.int .i64 0, .int .i64 0, .int .i64 0, .slice none 0 0]), (10, 25, [.int .i64 0, .int .i64 0, .bool false, .bool false, .int .i64 0, .int .i64 0, .int .i64 0, .int .u32 0, .int .u32 0, .slice none 0 0, .slice none 0 0])] [11, 12, 13, 14] [6, 7, 8] #[true, true, true, true, true, true, true, true, true, true, true, false, false, false, false] [(0, true), (1, false), (2, true), (3, false), (4, true), (5, true), (6, true), (7, true), (8, true)] [(11, false), (12, false), (13, false), (14, false)] (by kernel_rfl) (by kernel_rfl) (by (exact jkc)) (by intro e he a w hj; rcases (show e = 9 ∨ e = 10 by simpa using he) with rfl | rfl <;> exact newVar_wpE rfl rfl rfl rfl (fun w => by first | rfl | kernel_rfl | simp [Instr.alloc]) a w hj) ?_; (iterate 1 (refine wpMixB_q rfl (fun K hK => ?_); (go_simp; try go_bits); (refine hK _ ?_; clear hK K))); refine wpMixB_e rfl (fun osm3_0 dm3_0 K hK => ?_); (go_simp; try go_bits); refine hK _ _ (by first | exact jkc | assumption) ?_; clear hK K; (iterate 1 (refine wpMixB_q rfl (fun K hK => ?_); (go_simp; try go_bits); (refine hK _ ?_; clear hK K))); refine wpMixB_e rfl (fun osm3_1 dm3_1 K hK => ?_); (go_simp; try go_bits); (go_at_call 10; (with_reducible refine (awTk2 _ _ _ (HQ4.out.on (by (exact jkc))) _ ?_).mono ?_); (have hbx := box_new (w4.junk osm3_0 dm3_0) (rowArr 8 (fun _ => 0)) 5; rw [World.size_junk] at hbx; exact bts_box (hbx.on (by (exact jkc))) (fun i hi => by rw [Array.getElem?_toList]; exact rowArr_get 8 i _ hi) (fun i _ => by decide) (by decide)); rintro e w5 ⟨⟨os5, d5, rfl⟩, oz, cz, o3, o4, c3, c4, hB5, rfl⟩; have HB5 := Lib.hid hB5; clear hB5); refine hK _ _ (by first | exact jkc | assumption) ?_; clear hK K; (iterate 5 (refine wpMixB_q rfl (fun K hK => ?_); (go_simp; try go_bits); (refine hK _ ?_; clear hK K))); refine wpMixB_nil (fun osm3_2 dm3_2 => ?_); rintro _ ⟨r3_1, rfl, hr3_1, hv3_1⟩; rintro _ ⟨r3_0, rfl, hr3_0, hv3_0⟩; change wpMix _ _ _ _ _ (Act.put (Act.put _ (some 7) _) (some 6) _) _; have HV3_0 := Lib.hid (show (w4).heap.size ≤ r3_0 ∧ Box _ r3_0 31 [.int .i64 0, .int .i64 0, .int .i64 0, .slice none 0 0] from And.intro hr3_0 hv3_0); have HV3_1 := Lib.hid (show (w4).heap.size ≤ r3_1 ∧ Box _ r3_1 25 [.int .i64 0, .int .i64 0, .bool false, .bool false, .int .i64 0, .int .i64 0, .int .i64 0, .int .u32 0, .int .u32 0, .slice none 0 0, .slice none 0 0] from And.intro hr3_1 hv3_1); clear hr3_0 hv3_0; clear hr3_1 hv3_1; refine wpMix_e1 rfl rfl (fun osm3_3 dm3_3 K hK => ?_); (refine storeBox_wp 31 _ _ rfl (HV3_0.out.2.on ⟨osm3_3, dm3_3, rfl⟩) 0 #[.int .i64 100, .int .i64 9, .int .i64 0, .slice oz 0 cz] (show (Try.prog.info? 31).map (·.size) = some 4 from by kernel_rfl) rfl rfl (by simp) (by simp [Value.oneCell']) ?_; intro w6 hg6 hb6; have HJ6 := Lib.hid (below_of_grown (show Junk w4 _ by (exact jkc)) hg6 (fun k hk => by cases hk; exact HV3_0.out.1)); have HX6 := Lib.hid ((HV3_1.out.2.on ⟨osm3_3, dm3_3, rfl⟩).grown hg6 (box_ne (HV3_1.out.2) (HV3_0.out.2) (by decide))); have HB6 := Lib.hid ((HB5.out.on (show Junk _ _ by (exact jkc))).grown hg6 (bts_off (box_noByte (HV3_0.out.2.on ⟨osm3_3, dm3_3, rfl⟩) rfl) (HB5.out.on (show Junk _ _ by (exact jkc))))); clear hg6 hb6); refine hK _ _ trivial ?_; clear hK K; refine wpMix_e1 rfl rfl (fun osm3_4 dm3_4 K hK => ?_); (refine storeBox_wp 25 _ _ rfl (HX6.out.on ⟨osm3_4, dm3_4, rfl⟩) 0 #[.int .i64 0, .int .i64 0, .bool false, .bool false, .int .i64 0, .int .i64 6, .int .i64 17, .int .u32 0, .int .u32 0, .slice o3 0 c3, .slice o4 9 c4] (show (Try.prog.info? 25).map (·.size) = some 11 from by kernel_rfl) rfl rfl (by simp) (by simp [Value.oneCell']) ?_; intro w7 hg7 hb7; have HJ7 := Lib.hid (below_of_grown (HJ6.out.trans ⟨osm3_4, dm3_4, rfl⟩) hg7 (fun k hk => by cases hk; exact HV3_1.out.1)); have HX7 := Lib.hid (show Box w7 r3_1 25 [.int .i64 0, .int .i64 0, .bool false, .bool false, .int .i64 0, .int .i64 6, .int .i64 17, .int .u32 0, .int .u32 0, .slice o3 0 c3, .slice o4 9 c4] from hb7); have HB7 := Lib.hid ((HB6.out.on ⟨osm3_4, dm3_4, rfl⟩).grown hg7 (bts_off (box_noByte (HX6.out.on ⟨osm3_4, dm3_4, rfl⟩) rfl) (HB6.out.on ⟨osm3_4, dm3_4, rfl⟩))); clear hg7 hb7); refine hK _ _ trivial ?_; clear hK K; refine wpMix_e rfl (fun osm3_5 dm3_5 K hK => ?_); (go_simp; try go_bits); refine hK _ _ trivial ?_; clear hK K; refine wpMix_e rfl (fun osm3_6 dm3_6 K hK => ?_); (go_simp; try go_bits); refine hK _ _ trivial ?_; clear hK K; refine wpMix_nil (fun osm dm => ?_)
  have HB8 := Lib.hid (HB4.out.on HJ7.out)
  clear HB4 HV3_0 HV3_1 HB5 HB6 HX6 HJ6 hmk q0 q1 q2 q3 s1 HR4
  obtain ⟨gb, off, ho4, hlt, hc8⟩ := HB7.out.at_ 8 (by omega)
  subst ho4
  have hc9 : w7.cell? ⟨gb, off + 8, none⟩ = some (.int .u8 9) := by rw [hc8, awY_8]
  have x5 : w7.cell? ⟨r3_1, 5, none⟩ = some (.int .i64 6) := HX7.out.cell rfl
  have x10 : w7.cell? ⟨r3_1, 10, none⟩ = some (.slice (some ⟨gb, off, none⟩) 9 c4) := HX7.out.cell rfl
  have sx := HX7.out.lt
  have q0 : w7.cell? ⟨r1, 0, none⟩ = some (.int .i64 100) := HB8.out.cell rfl
  have q1 : w7.cell? ⟨r1, 1, none⟩ = some (.int .i64 9) := HB8.out.cell rfl
  have q2 : w7.cell? ⟨r1, 2, none⟩ = some (.int .i64 0) := HB8.out.cell rfl
  have q3 : w7.cell? ⟨r1, 3, none⟩ = some (.slice ol 1 cap) := HB8.out.cell rfl
  have s1 := HB8.out.lt
  clear hc8
  go_wp2_with (first | (go_at_call 14; (with_reducible refine (awHe _ _ _ (HQ4.out.on (HJ7.out.trans (by (exact jkc))))).mono ?_); rintro e w' ⟨rfl, ⟨osj, dj, rfl⟩⟩))
  go_ret
  exact ⟨rfl, (HJ4.out.trans HJ7.out).trans (by (exact jkc))⟩
end Go.Proofs.Ytgjppmkadmfibaa
set_option linter.unusedVariables false
set_option maxRecDepth 100000
set_option linter.unusedSimpArgs false
namespace Go.Proofs.Ytgjppmkadmfibaa
open Go.RowKit
structure IpWf (p : Ip) : Prop where
  tos : -9223372036854775808 ≤ p.tos ∧ p.tos ≤ 9223372036854775807
  id : -9223372036854775808 ≤ p.id ∧ p.id ≤ 9223372036854775807
  off : -9223372036854775808 ≤ p.off ∧ p.off ≤ 9223372036854775807
  ttl : -9223372036854775808 ≤ p.ttl ∧ p.ttl ≤ 9223372036854775807
  proto : -9223372036854775808 ≤ p.proto ∧ p.proto ≤ 9223372036854775807
def ipCells (p : Ip) (oo : Option Addr) (oc : Nat) (ob : Option Addr) (bc : Nat) : List Value := [.int .i64 p.tos, .int .i64 p.id, .bool p.df, .bool p.mf, .int .i64 p.off, .int .i64 p.ttl, .int .i64 p.proto, .int .u32 p.src, .int .u32 p.dst, .slice oo p.ol oc, .slice ob p.bl bc]
theorem ip_of {W : World} {cs : List Value} (h : Cells Try.prog W 25 cs) : ∃ (p : Ip) (oo : Option Addr) (oc : Nat) (ob : Option Addr) (bc : Nat), cs = ipCells p oo oc ob bc ∧ IpAt W p oo oc ob bc ∧ IpWf p := by
  obtain ⟨hl_p, hf_p⟩ := h.fields1 Try.underlying25 (by kernel_rfl) (n := 11) (by kernel_rfl)
  obtain ⟨p_TOS, lp0, e_p0⟩ : ∃ x l, cs = x :: l := by cases cs with | nil => simp at hl_p | cons x l => exact ⟨x, l, rfl⟩
  subst e_p0
  obtain ⟨p_ID, lp1, e_p1⟩ : ∃ x l, lp0 = x :: l := by cases lp0 with | nil => simp at hl_p | cons x l => exact ⟨x, l, rfl⟩
  subst e_p1
  obtain ⟨p_DF, lp2, e_p2⟩ : ∃ x l, lp1 = x :: l := by cases lp1 with | nil => simp at hl_p | cons x l => exact ⟨x, l, rfl⟩
  subst e_p2
  obtain ⟨p_MF, lp3, e_p3⟩ : ∃ x l, lp2 = x :: l := by cases lp2 with | nil => simp at hl_p | cons x l => exact ⟨x, l, rfl⟩
  subst e_p3
  obtain ⟨p_Off, lp4, e_p4⟩ : ∃ x l, lp3 = x :: l := by cases lp3 with | nil => simp at hl_p | cons x l => exact ⟨x, l, rfl⟩
  subst e_p4
  obtain ⟨p_TTL, lp5, e_p5⟩ : ∃ x l, lp4 = x :: l := by cases lp4 with | nil => simp at hl_p | cons x l => exact ⟨x, l, rfl⟩
  subst e_p5
  obtain ⟨p_Proto, lp6, e_p6⟩ : ∃ x l, lp5 = x :: l := by cases lp5 with | nil => simp at hl_p | cons x l => exact ⟨x, l, rfl⟩
  subst e_p6
  obtain ⟨p_Src, lp7, e_p7⟩ : ∃ x l, lp6 = x :: l := by cases lp6 with | nil => simp at hl_p | cons x l => exact ⟨x, l, rfl⟩
  subst e_p7
  obtain ⟨p_Dst, lp8, e_p8⟩ : ∃ x l, lp7 = x :: l := by cases lp7 with | nil => simp at hl_p | cons x l => exact ⟨x, l, rfl⟩
  subst e_p8
  obtain ⟨p_Opts, lp9, e_p9⟩ : ∃ x l, lp8 = x :: l := by cases lp8 with | nil => simp at hl_p | cons x l => exact ⟨x, l, rfl⟩
  subst e_p9
  obtain ⟨p_Body, lp10, e_p10⟩ : ∃ x l, lp9 = x :: l := by cases lp9 with | nil => simp at hl_p | cons x l => exact ⟨x, l, rfl⟩
  subst e_p10
  obtain rfl : lp10 = [] := by simpa using hl_p
  have f_p0 : Cells Try.prog W 3 [p_TOS] := hf_p 0 _ rfl
  have f_p1 : Cells Try.prog W 3 [p_ID] := hf_p 1 _ rfl
  have f_p2 : Cells Try.prog W 4 [p_DF] := hf_p 2 _ rfl
  have f_p3 : Cells Try.prog W 4 [p_MF] := hf_p 3 _ rfl
  have f_p4 : Cells Try.prog W 3 [p_Off] := hf_p 4 _ rfl
  have f_p5 : Cells Try.prog W 3 [p_TTL] := hf_p 5 _ rfl
  have f_p6 : Cells Try.prog W 3 [p_Proto] := hf_p 6 _ rfl
  have f_p7 : Cells Try.prog W 22 [p_Src] := hf_p 7 _ rfl
  have f_p8 : Cells Try.prog W 22 [p_Dst] := hf_p 8 _ rfl
  have f_p9 : Cells Try.prog W 23 [p_Opts] := hf_p 9 _ rfl
  have f_p10 : Cells Try.prog W 23 [p_Body] := hf_p 10 _ rfl
  clear hf_p hl_p
  obtain ⟨p_TOS, e_p_TOS, w_p_TOS⟩ := f_p0.int Try.underlying3; cases e_p_TOS
  obtain ⟨p_ID, e_p_ID, w_p_ID⟩ := f_p1.int Try.underlying3; cases e_p_ID
  obtain ⟨p_DF, e_p_DF⟩ := f_p2.bool Try.underlying4; cases e_p_DF
  obtain ⟨p_MF, e_p_MF⟩ := f_p3.bool Try.underlying4; cases e_p_MF
  obtain ⟨p_Off, e_p_Off, w_p_Off⟩ := f_p4.int Try.underlying3; cases e_p_Off
  obtain ⟨p_TTL, e_p_TTL, w_p_TTL⟩ := f_p5.int Try.underlying3; cases e_p_TTL
  obtain ⟨p_Proto, e_p_Proto, w_p_Proto⟩ := f_p6.int Try.underlying3; cases e_p_Proto
  obtain ⟨p_Src, e_p_Src, w_p_Src⟩ := f_p7.int Try.underlying22; cases e_p_Src
  obtain ⟨p_Dst, e_p_Dst, w_p_Dst⟩ := f_p8.int Try.underlying22; cases e_p_Dst
  obtain ⟨p_Opts_a, p_Opts_l, p_Opts_c, p_Opts, e_p_Opts, lc_p_Opts, cm_p_Opts, S_p_Opts, w_p_Opts⟩ := f_p9.ints Try.underlying23 Try.underlying5 (by kernel_rfl); cases e_p_Opts
  obtain ⟨p_Body_a, p_Body_l, p_Body_c, p_Body, e_p_Body, lc_p_Body, cm_p_Body, S_p_Body, w_p_Body⟩ := f_p10.ints Try.underlying23 Try.underlying5 (by kernel_rfl); cases e_p_Body
  exact ⟨⟨p_TOS, p_ID, p_DF, p_MF, p_Off, p_TTL, p_Proto, p_Src, p_Dst, p_Opts_l, p_Opts, p_Body_l, p_Body⟩, p_Opts_a, p_Opts_c, p_Body_a, p_Body_c, rfl,
    ⟨⟨S_p_Opts, fun i hi => bounds_u8 (w_p_Opts i hi), Cells.nil_slice Try.underlying23 f_p9, lc_p_Opts, cm_p_Opts⟩, ⟨S_p_Body, fun i hi => bounds_u8 (w_p_Body i hi), Cells.nil_slice Try.underlying23 f_p10, lc_p_Body, cm_p_Body⟩, bounds_u32 w_p_Src, bounds_u32 w_p_Dst⟩,
    ⟨bounds_i64 w_p_TOS, bounds_i64 w_p_ID, bounds_i64 w_p_Off, bounds_i64 w_p_TTL, bounds_i64 w_p_Proto⟩⟩
/-- A list of something out of rows. -/
theorem list_of {α : Type} {len : Nat} {rows : Nat → List Value} {G : α → List Value → Prop} (h : ∀ i, i < len → ∃ x, G x (rows i)) : ∃ L : List α, L.length = len ∧ ∀ (i : Nat) (x : α), L[i]? = some x → i < len ∧ G x (rows i) := by
  induction len with
  | zero => exact ⟨[], rfl, fun i x hi => by simp at hi⟩
  | succ n ih =>
    obtain ⟨L, hl, hL⟩ := ih fun i hi => h i (by omega)
    obtain ⟨x, hx⟩ := h n (by omega)
    refine ⟨L ++ [x], by simp [hl], fun i y hi => ?_⟩
    rw [List.getElem?_append] at hi
    split at hi
    · exact ⟨by omega, (hL i y hi).2⟩
    · rename_i hge
      have h1 : i = n := by
        have := (List.getElem?_eq_some_iff.1 hi).1
        simp at this; omega
      subst h1
      rw [show i - L.length = 0 by omega] at hi
      have : x = y := by simpa using hi
      subst this
      exact ⟨by omega, hx⟩
theorem run_of {W : World} {cs : List Value} (h : Cells Try.prog W 72 cs) : ∃ x : Ot, cs = x.cells ∧ Bts W x.oa x.l x.c x.xs ∧ -9223372036854775808 ≤ x.k ∧ x.k ≤ 9223372036854775807 := by
  obtain ⟨hl_x, hf_x⟩ := h.fields1 Try.underlying72 (by kernel_rfl) (n := 2) (by kernel_rfl)
  obtain ⟨x_Off, lx0, e_x0⟩ : ∃ x l, cs = x :: l := by cases cs with | nil => simp at hl_x | cons x l => exact ⟨x, l, rfl⟩
  subst e_x0
  obtain ⟨x_Data, lx1, e_x1⟩ : ∃ x l, lx0 = x :: l := by cases lx0 with | nil => simp at hl_x | cons x l => exact ⟨x, l, rfl⟩
  subst e_x1
  obtain rfl : lx1 = [] := by simpa using hl_x
  have f_x0 : Cells Try.prog W 3 [x_Off] := hf_x 0 _ rfl
  have f_x1 : Cells Try.prog W 23 [x_Data] := hf_x 1 _ rfl
  clear hf_x hl_x
  obtain ⟨x_Off, e_x_Off, w_x_Off⟩ := f_x0.int Try.underlying3; cases e_x_Off
  obtain ⟨x_Data_a, x_Data_l, x_Data_c, x_Data, e_x_Data, lc_x_Data, cm_x_Data, S_x_Data, w_x_Data⟩ := f_x1.ints Try.underlying23 Try.underlying5 (by kernel_rfl); cases e_x_Data
  exact ⟨⟨x_Off, x_Data_a, x_Data_l, x_Data_c, x_Data⟩, rfl, ⟨S_x_Data, fun i hi => bounds_u8 (w_x_Data i hi), Cells.nil_slice Try.underlying23 f_x1, lc_x_Data, cm_x_Data⟩, bounds_i64 w_x_Off⟩
theorem runs_of {W : World} {oa : Option Addr} {len : Nat} {rows : Nat → List Value} (hS : SlAt W oa len (Try.prog.cellsOf 72) rows) (hr : ∀ i, i < len → (rows i).length = Try.prog.cellsOf 72 ∧ Cells Try.prog W 72 (rows i)) :
    ∃ F : List Ot, F.length = len ∧ OsAt W oa F ∧ ∀ f ∈ F, -9223372036854775808 ≤ f.k ∧ f.k ≤ 9223372036854775807 := by
  rw [show Try.prog.cellsOf 72 = 2 by kernel_rfl] at hS
  obtain ⟨F, hl, hF⟩ := list_of (G := fun (x : Ot) cs => cs = x.cells ∧ Bts W x.oa x.l x.c x.xs ∧ -9223372036854775808 ≤ x.k ∧ x.k ≤ 9223372036854775807) (fun i hi => run_of (hr i hi).2)
  refine ⟨F, hl, fun i f hi => ?_, fun f hf => ?_⟩
  · obtain ⟨hil, h1, h2, _⟩ := hF i f hi
    obtain ⟨b, off, he, hlt, hc⟩ := hS i hil
    rw [h1] at hc
    exact ⟨b, off, he, hlt, hc 0 _ rfl, hc 1 _ rfl, h2⟩
  · obtain ⟨i, hi⟩ := List.getElem?_of_mem hf
    exact (hF i f hi).2.2.2
theorem bf_of {W : World} {cs : List Value} (h : Cells Try.prog W 45 cs) : ∃ b : Bf, cs = b.cells ∧ BfIn W b ∧ BfWf b := by
  obtain ⟨hl, hf⟩ := h.struct Try.underlying45
  have k19 : Try.prog.cellsOf 45 = 19 := by kernel_rfl
  have k1 : Try.prog.cellsOf 22 = 1 := by kernel_rfl
  have k2 : Try.prog.cellsOf 3 = 1 := by kernel_rfl
  have k3 : Try.prog.cellsOf 4 = 1 := by kernel_rfl
  have k4 : Try.prog.cellsOf 25 = 11 := by kernel_rfl
  have k5 : Try.prog.cellsOf 43 = 1 := by kernel_rfl
  rw [k19] at hl
  obtain ⟨c0, r0, rfl⟩ : ∃ x l, cs = x :: l := by cases cs with | nil => simp at hl | cons x l => exact ⟨x, l, rfl⟩
  obtain ⟨c1, r1, rfl⟩ : ∃ x l, r0 = x :: l := by cases r0 with | nil => simp at hl | cons x l => exact ⟨x, l, rfl⟩
  obtain ⟨c2, r2, rfl⟩ : ∃ x l, r1 = x :: l := by cases r1 with | nil => simp at hl | cons x l => exact ⟨x, l, rfl⟩
  obtain ⟨c3, r3, rfl⟩ : ∃ x l, r2 = x :: l := by cases r2 with | nil => simp at hl | cons x l => exact ⟨x, l, rfl⟩
  obtain ⟨c4, r4, rfl⟩ : ∃ x l, r3 = x :: l := by cases r3 with | nil => simp at hl | cons x l => exact ⟨x, l, rfl⟩
  have hl5 : r4.length = 14 := by simp at hl; omega
  have f0 : Cells Try.prog W 22 (((c0 :: c1 :: c2 :: c3 :: c4 :: r4).drop 0).take (Try.prog.cellsOf 22)) := hf 0 _ rfl
  have f1 : Cells Try.prog W 22 (((c0 :: c1 :: c2 :: c3 :: c4 :: r4).drop 1).take (Try.prog.cellsOf 22)) := hf 1 _ rfl
  have f2 : Cells Try.prog W 3 (((c0 :: c1 :: c2 :: c3 :: c4 :: r4).drop 2).take (Try.prog.cellsOf 3)) := hf 2 _ rfl
  have f3 : Cells Try.prog W 3 (((c0 :: c1 :: c2 :: c3 :: c4 :: r4).drop 3).take (Try.prog.cellsOf 3)) := hf 3 _ rfl
  have f4 : Cells Try.prog W 3 (((c0 :: c1 :: c2 :: c3 :: c4 :: r4).drop 4).take (Try.prog.cellsOf 3)) := hf 4 _ rfl
  have f5 : Cells Try.prog W 25 (((c0 :: c1 :: c2 :: c3 :: c4 :: r4).drop 5).take (Try.prog.cellsOf 25)) := hf 5 _ rfl
  have f6 : Cells Try.prog W 4 (((c0 :: c1 :: c2 :: c3 :: c4 :: r4).drop 16).take (Try.prog.cellsOf 4)) := hf 6 _ rfl
  have f7 : Cells Try.prog W 3 (((c0 :: c1 :: c2 :: c3 :: c4 :: r4).drop 17).take (Try.prog.cellsOf 3)) := hf 7 _ rfl
  have f8 : Cells Try.prog W 43 (((c0 :: c1 :: c2 :: c3 :: c4 :: r4).drop 18).take (Try.prog.cellsOf 43)) := hf 8 _ rfl
  clear hf hl
  rw [k1] at f0 f1
  rw [k2] at f2 f3 f4 f7
  rw [k3] at f6
  rw [k4] at f5
  rw [k5] at f8
  simp only [List.drop_succ_cons, List.drop_zero] at f0 f1 f2 f3 f4 f5 f6 f7 f8
  have e4 : r4 = r4.take 11 ++ r4.drop 11 := (List.take_append_drop 11 r4).symm
  generalize r4.take 11 = t at f5 e4
  have hd11 : r4.drop 11 = r4.drop 11 := rfl
  obtain ⟨d0, d1, d2, hd⟩ : ∃ d0 d1 d2, r4.drop 11 = [d0, d1, d2] := by
    have h3 : (r4.drop 11).length = 3 := by rw [List.length_drop, hl5]
    match r4.drop 11, h3 with
    | [a, b, c], _ => exact ⟨a, b, c, rfl⟩
  have g6 : Cells Try.prog W 4 [d0] := by rw [hd] at f6; exact f6
  have g7 : Cells Try.prog W 3 [d1] := by rw [show r4.drop 12 = (r4.drop 11).drop 1 by rw [List.drop_drop], hd] at f7; exact f7
  have g8 : Cells Try.prog W 43 [d2] := by rw [show r4.drop 13 = (r4.drop 11).drop 2 by rw [List.drop_drop], hd] at f8; exact f8
  rw [hd] at e4
  clear f6 f7 f8 hd11 hd
  obtain ⟨x0, e0, w0⟩ := Cells.int Try.underlying22 (cs := [c0]) f0
  obtain ⟨x1, e1, w1⟩ := Cells.int Try.underlying22 (cs := [c1]) f1
  obtain ⟨x2, e2, w2⟩ := Cells.int Try.underlying3 (cs := [c2]) f2
  obtain ⟨x3, e3, w3⟩ := Cells.int Try.underlying3 (cs := [c3]) f3
  obtain ⟨x4, e5, w4⟩ := Cells.int Try.underlying3 (cs := [c4]) f4
  obtain ⟨p, oo, oc, ob, bc, e6, hp, hw⟩ := ip_of f5
  obtain ⟨x6, e7⟩ := Cells.bool Try.underlying4 (cs := [d0]) g6
  obtain ⟨x7, e8, w7⟩ := Cells.int Try.underlying3 (cs := [d1]) g7
  obtain ⟨oa, len, cap, rows, e9, hlc, hcm, hS, hr⟩ := g8.slice Try.underlying43 (Nat.lt_of_lt_of_eq (by decide : 0 < 2) (by kernel_rfl))
  cases e0
  cases e1
  cases e2
  cases e3
  cases e5
  cases e7
  cases e8
  cases e9
  obtain ⟨F, hF, hO, hk⟩ := runs_of hS hr
  refine ⟨⟨x0, x1, x2, x3, x4, p, x6, x7, F, oo, oc, ob, bc, oa, cap⟩, ?_, ⟨hp, hO, fun h => ?_, by rw [hF]; exact hlc, hcm⟩, ⟨bounds_u32 w0, bounds_u32 w1, bounds_i64 w2, bounds_i64 w3, bounds_i64 w4, bounds_i64 w7, hk⟩⟩
  · rw [e4, e6]
    subst hF
    rfl
  · have := Cells.nil_slice Try.underlying43 g8 h
    rw [hF]; exact this
theorem bfs_of {W : World} {oa : Option Addr} {len : Nat} {rows : Nat → List Value} (hS : SlAt W oa len (Try.prog.cellsOf 45) rows) (hr : ∀ i, i < len → (rows i).length = Try.prog.cellsOf 45 ∧ Cells Try.prog W 45 (rows i)) :
    ∃ L : List Bf, L.length = len ∧ PlAt W oa L ∧ ∀ b ∈ L, BfWf b := by
  rw [show Try.prog.cellsOf 45 = 19 by kernel_rfl] at hS
  obtain ⟨L, hl, hL⟩ := list_of (G := fun (x : Bf) cs => cs = x.cells ∧ BfIn W x ∧ BfWf x) (fun i hi => bf_of (hr i hi).2)
  refine ⟨L, hl, fun i b hi => ?_, fun b hb => ?_⟩
  · obtain ⟨hil, h1, h2, _⟩ := hL i b hi
    obtain ⟨g, off, he, hlt, hc⟩ := hS i hil
    rw [h1] at hc
    exact ⟨g, off, he, hlt, hc, h2⟩
  · obtain ⟨i, hi⟩ := List.getElem?_of_mem hb
    exact (hL i b hi).2.2.2
/-- A packet of a list, and where it lies. -/
structure Ipl where
  p : Ip
  oo : Option Addr
  oc : Nat
  ob : Option Addr
  bc : Nat
def Ipl.cells (x : Ipl) : List Value := ipCells x.p x.oo x.oc x.ob x.bc
/-- Packets in memory. -/
def IlAt (w : World) (oa : Option Addr) (L : List Ipl) : Prop := ∀ i x, L[i]? = some x → ∃ g off, oa = some ⟨g, off, none⟩ ∧ g < w.heap.size ∧ (∀ j v, x.cells[j]? = some v → w.cell? ⟨g, off + i * 11 + j, none⟩ = some v) ∧ IpAt w x.p x.oo x.oc x.ob x.bc
theorem IlAt.on {w w' : World} {oa : Option Addr} {L : List Ipl} (h : IlAt w oa L) (hj : Junk w w') : IlAt w' oa L := fun i x hx => by
  obtain ⟨g, off, he, hlt, hc, hin⟩ := h i x hx
  have hbl := hj.below (Nat.le_refl _)
  exact ⟨g, off, he, Nat.lt_of_lt_of_le hlt hbl.size, fun j v hv => (hbl.cell (p := ⟨g, _, none⟩) hlt).trans (hc j v hv), hin.on hj⟩
theorem ips_of {W : World} {oa : Option Addr} {len : Nat} {rows : Nat → List Value} (hS : SlAt W oa len (Try.prog.cellsOf 25) rows) (hr : ∀ i, i < len → (rows i).length = Try.prog.cellsOf 25 ∧ Cells Try.prog W 25 (rows i)) :
    ∃ L : List Ipl, L.length = len ∧ IlAt W oa L ∧ ∀ x ∈ L, IpWf x.p := by
  rw [show Try.prog.cellsOf 25 = 11 by kernel_rfl] at hS
  obtain ⟨L, hl, hL⟩ := list_of (G := fun (x : Ipl) cs => cs = x.cells ∧ IpAt W x.p x.oo x.oc x.ob x.bc ∧ IpWf x.p) (fun i hi => by
    obtain ⟨p, oo, oc, ob, bc, h1, h2, h3⟩ := ip_of (hr i hi).2
    exact ⟨⟨p, oo, oc, ob, bc⟩, h1, h2, h3⟩)
  refine ⟨L, hl, fun i x hi => ?_, fun x hx => ?_⟩
  · obtain ⟨hil, h1, h2, _⟩ := hL i x hi
    obtain ⟨g, off, he, hlt, hc⟩ := hS i hil
    rw [h1] at hc
    exact ⟨g, off, he, hlt, hc, h2⟩
  · obtain ⟨i, hi⟩ := List.getElem?_of_mem hx
    exact (hL i x hi).2.2.2
end Go.Proofs.Ytgjppmkadmfibaa
