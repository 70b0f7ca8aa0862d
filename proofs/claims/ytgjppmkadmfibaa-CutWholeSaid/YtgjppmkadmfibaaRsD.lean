/- mine and head of reasm; slices.IndexFunc over buffers. -/
import Derived.Test.YtgjppmkadmfibaaRsC
set_option linter.unusedVariables false
set_option maxRecDepth 100000
set_option linter.unusedSimpArgs false
namespace Go.Proofs.Ytgjppmkadmfibaa
open Go.RowKit
def mineB (b : Bq) (s d i p : Int) : Bool := (b.src == s) && (b.dst == d) && (b.id == i) && (b.proto == p)
set_option maxHeartbeats 8000000 in
theorem mine_any (b : Bf) (n : Nat) (s d i p : Int) (w : World) : Calls Try.prog 28 #[.agg #[.int .u32 b.src, .int .u32 b.dst, .int .i64 b.id, .int .i64 b.proto, .int .i64 b.born, .int .i64 b.head.tos, .int .i64 b.head.id, .bool b.head.df, .bool b.head.mf, .int .i64 b.head.off, .int .i64 b.head.ttl, .int .i64 b.head.proto, .int .u32 b.head.src, .int .u32 b.head.dst, .slice b.ho b.head.ol b.hoc, .slice b.hb b.head.bl b.hbc, .bool b.first, .int .i64 b.total, .slice b.ro n b.rc], .int .u32 s, .int .u32 d, .int .i64 i, .int .i64 p] w fun e w' => e = .returned (.bool (mineB b.q s d i p)) ∧ Junk w w' := by
  obtain ⟨R, hR⟩ : ∃ R, mineB b.q s d i p = R := ⟨_, rfl⟩
  rw [hR]
  have HR := Lib.hid (show ((b.src == s) && (b.dst == d) && (b.id == i) && (b.proto == p)) = R from hR)
  clear hR
  cases a1 : b.src == s with
  | false =>
    go_enter Try.func28, Try.ntmps28
    go_wp2
    go_ret
    exact ⟨ret_bool (by rw [← HR.out]; simp_all), by (exact jkc)⟩
  | true =>
    cases a2 : b.dst == d with
    | false =>
      go_enter Try.func28, Try.ntmps28
      go_wp2
      go_ret
      exact ⟨ret_bool (by rw [← HR.out]; simp_all), by (exact jkc)⟩
    | true =>
      cases a3 : b.id == i with
      | false =>
        go_enter Try.func28, Try.ntmps28
        go_wp2
        go_ret
        exact ⟨ret_bool (by rw [← HR.out]; simp_all), by (exact jkc)⟩
      | true =>
        cases a4 : b.proto == p with
        | false =>
          go_enter Try.func28, Try.ntmps28
          go_wp2
          go_ret
          exact ⟨ret_bool (by rw [← HR.out]; simp_all), by (exact jkc)⟩
        | true =>
          go_enter Try.func28, Try.ntmps28
          go_wp2
          go_ret
          exact ⟨ret_bool (by rw [← HR.out]; simp_all), by (exact jkc)⟩
theorem bts_overR {w : World} {A A' B B' : Array Value} {tA tB : TypeId} {os os' : Array Obj} {d d' : Nat} {oa : Option Addr} {l c : Nat} {xs : Nat → Int}
    (h : Bts (((w.alloc (.cells A tA)).alloc (.cells B tB)).junk os d) oa l c xs) (hf : Fresh (w.heap.size + 2) oa) (ho : ∃ x, os' = os ++ x) : Bts (((w.alloc (.cells A' tA)).alloc (.cells B' tB)).junk os' d') oa l c xs := by
  obtain ⟨x, rfl⟩ := ho
  refine ⟨fun i hi => ?_, h.byte, h.nil, h.le, h.cap⟩
  obtain ⟨b, off, he, hlt, hc⟩ := h.at_ i hi
  have hb := hf _ he
  simp only at hb
  refine ⟨b, off, he, by simp at hlt ⊢; omega, ?_⟩
  rw [← hc]
  apply World.cell?_of_block
  simp only [World.junk, World.alloc]
  rw [← Array.append_assoc, Array.getElem?_append_left (by simp at hlt ⊢; omega), Array.getElem?_append_right (by simp; omega), Array.getElem?_append_right (by simp; omega)]
  simp
theorem bts_noneR (w : World) (xs : Nat → Int) : Bts w none 0 0 xs := ⟨fun i hi => by omega, fun i hi => by omega, fun _ => ⟨rfl, rfl⟩, Nat.le_refl _, Nat.zero_le _⟩
/-- A packet's head, without a piece's place. -/
def headI (p : Ip) : Ip := ⟨p.tos, p.id, p.df, false, 0, p.ttl, p.proto, p.src, p.dst, p.ol, p.opts, 0, fun _ => 0⟩
set_option maxHeartbeats 8000000 in
theorem rhead_any (p : Ip) (oo ob : Option Addr) (oc bc : Nat) (w : World) (hl : p.ol ≤ 100000000) (hP : IpAt w p oo oc ob bc) :
    Calls Try.prog 56 #[.agg #[.int .i64 p.tos, .int .i64 p.id, .bool p.df, .bool p.mf, .int .i64 p.off, .int .i64 p.ttl, .int .i64 p.proto, .int .u32 p.src, .int .u32 p.dst, .slice oo p.ol oc, .slice ob p.bl bc]] w fun e w' => ∃ (o1 : Option Addr) (c1 : Nat), e = .returned (.agg #[.int .i64 (headI p).tos, .int .i64 (headI p).id, .bool (headI p).df, .bool (headI p).mf, .int .i64 (headI p).off, .int .i64 (headI p).ttl, .int .i64 (headI p).proto, .int .u32 (headI p).src, .int .u32 (headI p).dst, .slice o1 (headI p).ol c1, .slice none (headI p).bl 0]) ∧ Junk w w' ∧ IpAt w' (headI p) o1 c1 none 0 := by
  have HP := Lib.hid hP
  clear hP
  go_enter Try.func56, Try.ntmps56
  go_wp2_with (first
    | (go_at_call 24; refine (clone_any oo p.ol oc p.opts _ hl (HP.out.opts.on (by (exact jkc)))).mono ?_; rintro e w' ⟨o1, c1, rfl, ⟨osj, dj, rfl⟩, hcb, hcn, hcf⟩; have Hcb := Lib.hid hcb; have Hcf := Lib.hid hcf; clear hcb hcn hcf))
  go_returns
  refine ⟨o1, c1, rfl, by (exact jkc), ⟨?_, bts_noneR _ _, HP.out.src, HP.out.dst⟩⟩
  exact bts_overR Hcb.out (by have := Hcf.out; simpa using this) ⟨#[], by simp⟩
theorem findIdxR_at {α : Type} {L : List α} {pr : α → Bool} {k : Nat} {x : α} (h : ∀ j, j < k → ∀ y, L[j]? = some y → pr y = false) (hx : L[k]? = some x) (hp : pr x = true) : L.findIdx? pr = some k := by
  have hk : k < L.length := (List.getElem?_eq_some_iff.1 hx).1
  rw [List.findIdx?_eq_some_iff_getElem]
  refine ⟨hk, ?_, fun j hj => ?_⟩
  · rw [List.getElem?_eq_getElem hk] at hx
    cases hx
    exact hp
  · have := h j hj _ (List.getElem?_eq_getElem (by omega))
    simp [this]
theorem findIdxR_no {α : Type} {L : List α} {pr : α → Bool} (h : ∀ j, j < L.length → ∀ y, L[j]? = some y → pr y = false) : L.findIdx? pr = none := by
  rw [List.findIdx?_eq_none_iff]
  intro x hx
  obtain ⟨j, hj, rfl⟩ := List.getElem_of_mem hx
  exact h j hj _ (List.getElem?_eq_getElem hj)
def idxR : Option Nat → Int
  | some i => (i : Int)
  | none => -1
/-- slices.IndexFunc over buffers, with whatever closure answers 'pr'. -/
def PrIs (f : Nat) (v1 : Array Value) (w : World) (pr : Bq → Bool) : Prop := ∀ w1, Junk w w1 → ∀ b : Bf, ∀ n, b.F.length = n → Calls Try.prog f (#[.agg #[.int .u32 b.src, .int .u32 b.dst, .int .i64 b.id, .int .i64 b.proto, .int .i64 b.born, .int .i64 b.head.tos, .int .i64 b.head.id, .bool b.head.df, .bool b.head.mf, .int .i64 b.head.off, .int .i64 b.head.ttl, .int .i64 b.head.proto, .int .u32 b.head.src, .int .u32 b.head.dst, .slice b.ho b.head.ol b.hoc, .slice b.hb b.head.bl b.hbc, .bool b.first, .int .i64 b.total, .slice b.ro n b.rc]] ++ v1) w1 fun e w' => e = .returned (.bool (pr b.q)) ∧ Junk w1 w'
set_option maxHeartbeats 8000000 in
theorem ridx_any (f : Nat) (v1 : Array Value) (oa : Option Addr) (l c : Nat) (L : List Bf) (pr : Bq → Bool) (w : World) (hl : l ≤ 1000000) (hL : L.length = l) (hS : PlAt w oa L) (hf : PrIs f v1 w pr) (hfn : ∀ args w, (callFunc f args).run Try.prog w = .ok (.enter f args) w) :
    Calls Try.prog 26 #[.slice oa l c, .func (.func f) #[] v1] w fun e w' => e = .returned (.int .i64 (idxR ((L.map Bf.q).findIdx? pr))) ∧ Junk w w' := by
  have HS := Lib.hid hS
  have HF := Lib.hid hf
  clear hS hf
  obtain ⟨T, hT⟩ : ∃ T, T = idxR ((L.map Bf.q).findIdx? pr) := ⟨_, rfl⟩
  rw [← hT]
  have HT := Lib.hid hT
  have HL := Lib.hid hL
  clear hT hL
  go_enter Try.func26, Try.ntmps26
  go_wp2
  go_loopw [8] (fun i wr => ∃ k : Nat, i = .int .i64 (k : Int) ∧ Junk w wr ∧ k ≤ l ∧ Hid (∀ j, j < k → ∀ y, (L.map Bf.q)[j]? = some y → pr y = false)) (fun i _ => l + 1 - (intOf i).toNat)
  case atStart => exact ⟨0, rfl, Junk.refl _, by omega, Lib.hid (fun j hj => by omega)⟩
  case round =>
    obtain ⟨k, rfl, hj, hk, hN⟩ := hrel
    have HJ := Lib.hid hj
    have HNN := Lib.hid hN.out
    clear hj hN
    by_cases hkl : k < l
    · have hk2 : (k : Int) < (l : Int) := by omega
      have pk := wrapk_i64 ((k : Int) + 1) (by omega) (by omega)
      obtain ⟨b, hb⟩ : ∃ b, L[k]? = some b := ⟨_, List.getElem?_eq_getElem (by rw [HL.out]; exact hkl)⟩
      obtain ⟨g, off, hob, hgl, hc, hin⟩ := (HS.out.on HJ.out) k b hb
      have HBQ := Lib.hid (show (L.map Bf.q)[k]? = some b.q by rw [List.getElem?_map, hb]; rfl)
      obtain ⟨n, hn⟩ : ∃ n, b.F.length = n := ⟨_, rfl⟩
      have HC := Lib.hid (show ∀ j v, ([.int .u32 b.src, .int .u32 b.dst, .int .i64 b.id, .int .i64 b.proto, .int .i64 b.born, .int .i64 b.head.tos, .int .i64 b.head.id, .bool b.head.df, .bool b.head.mf, .int .i64 b.head.off, .int .i64 b.head.ttl, .int .i64 b.head.proto, .int .u32 b.head.src, .int .u32 b.head.dst, .slice b.ho b.head.ol b.hoc, .slice b.hb b.head.bl b.hbc, .bool b.first, .int .i64 b.total, .slice b.ro n b.rc])[j]? = some v → wr.cell? ⟨g, off + k * 19 + j, none⟩ = some v from by rw [← hn]; exact hc)
      have HFB := Lib.hid (fun w1 (hj : Junk w w1) => HF.out w1 hj b n hn)
      subst hob
      clear hc hin hb hn
      cases hp : pr b.q with
      | true =>
        rw [hp] at HFB
        have HI := Lib.hid (show T = (k : Int) by rw [HT.out, findIdxR_at HNN.out HBQ.out hp]; rfl)
        go_wp2_with (first | ((with_reducible show wpList _ _ _ _ _ _); refine wpList_loadAgg rfl 45 _ rfl Try.isAgg45 g (off + k * 19) [.int .u32 b.src, .int .u32 b.dst, .int .i64 b.id, .int .i64 b.proto, .int .i64 b.born, .int .i64 b.head.tos, .int .i64 b.head.id, .bool b.head.df, .bool b.head.mf, .int .i64 b.head.off, .int .i64 b.head.ttl, .int .i64 b.head.proto, .int .u32 b.head.src, .int .u32 b.head.dst, .slice b.ho b.head.ol b.hoc, .slice b.hb b.head.bl b.hbc, .bool b.first, .int .i64 b.total, .slice b.ro n b.rc] Try.sizeOf45 rfl HC.out ?_) | ((with_reducible refine (HFB.out _ HJ.out).mono ?_); rintro e w' ⟨rfl, ⟨osj, dj, rfl⟩⟩))
        go_ret
        exact ⟨by rw [HI.out]; rfl, HJ.out.trans (by (exact jkc))⟩
      | false =>
        rw [hp] at HFB
        go_wp2_with (first | ((with_reducible show wpList _ _ _ _ _ _); refine wpList_loadAgg rfl 45 _ rfl Try.isAgg45 g (off + k * 19) [.int .u32 b.src, .int .u32 b.dst, .int .i64 b.id, .int .i64 b.proto, .int .i64 b.born, .int .i64 b.head.tos, .int .i64 b.head.id, .bool b.head.df, .bool b.head.mf, .int .i64 b.head.off, .int .i64 b.head.ttl, .int .i64 b.head.proto, .int .u32 b.head.src, .int .u32 b.head.dst, .slice b.ho b.head.ol b.hoc, .slice b.hb b.head.bl b.hbc, .bool b.first, .int .i64 b.total, .slice b.ro n b.rc] Try.sizeOf45 rfl HC.out ?_) | ((with_reducible refine (HFB.out _ HJ.out).mono ?_); rintro e w' ⟨rfl, ⟨osj, dj, rfl⟩⟩))
        exact ⟨⟨k + 1, by go_num, HJ.out.trans (by (exact jkc)), by omega, Lib.hid (fun j hj y hy => by
          by_cases hjk : j = k
          · subst hjk; rw [HBQ.out] at hy; cases hy; exact hp
          · exact HNN.out j (by omega) y hy)⟩, by simp [intOf]; omega⟩
    · have hk2 : ¬ (k : Int) < (l : Int) := by omega
      have HI := Lib.hid (show T = -1 by rw [HT.out, findIdxR_no (fun j hj => HNN.out j (by rw [List.length_map, HL.out] at hj; omega))]; rfl)
      go_wp2
      go_ret
      exact ⟨by rw [HI.out]; rfl, HJ.out.trans (by (exact jkc))⟩
theorem idxR_any (L : List Bq) (pr : Bq → Bool) : decide (0 ≤ idxR (L.findIdx? pr)) = L.any pr := by
  cases h : L.findIdx? pr with
  | none =>
    rw [List.findIdx?_eq_none_iff] at h
    rw [show L.any pr = false by rw [List.any_eq_false]; intro x hx; rw [h x hx]; decide]
    decide
  | some i =>
    have := List.findIdx?_eq_some_iff_getElem.1 h
    obtain ⟨hi, hp, _⟩ := this
    rw [show L.any pr = true by rw [List.any_eq_true]; exact ⟨_, List.getElem_mem hi, hp⟩]
    simp [idxR]
theorem rcont_any (f : Nat) (v1 : Array Value) (oa : Option Addr) (l c : Nat) (L : List Bf) (pr : Bq → Bool) (w : World) (hl : l ≤ 1000000) (hL : L.length = l) (hS : PlAt w oa L) (hf : PrIs f v1 w pr) (hfn : ∀ args w, (callFunc f args).run Try.prog w = .ok (.enter f args) w) :
    Calls Try.prog 38 #[.slice oa l c, .func (.func f) #[] v1] w fun e w' => e = .returned (.bool ((L.map Bf.q).any pr)) ∧ Junk w w' := by
  have HX := Lib.hid (ridx_any f v1 oa l c L pr w hl hL hS hf hfn)
  have HE := Lib.hid (idxR_any (L.map Bf.q) pr)
  generalize idxR ((L.map Bf.q).findIdx? pr) = T at HX HE
  rw [← HE.out]
  clear hS hf hL
  go_enter Try.func38, Try.ntmps38
  go_wp2_with (first | (go_at_call 26; (with_reducible refine (HX.out).mono ?_); rintro e w' ⟨rfl, ⟨osj, dj, rfl⟩⟩))
  go_ret
  exact ⟨rfl, by (exact jkc)⟩
end Go.Proofs.Ytgjppmkadmfibaa
