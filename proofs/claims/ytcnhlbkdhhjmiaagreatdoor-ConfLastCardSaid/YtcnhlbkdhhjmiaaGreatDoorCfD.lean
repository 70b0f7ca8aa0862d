/- The reader: an address. -/
import Derived.Test.YtcnhlbkdhhjmiaaGreatDoorCfC
set_option linter.unusedVariables false
set_option maxRecDepth 100000
set_option linter.unusedSimpArgs false
namespace Go.Proofs.YtcnhlbkdhhjmiaaGreatDoor
open Go.RowKit
variable {L L' : Nat → Prop} {w w' w'' : World}
/-- The texts of parts in a block. -/
def PartsAt (w : World) (g : Nat) (PA : List ByteArray) : Prop := ∀ i x, PA[i]? = some x → w.cell? ⟨g, i, none⟩ = some (.string x)
theorem parts_alloc (w : World) (PA : List ByteArray) (t : TypeId) : PartsAt (w.alloc (.cells (PA.map Value.string).toArray t)) w.heap.size PA := fun i x hi => by
  rw [World.cell?_alloc_new, List.getElem?_toArray, List.getElem?_map, hi]
  rfl
theorem PartsAt.tch {g : Nat} {PA : List ByteArray} (h : PartsAt w g PA) (t : Tch L w w') (hg : ¬ L g) : PartsAt w' g PA := fun i x hi => t.cell (h i x hi) hg
theorem splitB_sizes (sep : ByteArray) : ∀ (k : Nat) (s : ByteArray), ∀ x ∈ Lib.splitB sep 0 k s, x.size ≤ s.size
  | 0, s, x, hx => by
    rw [Lib.splitB_zero, List.mem_singleton] at hx
    rw [hx]; exact Nat.le_refl _
  | k + 1, s, x, hx => by
    unfold Lib.splitB at hx
    split at hx
    · rw [List.mem_singleton] at hx
      rw [hx]; exact Nat.le_refl _
    · rcases List.mem_cons.1 hx with rfl | hx
      · rw [ByteArray.size_extract]; omega
      · have := splitB_sizes sep k _ x hx
        rw [ByteArray.size_extract] at this
        omega
theorem st_succ {P : List W8} {i : Nat} {p : W8} (h : P[i]? = some p) : (P.take (i + 1)).foldl stepA (some 0) = stepA ((P.take i).foldl stepA (some 0)) p := by
  rw [List.take_add_one, h, List.foldl_append]
  rfl
theorem byteW_num {p : W8} {b : Nat} (h : byteW p = some b) : numW p = some (b : Int) ∧ b < 256 := by
  unfold byteW at h
  split at h
  · rename_i n hn
    split at h
    · cases h
      rw [hn]
      exact ⟨by congr 1; omega, by omega⟩
    · cases h
  · cases h
theorem byteW_bad {p : W8} (h : byteW p = none) (n : Int) (hn : ∀ m, numW p = some m → n = m) (h0 : 0 ≤ n ∧ n ≤ 255) : numW p = none := by
  unfold byteW at h
  split at h
  · rename_i m hm
    have := hn m hm
    rw [if_pos (by omega)] at h
    cases h
  · rename_i hm; exact hm
theorem st_bad {st : Option Nat} {p : W8} {n : Int} (h : none = stepA st p) (hn : ∀ m, numW p = some m → n = m) (h0 : 0 ≤ n ∧ n ≤ 255) (bad : Bool) : (bad || st.isNone || (numW p).isNone) = true := by
  cases st with
  | none => simp
  | some a =>
    cases hb : byteW p with
    | some b => simp [stepA, hb] at h
    | none => rw [byteW_bad hb n hn h0]; simp
set_option maxHeartbeats 4000000 in
/-- A word's address. -/
theorem address_any (hE : Env w) {kb : Nat} (r : Nat) (ws : List ByteArray) (bad : Bool) (s : ByteArray) (hs : s.size ≤ 1000000000) (h : RowAt w kb r ws bad) :
    Calls Tryz.prog 59 #[.pointer (some ⟨r, 0, none⟩), .string s] w fun e w' => ∃ a : Int, e = .returned (.int .u32 a) ∧ (∀ x, addrW s.data.toList = some x → a = (x : Int)) ∧
      RowAt w' kb r ws (bad || (addrW s.data.toList).isNone) ∧ Tch (· = r) w w' := by
  have HS := Lib.hid (split_any hE 46 s hs)
  obtain ⟨PA, hPA⟩ : ∃ PA, Lib.splitB ⟨#[46]⟩ 0 (Lib.countB s ⟨#[46]⟩) s = PA := ⟨_, rfl⟩
  obtain ⟨P, hP⟩ : ∃ P, cutsL 46 [] s.data.toList = P := ⟨_, rfl⟩
  have hPP : PA.map (·.data.toList) = P := by rw [← hPA, ← hP]; exact splitB_one 46 s
  have hsz : ∀ x ∈ PA, x.size ≤ 1000000000 := fun x hx => Nat.le_trans (splitB_sizes _ _ s x (by rw [hPA]; exact hx)) hs
  have hfold := addrW_fold s.data.toList
  rw [hP] at hfold
  rw [hPA] at HS
  have hlen : P.length = PA.length := by rw [← hPP, List.length_map]
  have HSZ := Lib.hid hsz
  have HPP := Lib.hid hPP
  have HR := Lib.hid h
  have HE := Lib.hid hE
  obtain ⟨n, hn⟩ : ∃ n, PA.length = n := ⟨_, rfl⟩
  rw [hn] at HS hlen
  have HN := Lib.hid hn
  have HRa := Lib.hid (fun x t => h.on ((Junk.refl w).alloc (.cells x t)))
  have h1 := (h.on ((Junk.refl w).alloc (.cells (PA.map Value.string).toArray 9))).c1
  have hf1 := (h.on ((Junk.refl w).alloc (.cells (PA.map Value.string).toArray 9))).f1
  have hlt := (h.on ((Junk.refl w).alloc (.cells (PA.map Value.string).toArray 9))).lt
  have hrg := h.lt
  have HPT := Lib.hid (parts_alloc w PA 9)
  have HTa := Lib.hid (show Tch (· = r) w (w.alloc (.cells (PA.map Value.string).toArray 9)) from Tch.of_junk ((Junk.refl w).alloc _))
  have HRb := Lib.hid (h.on ((Junk.refl w).alloc (.cells (PA.map Value.string).toArray 9)))
  clear h hE hn hPA hPP hsz hP HRa
  by_cases h4 : n = 4
  case neg =>
    have HV := Lib.hid (show addrW s.data.toList = none by rw [hfold, if_neg (by rw [hlen]; exact h4)])
    have h4i : ¬ (n : Int) = 4 := by omega
    clear hfold hlen h4
    go_enter Tryz.func59, Tryz.ntmps59
    generalize w.alloc (.cells (PA.map Value.string).toArray 9) = W1 at *
    go_wp2_with (go_at_call 17; (refine HS.out.mono ?_; rintro e w1 ⟨rfl, rfl⟩))
    go_ret
    refine ⟨0, rfl, fun x hx => (by rw [HV.out] at hx; cases hx), ?_, HTa.out.at 1 _⟩
    rw [HV.out, show (bad || Option.isNone (none : Option Nat)) = true by simp]
    exact HRb.out.bad true
  subst h4
  have HV := Lib.hid (show addrW s.data.toList = P.foldl stepA (some 0) by rw [hfold, if_pos hlen])
  have HL := Lib.hid hlen
  clear hfold hlen
  go_enter Tryz.func59, Tryz.ntmps59
  generalize w.alloc (.cells (PA.map Value.string).toArray 9) = W1 at *
  go_wp2_with (go_at_call 17; (refine HS.out.mono ?_; rintro e w1 ⟨rfl, rfl⟩))
  go_loopw [6, 8, 9, 20] (fun v6 v8 v9 v20 wr => ∃ (i : Nat) (a : Int), v6 = .int .u32 a ∧ v20 = .int .i64 (i : Int) ∧ i ≤ 4 ∧ Hid (RowAt wr kb r ws (bad || ((P.take i).foldl stepA (some 0)).isNone)) ∧ Hid (Tch (· = r) w1 wr) ∧
    Hid (∀ x, (P.take i).foldl stepA (some 0) = some x → a = (x : Int))) (fun _ _ _ v _ => 5 - (intOf v).toNat)
  case atStart =>
    refine ⟨0, 0, rfl, rfl, by omega, Lib.hid ?_, Lib.hid (Tch.refl _), Lib.hid (fun x hx => by cases hx; rfl)⟩
    show RowAt w1 kb r ws (bad || Option.isNone (some 0))
    simpa using HRb.out
  case round =>
    obtain ⟨i, a, rfl, rfl, hi, hRr, hTr, hA⟩ := hrel
    by_cases hi4 : i < 4
    case neg =>
      obtain rfl : i = 4 := by omega
      go_wp2
      go_ret
      have ht : P.take 4 = P := List.take_of_length_le (by rw [HL.out]; exact Nat.le_refl _)
      have h1 := hRr.out
      have h2 := hA.out
      rw [ht] at h1 h2
      rw [HV.out]
      exact ⟨a, rfl, h2, h1, HTa.out.trans hTr.out⟩
    have hi4i : (i : Int) < 4 := by omega
    obtain ⟨p, hp⟩ : ∃ p, PA[i]? = some p := ⟨_, List.getElem?_eq_getElem (by rw [HN.out]; exact hi4)⟩
    have hc : wr.cell? ⟨w.heap.size, i, none⟩ = some (.string p) := hTr.out.cell (HPT.out i p hp) (by intro e; have e2 : w.heap.size = r := e; omega)
    have hpP : P[i]? = some p.data.toList := by rw [← HPP.out, List.getElem?_map, hp]; rfl
    have hs1 := st_succ hpP
    have hpz : p.size ≤ 1000000000 := HSZ.out p (List.mem_of_getElem? hp)
    have HNb := Lib.hid (number_any (HR.out.env HE.out (HTa.out.trans hTr.out)) r ws (bad || ((P.take i).foldl stepA (some 0)).isNone) p hpz hRr.out)
    cases hst : (P.take (i + 1)).foldl stepA (some 0) with
    | some y =>
      rw [hst] at hs1
      obtain ⟨x, hx⟩ : ∃ x, (P.take i).foldl stepA (some 0) = some x := by
        cases hh : (P.take i).foldl stepA (some 0) with
        | none => rw [hh] at hs1; cases hs1
        | some x => exact ⟨x, rfl⟩
      obtain ⟨b, hb⟩ : ∃ b, byteW p.data.toList = some b := by
        cases hh : byteW p.data.toList with
        | none => rw [hx] at hs1; simp [stepA, hh] at hs1
        | some b => exact ⟨b, rfl⟩
      obtain rfl : y = x * 256 + b := by rw [hx] at hs1; simpa [stepA, hb] using hs1
      obtain ⟨hnum, hb2⟩ := byteW_num hb
      obtain rfl : a = (x : Int) := hA.out x hx
      have hx3 : x < 16777216 := by
        have := fold_lt (P.take i) 0 x 0 (by decide) hx
        rw [List.length_take, HL.out, Nat.zero_add, show min i 4 = i by omega] at this
        exact Nat.lt_of_lt_of_le this (by
          have : i = 0 ∨ i = 1 ∨ i = 2 ∨ i = 3 := by omega
          rcases this with rfl | rfl | rfl | rfl <;> decide)
      have HNUM := Lib.hid hnum
      have HST := Lib.hid hst
      have HX := Lib.hid hx
      have b0 : ¬ ((b : Int) < 0) := by omega
      have b255 : ¬ ((255 : Int) < (b : Int)) := by omega
      clear hst hx hs1 hpP hb hnum hp
      go_wp2_with (go_at_call 73; (refine HNb.out.mono ?_; rintro e w2 ⟨n, rfl, hn, hn2, hR2, hT2⟩); obtain rfl := hn _ HNUM.out; have HR2 := Lib.hid hR2; have HT2 := Lib.hid hT2; clear hR2 hT2 hn hn2)
      have eb : bits .or .u32 ((x : Int) * 256) (bits .and .i64 (b : Int) 255 % 4294967296) = ((x * 256 + b : Nat) : Int) := by
        rw [and_i64_8 _ (by omega) (by omega), or_u32 8 _ _ (by omega) (by omega) (by omega) (by omega) (by omega) (by omega)]
        omega
      refine ⟨⟨i + 1, ((x * 256 + b : Nat) : Int), by rw [eb], by go_num, by omega, Lib.hid ?_, Lib.hid (hTr.out.trans HT2.out), Lib.hid (fun y hy => by rw [HST.out] at hy; cases hy; rfl)⟩, by simp [intOf]; omega⟩
      have := HR2.out
      rw [HX.out, HNUM.out] at this
      rw [HST.out]
      simpa using this
    | none =>
      have HST := Lib.hid hst
      have HS1 := Lib.hid hs1
      clear hst hs1 hpP hp
      go_wp2_with (go_at_call 73; (refine HNb.out.mono ?_; rintro e w2 ⟨n, rfl, hn, hn2, hR2, hT2⟩); have HR2 := Lib.hid hR2; have HT2 := Lib.hid hT2; have HN2 := Lib.hid hn; have k1 := hR2.c1; have kf := hR2.f1; have kl := hR2.lt; clear hR2 hT2 hn)
      all_goals refine ⟨⟨i + 1, _, rfl, by go_num, by omega, Lib.hid ?_, Lib.hid ?_, Lib.hid (fun x hx => by rw [HST.out] at hx; cases hx)⟩, by simp [intOf]; omega⟩
      all_goals first
        | exact hTr.out.trans HT2.out
        | exact (hTr.out.trans HT2.out).at 1 _
        | (rw [HST.out, show (bad || Option.isNone (none : Option Nat)) = true by simp]; exact HR2.out.bad true)
        | (rw [HST.out, show (bad || Option.isNone (none : Option Nat)) = true by simp]; have h8 := HR2.out; rw [st_bad (HST.out.symm.trans HS1.out) HN2.out (by omega) bad] at h8; exact h8)
end Go.Proofs.YtcnhlbkdhhjmiaaGreatDoor
