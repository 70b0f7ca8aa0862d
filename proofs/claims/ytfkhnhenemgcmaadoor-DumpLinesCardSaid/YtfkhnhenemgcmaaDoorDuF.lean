/- The words of a line. -/
import Derived.Test.YtfkhnhenemgcmaaDoorShelf
import Derived.Test.YtfkhnhenemgcmaaDoorOwn
import Derived.Test.YtfkhnhenemgcmaaDoorOwn2
import Derived.Test.YtfkhnhenemgcmaaDoorBits
import Derived.Test.YtfkhnhenemgcmaaDoorMix2
import Derived.Lib.LaidTab
import Derived.LaidMore
import Derived.Deep.DeepCutAuto
import Derived.Laws.RangeString
set_option linter.unusedVariables false
set_option maxRecDepth 100000
set_option linter.unusedSimpArgs false
namespace Go.Proofs.YtfkhnhenemgcmaaDoor
open Go.RowKit
/-- The table of powers of ten, as the library's text lays it. -/
def PowT (w : World) : Prop := Lib.TabIs Tryd.prog w "internal/strconv.uint64pow10" .u64 Lib.pow10Tab
theorem PowT.of {w w' : World} (h : PowT w) (hk : ∀ g o, Tryd.prog.globalNamed "internal/strconv.uint64pow10" = some g → w.heap[g]? = some o → w'.heap[g]? = some o) : PowT w' := by
  unfold PowT Lib.TabIs World.var? at *
  cases hg : Tryd.prog.globalNamed "internal/strconv.uint64pow10" with
  | none => rw [hg] at h; cases h
  | some g =>
    rw [hg] at h
    simp only [Option.bind_some] at h ⊢
    cases hw : w.heap[g]? with
    | none => rw [hw] at h; cases h
    | some o =>
      rw [hk g o hg hw]
      rw [hw] at h
      exact h
theorem PowT.on {w w' : World} (h : PowT w) (hj : Junk w w') : PowT w' := h.of fun g o _ hw => by
  obtain ⟨os, d, rfl⟩ := hj
  rw [World.heap_junk _ _ _ (Array.getElem?_eq_some_iff.1 hw).1]
  exact hw
theorem PowT.lt {w : World} (h : PowT w) : ∃ g, Tryd.prog.globalNamed "internal/strconv.uint64pow10" = some g ∧ g < w.heap.size := by
  unfold PowT Lib.TabIs World.var? at h
  cases hg : Tryd.prog.globalNamed "internal/strconv.uint64pow10" with
  | none => rw [hg] at h; cases h
  | some g =>
    rw [hg] at h
    simp only [Option.bind_some] at h
    cases hw : w.heap[g]? with
    | none => rw [hw] at h; cases h
    | some o => exact ⟨g, rfl, (Array.getElem?_eq_some_iff.1 hw).1⟩
theorem junk_grow (w : World) (k : Nat) (os : Array Obj) : Junk w (Sort.grow (w.drewN k) os) := ⟨os, w.drawn + k, rfl⟩
def itoaS (n : Int) : ByteArray := ⟨(Lib.itoa n).toArray⟩
theorem itoa_any (n : Int) (h0 : -9223372036854775808 ≤ n ∧ n ≤ 9223372036854775807) (w : World) (ht : PowT w) : Calls Tryd.prog 15 #[.int .i64 n] w fun e w' => e = .returned (.string (itoaS n)) ∧ Junk w w' :=
  (Any.strconv_Itoa Tryd.laysM171 n h0.1 h0.2 w ht).mono fun e w' ⟨he, k, os, hw⟩ => ⟨he, hw ▸ junk_grow _ _ _⟩
theorem extra156 : Builder.Extra Tryd.prog Tryd.lays156_ren where
  sizeBuilder := by kernel_rfl
  liesBuilder := by kernel_rfl
  t5 := Tryd.laysM171.t5
  a5 := Tryd.laysM171.a5
  z5 := Tryd.laysM171.z5
  v5 := Tryd.laysM171.v5
  infoByte := by kernel_rfl
  cellsByte := by kernel_rfl
  sizeByte := by kernel_rfl
  neB5 := by decide
/-- Texts joined. -/
def joinL (L : List ByteArray) (sep : ByteArray) : List UInt8 := Lib.join (L.map (·.data.toList)) sep.data.toList
def joinS (L : List ByteArray) (sep : ByteArray) : ByteArray := ⟨(joinL L sep).toArray⟩
theorem joins_any (oa : Option Addr) (c B : Nat) (L : List ByteArray) (sep : ByteArray) (w : World) (hO : Own B w 9 1 oa c L.length (L.map Value.string)) (h0 : L ≠ []) (hn : L.length ≤ 1000) (hl : (joinL L sep).length ≤ 100000000) :
    Calls Tryd.prog 21 #[.slice oa L.length c, .string sep] w fun e w' => e = .returned (.string (joinS L sep)) ∧ Junk w w' := by
  have hx : (L.map Value.string)[0]? = some (Value.string (L.head h0)) := by
    cases L with
    | nil => exact absurd rfl h0
    | cons x r => rfl
  obtain ⟨g, rfl, _, hg, _, _⟩ := hO.cells 0 _ hx
  refine (Any.strings_Join Tryd.lays156 extra156 g 0 c L sep w (fun j x hj => ?_) hg (by omega) hO.capLe.1 (by unfold joinL at hl; omega)).mono fun e w' ⟨he, hw⟩ => ⟨he, Junk.of_below hw⟩
  obtain ⟨g', h1, _, _, h2, _⟩ := hO.cells j (.string x) (by rw [List.getElem?_map, hj]; rfl)
  cases h1
  rw [Nat.zero_add]
  exact h2
end Go.Proofs.YtfkhnhenemgcmaaDoor
set_option linter.unusedVariables false
set_option maxRecDepth 100000
set_option linter.unusedSimpArgs false
namespace Go.Proofs.YtfkhnhenemgcmaaDoor
open Go.RowKit Go.Sort Go.Lib
set_option maxHeartbeats 6400000 in
theorem iformatUint_any (u : Nat) (hu64 : u < 18446744073709551616) (w : World) (htab : PowT w) :
    Calls Tryd.prog 82 #[.int .u64 u, .int .i64 10] w fun e w' => e = .returned (.string ⟨(Lib.decDigits u).toArray⟩) ∧ Junk w w' := by
  by_cases hs : u < 100
  · have hw := wrapk_i64 (u : Int) (by omega) (by omega)
    have hlt : (u : Int) < 100 := by omega
    go_enter Tryd.func82, Tryd.ntmps82
    go_wp2_with (first | (go_at_call 75; refine (Any.internal_strconv_small { Tryd.laysM171 with } u hs _).mono ?_; rintro e w' ⟨rfl, rfl⟩))
    go_ret
    exact ⟨rfl, Junk.refl _⟩
  · have hge : ¬ (u : Int) < 100 := by omega
    have hu1 : 1 ≤ u := by omega
    have hnd20 : Lib.nDigits u ≤ 20 := by have := Lib.numDigits_eq u hu1 hu64; split at this <;> omega
    have hal : Tryd.prog.arrayLen 115 = 24 := by simp [Program.arrayLen, Tryd.underlying115]
    have hsl2 : ∀ W, (Instr.sliceAt 115 (.pointer (some ⟨w.heap.size, 0, none⟩)) none (some (.int .i64 (Lib.nDigits u : Int))) none).run Tryd.prog W = .ok (.slice (some ⟨w.heap.size, 0, none⟩) (Lib.nDigits u) 24) W := fun W => by
      rw [run_sliceAt_array_h W 115 ⟨w.heap.size, 0, none⟩ (by simp [Program.arrayLen, Program.elem, Tryd.underlying115]) .i64 (Lib.nDigits u : Int) (by omega) (by rw [hal]; omega)]
      go_simp
    have hH0 : Holds (fun (b : UInt8) => Value.int .u8 (b.toNat : Int)) (w.alloc (.cells Lib.zeros24 115)) w.heap.size 0 (Array.replicate (Lib.nDigits u) 0) := fun j hj => by
      have hj' : j < Lib.nDigits u := by simpa using hj
      refine ⟨?_, World.frozen?_alloc_new _ _ _ _⟩
      rw [World.cell?_alloc_new, Lib.zeros24_at _ (by omega), getElem!_pos _ j hj]
      simp
    have hfmt := Any.internal_strconv_formatBase10 { Tryd.laysM171 with } w.heap.size 0 24 u (Array.replicate (Lib.nDigits u) 0) (w.alloc (.cells Lib.zeros24 115)) hH0 (by rw [Array.size_replicate]; exact Lib.lt_pow_nDigits u) hu64 (by rw [Array.size_replicate]; omega)
    rw [Array.size_replicate] at hfmt
    have HH0 := Lib.hid hH0
    clear hH0 hal
    go_enter Tryd.func82, Tryd.ntmps82
    go_wp2_with (first | (go_at_call 76; refine (Any.internal_strconv_numDigits { Tryd.laysM171 with } u hu1 hu64 _ (Lib.tabIs_alloc htab _)).mono ?_; rintro e w' ⟨rfl, rfl⟩))
    go_at_call 77
    refine hfmt.mono ?_
    rintro e w' ⟨rfl, k, v', dk, rfl, hF⟩
    have hcv : (convert 22 9 (.slice (some ⟨w.heap.size, 0, none⟩) (Lib.nDigits u) 24)).run Tryd.prog ((putRow (fun (b : UInt8) => Value.int .u8 (b.toNat : Int)) (w.alloc (.cells Lib.zeros24 115)) w.heap.size 0 dk).drewN k) = .ok (.string ⟨(Lib.decDigits u).toArray⟩) ((putRow (fun (b : UInt8) => Value.int .u8 (b.toNat : Int)) (w.alloc (.cells Lib.zeros24 115)) w.heap.size 0 dk).drewN k) := by
      have h := run_convert_bytes_back (P := Tryd.prog) ((putRow (fun (b : UInt8) => Value.int .u8 (b.toNat : Int)) (w.alloc (.cells Lib.zeros24 115)) w.heap.size 0 dk).drewN k) 22 9 5 ⟨w.heap.size, 0, none⟩ 24 (Lib.decDigits u) Tryd.underlying22 Tryd.underlying5 Tryd.underlying9 (fun j hj => by
        rw [Lib.row_is_numeral hF j hj, Lib.add_plain, World.cell?_drewN]
        exact cell?_putRow (fun (b : UInt8) => Value.int .u8 (b.toNat : Int)) _ w.heap.size 0 _ dk HH0.out (by rw [hF.size, Array.size_replicate]) j (by rw [hF.size]; rw [Lib.decDigits_length] at hj; exact hj))
      rw [Lib.decDigits_length] at h
      exact h
    go_wp2
    go_ret
    obtain ⟨os', _, eo⟩ := putRow_grow_new (fun (b : UInt8) => Value.int .u8 (b.toNat : Int)) w #[.cells Lib.zeros24 115] w.heap.size 0 dk (Nat.le_refl _)
    refine ⟨rfl, ?_⟩
    show Junk w ((putRow (fun (b : UInt8) => Value.int .u8 (b.toNat : Int)) (w.alloc (.cells Lib.zeros24 115)) w.heap.size 0 dk).drewN k)
    rw [alloc_eq_grow, eo]
    exact ⟨_, _, rfl⟩
theorem formatUint_any (u : Nat) (hu64 : u < 18446744073709551616) (w : World) (htab : PowT w) :
    Calls Tryd.prog 64 #[.int .u64 u, .int .i64 10] w fun e w' => e = .returned (.string ⟨(Lib.decDigits u).toArray⟩) ∧ Junk w w' := by
  have HT := Lib.hid (fun w1 (h : PowT w1) => iformatUint_any u hu64 w1 h)
  have HP := Lib.hid htab
  clear htab
  go_enter Tryd.func64, Tryd.ntmps64
  go_wp2_with (first | (go_at_call 82; refine (HT.out _ (HP.out.on (by (first | ((repeat (first | with_reducible exact Junk.refl _ | with_reducible exact Junk.app _ _ _ _ _ | with_reducible apply Junk.alloc | with_reducible apply Junk.junk | with_reducible apply Junk.drew | with_reducible apply Junk.drewN)); done) | ((try simp only [World.junk_junk, Array.append_assoc]); (repeat (first | with_reducible exact Junk.refl _ | with_reducible exact Junk.app _ _ _ _ _ | with_reducible exact Junk.app2 _ _ _ _ _ _ | with_reducible exact Junk.app3 _ _ _ _ _ _ _ | with_reducible exact Junk.app4 _ _ _ _ _ _ _ _ | with_reducible exact Junk.app5 _ _ _ _ _ _ _ _ _ | with_reducible apply Junk.alloc | with_reducible apply Junk.junk | with_reducible apply Junk.drew | with_reducible apply Junk.drewN))))))).mono ?_; rintro e w' ⟨rfl, ⟨osj, dj, rfl⟩⟩))
  go_ret
  exact ⟨rfl, by (first | ((repeat (first | with_reducible exact Junk.refl _ | with_reducible exact Junk.app _ _ _ _ _ | with_reducible apply Junk.alloc | with_reducible apply Junk.junk | with_reducible apply Junk.drew | with_reducible apply Junk.drewN)); done) | ((try simp only [World.junk_junk, Array.append_assoc]); (repeat (first | with_reducible exact Junk.refl _ | with_reducible exact Junk.app _ _ _ _ _ | with_reducible exact Junk.app2 _ _ _ _ _ _ | with_reducible exact Junk.app3 _ _ _ _ _ _ _ | with_reducible exact Junk.app4 _ _ _ _ _ _ _ _ | with_reducible exact Junk.app5 _ _ _ _ _ _ _ _ _ | with_reducible apply Junk.alloc | with_reducible apply Junk.junk | with_reducible apply Junk.drew | with_reducible apply Junk.drewN))))⟩
end Go.Proofs.YtfkhnhenemgcmaaDoor
set_option linter.unusedVariables false
set_option maxRecDepth 100000
set_option linter.unusedSimpArgs false
namespace Go.Proofs.YtfkhnhenemgcmaaDoor
open Go.RowKit
theorem enc_digit (d : Nat) (h : d < 10) : Utf8.encode ((48 : Int) + (d : Int)) = ⟨#[UInt8.ofNat (48 + d)]⟩ := by
  have : ∀ d : Nat, d < 10 → Utf8.encode ((48 : Int) + (d : Int)) = ⟨#[UInt8.ofNat (48 + d)]⟩ := by decide +kernel
  exact this d h
def digS (u : Nat) : ByteArray := ⟨(Lib.decDigits u).toArray⟩
theorem digS_small {u : Nat} (h : u < 10) : digS u = ⟨#[UInt8.ofNat (48 + u)]⟩ := by
  unfold digS; rw [Lib.decDigits, dif_pos h]
theorem digS_size {u : Nat} (h : u < 18446744073709551616) : (digS u).size ≤ 20 := by
  show ((Lib.decDigits u).toArray).size ≤ 20
  rw [List.size_toArray, Lib.decDigits_length]
  by_cases h1 : 1 ≤ u
  · have := Lib.numDigits_eq u h1 h
    split at this <;> omega
  · rw [show u = 0 by omega, Lib.nDigits_small (by omega)]
    omega
theorem digS_big {u : Nat} (h : ¬ u < 10) : digS u = digS (u / 10) ++ ⟨#[UInt8.ofNat (48 + u % 10)]⟩ := by
  unfold digS
  apply ByteArray.ext
  rw [Lib.decDigits, dif_neg h]
  simp [ByteArray.data_append]
set_option maxRecDepth 100000 in
set_option maxHeartbeats 2000000 in
theorem size29_any : ∀ (n u : Nat), u < n → u < 18446744073709551616 → ∀ w, Calls Tryd.prog 51 #[.int .u64 u] w fun e w' => e = .returned (.string (digS u)) ∧ Junk w w'
  | 0, u, h, _, w => absurd h (by omega)
  | n + 1, u, h, hu, w => by
    by_cases hs : u < 10
    · have h1 : (u : Int) < 10 := by omega
      have hp := wrapk_u64 (48 + (u : Int)) (by omega) (by omega)
      go_enter Tryd.func51, Tryd.ntmps51
      go_wp2
      go_ret
      refine ⟨?_, by (first | ((repeat (first | with_reducible exact Junk.refl _ | with_reducible exact Junk.app _ _ _ _ _ | with_reducible apply Junk.alloc | with_reducible apply Junk.junk | with_reducible apply Junk.drew | with_reducible apply Junk.drewN)); done) | ((try simp only [World.junk_junk, Array.append_assoc]); (repeat (first | with_reducible exact Junk.refl _ | with_reducible exact Junk.app _ _ _ _ _ | with_reducible exact Junk.app2 _ _ _ _ _ _ | with_reducible exact Junk.app3 _ _ _ _ _ _ _ | with_reducible exact Junk.app4 _ _ _ _ _ _ _ _ | with_reducible exact Junk.app5 _ _ _ _ _ _ _ _ _ | with_reducible apply Junk.alloc | with_reducible apply Junk.junk | with_reducible apply Junk.drew | with_reducible apply Junk.drewN))))⟩
      rw [digS_small hs, ← enc_digit u hs]
      rfl
    · have h1 : ¬ (u : Int) < 10 := by omega
      obtain ⟨q, hq⟩ : ∃ q, u / 10 = q := ⟨_, rfl⟩
      obtain ⟨r, hr⟩ : ∃ r, u % 10 = r := ⟨_, rfl⟩
      have hr10 : r < 10 := by omega
      have eq : (u : Int) / 10 = (q : Int) := by omega
      have er : (u : Int) % 10 = (r : Int) := by omega
      have HI := Lib.hid (fun w => size29_any n q (by omega) (by omega) w)
      obtain ⟨E, hE⟩ : ∃ E, Utf8.encode ((48 : Int) + (r : Int)) = E := ⟨_, rfl⟩
      have hE1 := (enc_digit r hr10).symm.trans hE
      have hz : ¬ 9223372036854775807 < (digS q).size + E.size := by
        have h1 := digS_size (show q < 18446744073709551616 by omega)
        have h2 : E.size = 1 := by rw [← hE1]; rfl
        omega
      have HB := Lib.hid (digS_big hs)
      rw [hq, hr, hE1] at HB
      clear hE1
      have hp := wrapk_u64 (48 + (r : Int)) (by omega) (by omega)
      have hpq := wrapk_u64 (q : Int) (by omega) (by omega)
      have hpr := wrapk_u64 (r : Int) (by omega) (by omega)
      clear hu hs h hq hr
      go_enter Tryd.func51, Tryd.ntmps51
      go_wp2_with (first | (go_at_call 51; (with_reducible refine (HI.out _).mono ?_); rintro e w' ⟨rfl, ⟨osj, dj, rfl⟩⟩))
      go_ret
      refine ⟨?_, by (first | ((repeat (first | with_reducible exact Junk.refl _ | with_reducible exact Junk.app _ _ _ _ _ | with_reducible apply Junk.alloc | with_reducible apply Junk.junk | with_reducible apply Junk.drew | with_reducible apply Junk.drewN)); done) | ((try simp only [World.junk_junk, Array.append_assoc]); (repeat (first | with_reducible exact Junk.refl _ | with_reducible exact Junk.app _ _ _ _ _ | with_reducible exact Junk.app2 _ _ _ _ _ _ | with_reducible exact Junk.app3 _ _ _ _ _ _ _ | with_reducible exact Junk.app4 _ _ _ _ _ _ _ _ | with_reducible exact Junk.app5 _ _ _ _ _ _ _ _ _ | with_reducible apply Junk.alloc | with_reducible apply Junk.junk | with_reducible apply Junk.drew | with_reducible apply Junk.drewN))))⟩
      rw [HB.out]
      rfl
/-! ### The reference's num. -/
theorem itoaS_neg {n : Int} (h : n < 0) : itoaS n = ⟨#[45]⟩ ++ digS n.natAbs := by
  unfold itoaS digS
  apply ByteArray.ext
  rw [Lib.itoa, if_pos h]
  simp [ByteArray.data_append]
theorem itoaS_pos {n : Int} (h : ¬ n < 0) : itoaS n = digS n.toNat := by
  unfold itoaS digS
  rw [Lib.itoa, if_neg h]
set_option maxRecDepth 100000 in
set_option maxHeartbeats 2000000 in
theorem rnum_any (n : Int) (h0 : -9223372036854775808 ≤ n ∧ n ≤ 9223372036854775807) (w : World) : Calls Tryd.prog 23 #[.int .i64 n] w fun e w' => e = .returned (.string (itoaS n)) ∧ Junk w w' := by
  by_cases hn : n < 0
  · have HE := Lib.hid (itoaS_neg hn)
    obtain ⟨u, hu⟩ : ∃ u, n.natAbs = u := ⟨_, rfl⟩
    rw [hu] at HE
    have HS := Lib.hid (fun w => size29_any (u + 1) u (by omega) (by omega) w)
    have hz : ¬ 9223372036854775807 < 1 + (digS u).size := by have := digS_size (show u < 18446744073709551616 by omega); omega
    have hp : IntKind.u64.wrap (-IntKind.u64.wrap n) = (u : Int) := by rw [IntKind.wrap_u64, IntKind.wrap_u64]; omega
    have hp2 : IntKind.u64.wrap (0 - IntKind.u64.wrap n) = (u : Int) := by rw [IntKind.wrap_u64, IntKind.wrap_u64]; omega
    clear h0 hu
    go_enter Tryd.func23, Tryd.ntmps23
    go_wp2_with (first | (go_at_call 51; (with_reducible refine (HS.out _).mono ?_); rintro e w' ⟨rfl, ⟨osj, dj, rfl⟩⟩))
    go_ret
    refine ⟨?_, by (first | ((repeat (first | with_reducible exact Junk.refl _ | with_reducible exact Junk.app _ _ _ _ _ | with_reducible apply Junk.alloc | with_reducible apply Junk.junk | with_reducible apply Junk.drew | with_reducible apply Junk.drewN)); done) | ((try simp only [World.junk_junk, Array.append_assoc]); (repeat (first | with_reducible exact Junk.refl _ | with_reducible exact Junk.app _ _ _ _ _ | with_reducible exact Junk.app2 _ _ _ _ _ _ | with_reducible exact Junk.app3 _ _ _ _ _ _ _ | with_reducible exact Junk.app4 _ _ _ _ _ _ _ _ | with_reducible exact Junk.app5 _ _ _ _ _ _ _ _ _ | with_reducible apply Junk.alloc | with_reducible apply Junk.junk | with_reducible apply Junk.drew | with_reducible apply Junk.drewN))))⟩
    rw [HE.out]
    rfl
  · have HE := Lib.hid (itoaS_pos hn)
    obtain ⟨u, hu⟩ : ∃ u, n.toNat = u := ⟨_, rfl⟩
    rw [hu] at HE
    have HS := Lib.hid (fun w => size29_any (u + 1) u (by omega) (by omega) w)
    have hp : IntKind.u64.wrap n = (u : Int) := by rw [IntKind.wrap_u64]; omega
    clear h0 hu
    go_enter Tryd.func23, Tryd.ntmps23
    go_wp2_with (first | (go_at_call 51; (with_reducible refine (HS.out _).mono ?_); rintro e w' ⟨rfl, ⟨osj, dj, rfl⟩⟩))
    go_ret
    refine ⟨?_, by (first | ((repeat (first | with_reducible exact Junk.refl _ | with_reducible exact Junk.app _ _ _ _ _ | with_reducible apply Junk.alloc | with_reducible apply Junk.junk | with_reducible apply Junk.drew | with_reducible apply Junk.drewN)); done) | ((try simp only [World.junk_junk, Array.append_assoc]); (repeat (first | with_reducible exact Junk.refl _ | with_reducible exact Junk.app _ _ _ _ _ | with_reducible exact Junk.app2 _ _ _ _ _ _ | with_reducible exact Junk.app3 _ _ _ _ _ _ _ | with_reducible exact Junk.app4 _ _ _ _ _ _ _ _ | with_reducible exact Junk.app5 _ _ _ _ _ _ _ _ _ | with_reducible apply Junk.alloc | with_reducible apply Junk.junk | with_reducible apply Junk.drew | with_reducible apply Junk.drewN))))⟩
    rw [HE.out]
    rfl
theorem rNum_any (n : Int) (h0 : -9223372036854775808 ≤ n ∧ n ≤ 9223372036854775807) (w : World) : Calls Tryd.prog 13 #[.int .i64 n] w fun e w' => e = .returned (.string (itoaS n)) ∧ Junk w w' := by
  have HS := Lib.hid (fun w => rnum_any n h0 w)
  clear h0
  go_enter Tryd.func13, Tryd.ntmps13
  go_wp2_with (first | (go_at_call 23; (with_reducible refine (HS.out _).mono ?_); rintro e w' ⟨rfl, ⟨osj, dj, rfl⟩⟩))
  go_ret
  exact ⟨rfl, by (first | ((repeat (first | with_reducible exact Junk.refl _ | with_reducible exact Junk.app _ _ _ _ _ | with_reducible apply Junk.alloc | with_reducible apply Junk.junk | with_reducible apply Junk.drew | with_reducible apply Junk.drewN)); done) | ((try simp only [World.junk_junk, Array.append_assoc]); (repeat (first | with_reducible exact Junk.refl _ | with_reducible exact Junk.app _ _ _ _ _ | with_reducible exact Junk.app2 _ _ _ _ _ _ | with_reducible exact Junk.app3 _ _ _ _ _ _ _ | with_reducible exact Junk.app4 _ _ _ _ _ _ _ _ | with_reducible exact Junk.app5 _ _ _ _ _ _ _ _ _ | with_reducible apply Junk.alloc | with_reducible apply Junk.junk | with_reducible apply Junk.drew | with_reducible apply Junk.drewN))))⟩
theorem itoaS_size {n : Int} (h0 : -9223372036854775808 ≤ n ∧ n ≤ 9223372036854775807) : (itoaS n).size ≤ 21 := by
  by_cases hn : n < 0
  · rw [itoaS_neg hn, ByteArray.size_append]
    have := digS_size (show n.natAbs < 18446744073709551616 by omega)
    have h1 : (⟨#[45]⟩ : ByteArray).size = 1 := rfl
    omega
  · rw [itoaS_pos hn]
    have := digS_size (show n.toNat < 18446744073709551616 by omega)
    omega
/-! ### Addresses. -/
def adrS (a : Int) : ByteArray := itoaS (a / 16777216) ++ ⟨#[46]⟩ ++ itoaS (a / 65536 % 256) ++ ⟨#[46]⟩ ++ itoaS (a / 256 % 256) ++ ⟨#[46]⟩ ++ itoaS (a % 256)
set_option maxHeartbeats 2000000 in
theorem radr_any (a : Int) (h : 0 ≤ a ∧ a ≤ 4294967295) (w : World) : Calls Tryd.prog 10 #[.int .u32 a] w fun e w' => e = .returned (.string (adrS a)) ∧ Junk w w' := by
  obtain ⟨b0, h0⟩ : ∃ b, a / 16777216 = b := ⟨_, rfl⟩
  obtain ⟨b1, h1⟩ : ∃ b, a / 65536 % 256 = b := ⟨_, rfl⟩
  obtain ⟨b2, h2⟩ : ∃ b, a / 256 % 256 = b := ⟨_, rfl⟩
  obtain ⟨b3, h3⟩ : ∃ b, a % 256 = b := ⟨_, rfl⟩
  have HE : adrS a = itoaS b0 ++ ⟨#[46]⟩ ++ itoaS b1 ++ ⟨#[46]⟩ ++ itoaS b2 ++ ⟨#[46]⟩ ++ itoaS b3 := by unfold adrS; rw [h0, h1, h2, h3]
  have HE := Lib.hid HE
  have H0 := Lib.hid (fun w => rnum_any b0 (by omega) w)
  have H1 := Lib.hid (fun w => rnum_any b1 (by omega) w)
  have H2 := Lib.hid (fun w => rnum_any b2 (by omega) w)
  have H3 := Lib.hid (fun w => rnum_any b3 (by omega) w)
  have p0 := wrapk_i64 b0 (by omega) (by omega)
  have p1 := wrapk_i64 b1 (by omega) (by omega)
  have p2 := wrapk_i64 b2 (by omega) (by omega)
  have p3 := wrapk_i64 b3 (by omega) (by omega)
  go_enter Tryd.func10, Tryd.ntmps10
  have s0 := itoaS_size (n := b0) (by omega)
  have s1 := itoaS_size (n := b1) (by omega)
  have s2 := itoaS_size (n := b2) (by omega)
  have s3 := itoaS_size (n := b3) (by omega)
  have z1 : ¬ 9223372036854775807 < (itoaS b0).size + 1 := by omega
  have z2 : ¬ 9223372036854775807 < (itoaS b0).size + 1 + (itoaS b1).size := by omega
  have z3 : ¬ 9223372036854775807 < (itoaS b0).size + 1 + (itoaS b1).size + 1 := by omega
  have z4 : ¬ 9223372036854775807 < (itoaS b0).size + 1 + (itoaS b1).size + 1 + (itoaS b2).size := by omega
  have z5 : ¬ 9223372036854775807 < (itoaS b0).size + 1 + (itoaS b1).size + 1 + (itoaS b2).size + 1 := by omega
  have z6 : ¬ 9223372036854775807 < (itoaS b0).size + 1 + (itoaS b1).size + 1 + (itoaS b2).size + 1 + (itoaS b3).size := by omega
  clear s0 s1 s2 s3
  go_wp2_with (first | (go_at_call 23; (with_reducible refine (H0.out _).mono ?_); rintro e w' ⟨rfl, ⟨osj, dj, rfl⟩⟩) | (go_at_call 23; (with_reducible refine (H1.out _).mono ?_); rintro e w' ⟨rfl, ⟨osj, dj, rfl⟩⟩) | (go_at_call 23; (with_reducible refine (H2.out _).mono ?_); rintro e w' ⟨rfl, ⟨osj, dj, rfl⟩⟩) | (go_at_call 23; (with_reducible refine (H3.out _).mono ?_); rintro e w' ⟨rfl, ⟨osj, dj, rfl⟩⟩))
  go_ret
  refine ⟨?_, by (first | ((repeat (first | with_reducible exact Junk.refl _ | with_reducible exact Junk.app _ _ _ _ _ | with_reducible apply Junk.alloc | with_reducible apply Junk.junk | with_reducible apply Junk.drew | with_reducible apply Junk.drewN)); done) | ((try simp only [World.junk_junk, Array.append_assoc]); (repeat (first | with_reducible exact Junk.refl _ | with_reducible exact Junk.app _ _ _ _ _ | with_reducible exact Junk.app2 _ _ _ _ _ _ | with_reducible exact Junk.app3 _ _ _ _ _ _ _ | with_reducible exact Junk.app4 _ _ _ _ _ _ _ _ | with_reducible exact Junk.app5 _ _ _ _ _ _ _ _ _ | with_reducible apply Junk.alloc | with_reducible apply Junk.junk | with_reducible apply Junk.drew | with_reducible apply Junk.drewN))))⟩
  rw [HE.out]
  rfl
end Go.Proofs.YtfkhnhenemgcmaaDoor
set_option linter.unusedVariables false
set_option maxRecDepth 100000
set_option linter.unusedSimpArgs false
namespace Go.Proofs.YtfkhnhenemgcmaaDoor
open Go.RowKit
theorem adr_join (b0 b1 b2 b3 : Int) : joinS [itoaS b0, itoaS b1, itoaS b2, itoaS b3] ⟨#[46]⟩ = itoaS b0 ++ ⟨#[46]⟩ ++ itoaS b1 ++ ⟨#[46]⟩ ++ itoaS b2 ++ ⟨#[46]⟩ ++ itoaS b3 := by
  apply ByteArray.ext
  simp [joinS, joinL, Lib.join_cons, Lib.joinTail, ByteArray.data_append]
theorem adrS_size {a : Int} (h : 0 ≤ a ∧ a ≤ 4294967295) : (adrS a).size ≤ 87 := by
  unfold adrS
  have h0 := itoaS_size (n := a / 16777216) (by omega)
  have h1 := itoaS_size (n := a / 65536 % 256) (by omega)
  have h2 := itoaS_size (n := a / 256 % 256) (by omega)
  have h3 := itoaS_size (n := a % 256) (by omega)
  have h4 : (⟨#[46]⟩ : ByteArray).size = 1 := rfl
  simp only [ByteArray.size_append]
  omega
set_option maxRecDepth 100000 in
set_option maxHeartbeats 8000000 in
theorem dadr_any (a : Int) (h : 0 ≤ a ∧ a ≤ 4294967295) (w : World) (ht : PowT w) : Calls Tryd.prog 9 #[.int .u32 a] w fun e w' => e = .returned (.string (adrS a)) ∧ Junk w w' := by
  obtain ⟨b0, h0⟩ : ∃ b, a / 16777216 = b := ⟨_, rfl⟩
  obtain ⟨b1, h1⟩ : ∃ b, a / 65536 % 256 = b := ⟨_, rfl⟩
  obtain ⟨b2, h2⟩ : ∃ b, a / 256 % 256 = b := ⟨_, rfl⟩
  obtain ⟨b3, h3⟩ : ∃ b, a % 256 = b := ⟨_, rfl⟩
  have HE := Lib.hid (show adrS a = joinS [itoaS b0, itoaS b1, itoaS b2, itoaS b3] ⟨#[46]⟩ by rw [adr_join]; unfold adrS; rw [h0, h1, h2, h3])
  have HL := Lib.hid (show (joinL [itoaS b0, itoaS b1, itoaS b2, itoaS b3] ⟨#[46]⟩).length ≤ 100000000 by
    have h5 : (joinS [itoaS b0, itoaS b1, itoaS b2, itoaS b3] ⟨#[46]⟩).size ≤ 87 := by rw [← HE.out]; exact adrS_size h
    unfold joinS at h5
    have h6 : (⟨(joinL [itoaS b0, itoaS b1, itoaS b2, itoaS b3] ⟨#[46]⟩).toArray⟩ : ByteArray).size = (joinL [itoaS b0, itoaS b1, itoaS b2, itoaS b3] ⟨#[46]⟩).length := by simp [ByteArray.size]
    omega)
  have HA := Lib.hid h
  have HT := Lib.hid ht
  have HI := Lib.hid (fun (n : Int) (hn : 0 ≤ n ∧ n ≤ 255) w1 hp => itoa_any n (by omega) w1 hp)
  have q0 : bits .and .u32 (a / 16777216) 255 = b0 := by rw [and_u32_8 _ (by omega) (by omega)]; omega
  have q1 : bits .and .u32 (a / 65536) 255 = b1 := by rw [and_u32_8 _ (by omega) (by omega)]; omega
  have q2 : bits .and .u32 (a / 256) 255 = b2 := by rw [and_u32_8 _ (by omega) (by omega)]; omega
  have q3 : bits .and .u32 a 255 = b3 := by rw [and_u32_8 _ (by omega) (by omega)]; omega
  have HB := Lib.hid (And.intro q0 (And.intro q1 (And.intro q2 q3)))
  have B0 := Lib.hid (show 0 ≤ b0 ∧ b0 ≤ 255 by omega)
  have B1 := Lib.hid (show 0 ≤ b1 ∧ b1 ≤ 255 by omega)
  have B2 := Lib.hid (show 0 ≤ b2 ∧ b2 ≤ 255 by omega)
  have B3 := Lib.hid (show 0 ≤ b3 ∧ b3 ≤ 255 by omega)
  clear h0 h1 h2 h3 ht q0 q1 q2 q3 h
  go_enter Tryd.func9, Tryd.ntmps9
  go_wp2
  go_loopw [3, 4] (fun s i wr => ∃ (k cq : Nat) (oq : Option Addr), k ≤ 4 ∧ s = .slice oq k cq ∧ i = .int .i64 (24 - 8 * (k : Int)) ∧ Junk w wr ∧ Hid (Own w.heap.size wr 9 1 oq cq k ((([b0, b1, b2, b3].take k).map itoaS).map Value.string))) (fun _ i _ => (32 + intOf i).toNat)
  case atStart => exact ⟨0, 0, none, by omega, rfl, rfl, Junk.refl _, Lib.hid (Own.nil _ _ _ _)⟩
  case round =>
    obtain ⟨k, cq, oq, hk, rfl, rfl, hj, hO⟩ := hrel
    have HJ := Lib.hid hj
    have HO := Lib.hid hO.out
    clear hj hO
    have hk4 : k = 0 ∨ k = 1 ∨ k = 2 ∨ k = 3 ∨ k = 4 := by omega
    clear hk
    rcases hk4 with rfl | rfl | rfl | rfl | rfl
    · obtain ⟨b, hb⟩ : ∃ b, b0 = b := ⟨_, rfl⟩
      have pb := wrapk_i64 b (by have := B0.out; omega) (by have := B0.out; omega)
      have hq := HB.out.1
      have HBB := Lib.hid (show 0 ≤ b ∧ b ≤ 255 by rw [← hb]; exact B0.out)
      rw [hb] at hq
      go_wp2_with (first
        | (go_at_call 15; (with_reducible refine (HI.out b HBB.out _ (HT.out.on (HJ.out.trans (by (first | ((repeat (first | with_reducible exact Junk.refl _ | with_reducible exact Junk.app _ _ _ _ _ | with_reducible apply Junk.alloc | with_reducible apply Junk.junk | with_reducible apply Junk.drew | with_reducible apply Junk.drewN)); done) | ((try simp only [World.junk_junk, Array.append_assoc]); (repeat (first | with_reducible exact Junk.refl _ | with_reducible exact Junk.app _ _ _ _ _ | with_reducible exact Junk.app2 _ _ _ _ _ _ | with_reducible exact Junk.app3 _ _ _ _ _ _ _ | with_reducible exact Junk.app4 _ _ _ _ _ _ _ _ | with_reducible exact Junk.app5 _ _ _ _ _ _ _ _ _ | with_reducible apply Junk.alloc | with_reducible apply Junk.junk | with_reducible apply Junk.drew | with_reducible apply Junk.drewN)))))))).mono ?_); rintro e w' ⟨rfl, ⟨osj, dj, rfl⟩⟩)
        | (at_builtin; (refine ap_own (W0 := w) rfl _ _ 37 rfl 9 (.string ⟨#[]⟩) 1 16 (by kernel_rfl) rfl (by decide) Tryd.underlying37 (HJ.out.trans (by (first | ((repeat (first | with_reducible exact Junk.refl _ | with_reducible exact Junk.app _ _ _ _ _ | with_reducible apply Junk.alloc | with_reducible apply Junk.junk | with_reducible apply Junk.drew | with_reducible apply Junk.drewN)); done) | ((try simp only [World.junk_junk, Array.append_assoc]); (repeat (first | with_reducible exact Junk.refl _ | with_reducible exact Junk.app _ _ _ _ _ | with_reducible exact Junk.app2 _ _ _ _ _ _ | with_reducible exact Junk.app3 _ _ _ _ _ _ _ | with_reducible exact Junk.app4 _ _ _ _ _ _ _ _ | with_reducible exact Junk.app5 _ _ _ _ _ _ _ _ _ | with_reducible apply Junk.alloc | with_reducible apply Junk.junk | with_reducible apply Junk.drew | with_reducible apply Junk.drewN)))))) oq cq 0 ([]) rfl (HO.out.on (by (first | ((repeat (first | with_reducible exact Junk.refl _ | with_reducible exact Junk.app _ _ _ _ _ | with_reducible apply Junk.alloc | with_reducible apply Junk.junk | with_reducible apply Junk.drew | with_reducible apply Junk.drewN)); done) | ((try simp only [World.junk_junk, Array.append_assoc]); (repeat (first | with_reducible exact Junk.refl _ | with_reducible exact Junk.app _ _ _ _ _ | with_reducible exact Junk.app2 _ _ _ _ _ _ | with_reducible exact Junk.app3 _ _ _ _ _ _ _ | with_reducible exact Junk.app4 _ _ _ _ _ _ _ _ | with_reducible exact Junk.app5 _ _ _ _ _ _ _ _ _ | with_reducible apply Junk.alloc | with_reducible apply Junk.junk | with_reducible apply Junk.drew | with_reducible apply Junk.drewN)))))) (some ⟨_, 0, none⟩) 1 1 rfl [.string (itoaS b)] rfl (built_cells (by simp)) (fun h => by cases h) (by intro u hu; simp at hu; subst hu; rfl) (by simp only [maxLen]; omega) (by omega) ?_; intro oz cz os1 d1 hown _; have Hown := Lib.hid hown; clear hown)))
      exact ⟨⟨1, cz, oz, by omega, rfl, by go_num, by (first | ((repeat (first | with_reducible exact Junk.refl _ | with_reducible exact Junk.app _ _ _ _ _ | with_reducible apply Junk.alloc | with_reducible apply Junk.junk | with_reducible apply Junk.drew | with_reducible apply Junk.drewN)); done) | ((try simp only [World.junk_junk, Array.append_assoc]); (repeat (first | with_reducible exact Junk.refl _ | with_reducible exact Junk.app _ _ _ _ _ | with_reducible exact Junk.app2 _ _ _ _ _ _ | with_reducible exact Junk.app3 _ _ _ _ _ _ _ | with_reducible exact Junk.app4 _ _ _ _ _ _ _ _ | with_reducible exact Junk.app5 _ _ _ _ _ _ _ _ _ | with_reducible apply Junk.alloc | with_reducible apply Junk.junk | with_reducible apply Junk.drew | with_reducible apply Junk.drewN)))), Lib.hid (by subst hb; exact Hown.out.on (by (first | ((repeat (first | with_reducible exact Junk.refl _ | with_reducible exact Junk.app _ _ _ _ _ | with_reducible apply Junk.alloc | with_reducible apply Junk.junk | with_reducible apply Junk.drew | with_reducible apply Junk.drewN)); done) | ((try simp only [World.junk_junk, Array.append_assoc]); (repeat (first | with_reducible exact Junk.refl _ | with_reducible exact Junk.app _ _ _ _ _ | with_reducible exact Junk.app2 _ _ _ _ _ _ | with_reducible exact Junk.app3 _ _ _ _ _ _ _ | with_reducible exact Junk.app4 _ _ _ _ _ _ _ _ | with_reducible exact Junk.app5 _ _ _ _ _ _ _ _ _ | with_reducible apply Junk.alloc | with_reducible apply Junk.junk | with_reducible apply Junk.drew | with_reducible apply Junk.drewN))))))⟩, by simp [intOf]⟩
    · obtain ⟨b, hb⟩ : ∃ b, b1 = b := ⟨_, rfl⟩
      have pb := wrapk_i64 b (by have := B1.out; omega) (by have := B1.out; omega)
      have hq := HB.out.2.1
      have HBB := Lib.hid (show 0 ≤ b ∧ b ≤ 255 by rw [← hb]; exact B1.out)
      rw [hb] at hq
      go_wp2_with (first
        | (go_at_call 15; (with_reducible refine (HI.out b HBB.out _ (HT.out.on (HJ.out.trans (by (first | ((repeat (first | with_reducible exact Junk.refl _ | with_reducible exact Junk.app _ _ _ _ _ | with_reducible apply Junk.alloc | with_reducible apply Junk.junk | with_reducible apply Junk.drew | with_reducible apply Junk.drewN)); done) | ((try simp only [World.junk_junk, Array.append_assoc]); (repeat (first | with_reducible exact Junk.refl _ | with_reducible exact Junk.app _ _ _ _ _ | with_reducible exact Junk.app2 _ _ _ _ _ _ | with_reducible exact Junk.app3 _ _ _ _ _ _ _ | with_reducible exact Junk.app4 _ _ _ _ _ _ _ _ | with_reducible exact Junk.app5 _ _ _ _ _ _ _ _ _ | with_reducible apply Junk.alloc | with_reducible apply Junk.junk | with_reducible apply Junk.drew | with_reducible apply Junk.drewN)))))))).mono ?_); rintro e w' ⟨rfl, ⟨osj, dj, rfl⟩⟩)
        | (at_builtin; (refine ap_own (W0 := w) rfl _ _ 37 rfl 9 (.string ⟨#[]⟩) 1 16 (by kernel_rfl) rfl (by decide) Tryd.underlying37 (HJ.out.trans (by (first | ((repeat (first | with_reducible exact Junk.refl _ | with_reducible exact Junk.app _ _ _ _ _ | with_reducible apply Junk.alloc | with_reducible apply Junk.junk | with_reducible apply Junk.drew | with_reducible apply Junk.drewN)); done) | ((try simp only [World.junk_junk, Array.append_assoc]); (repeat (first | with_reducible exact Junk.refl _ | with_reducible exact Junk.app _ _ _ _ _ | with_reducible exact Junk.app2 _ _ _ _ _ _ | with_reducible exact Junk.app3 _ _ _ _ _ _ _ | with_reducible exact Junk.app4 _ _ _ _ _ _ _ _ | with_reducible exact Junk.app5 _ _ _ _ _ _ _ _ _ | with_reducible apply Junk.alloc | with_reducible apply Junk.junk | with_reducible apply Junk.drew | with_reducible apply Junk.drewN)))))) oq cq 1 ([.string (itoaS b0)]) rfl (HO.out.on (by (first | ((repeat (first | with_reducible exact Junk.refl _ | with_reducible exact Junk.app _ _ _ _ _ | with_reducible apply Junk.alloc | with_reducible apply Junk.junk | with_reducible apply Junk.drew | with_reducible apply Junk.drewN)); done) | ((try simp only [World.junk_junk, Array.append_assoc]); (repeat (first | with_reducible exact Junk.refl _ | with_reducible exact Junk.app _ _ _ _ _ | with_reducible exact Junk.app2 _ _ _ _ _ _ | with_reducible exact Junk.app3 _ _ _ _ _ _ _ | with_reducible exact Junk.app4 _ _ _ _ _ _ _ _ | with_reducible exact Junk.app5 _ _ _ _ _ _ _ _ _ | with_reducible apply Junk.alloc | with_reducible apply Junk.junk | with_reducible apply Junk.drew | with_reducible apply Junk.drewN)))))) (some ⟨_, 0, none⟩) 1 1 rfl [.string (itoaS b)] rfl (built_cells (by simp)) (fun h => by cases h) (by intro u hu; simp at hu; subst hu; rfl) (by simp only [maxLen]; omega) (by omega) ?_; intro oz cz os1 d1 hown _; have Hown := Lib.hid hown; clear hown)))
      exact ⟨⟨2, cz, oz, by omega, rfl, by go_num, by (first | ((repeat (first | with_reducible exact Junk.refl _ | with_reducible exact Junk.app _ _ _ _ _ | with_reducible apply Junk.alloc | with_reducible apply Junk.junk | with_reducible apply Junk.drew | with_reducible apply Junk.drewN)); done) | ((try simp only [World.junk_junk, Array.append_assoc]); (repeat (first | with_reducible exact Junk.refl _ | with_reducible exact Junk.app _ _ _ _ _ | with_reducible exact Junk.app2 _ _ _ _ _ _ | with_reducible exact Junk.app3 _ _ _ _ _ _ _ | with_reducible exact Junk.app4 _ _ _ _ _ _ _ _ | with_reducible exact Junk.app5 _ _ _ _ _ _ _ _ _ | with_reducible apply Junk.alloc | with_reducible apply Junk.junk | with_reducible apply Junk.drew | with_reducible apply Junk.drewN)))), Lib.hid (by subst hb; exact Hown.out.on (by (first | ((repeat (first | with_reducible exact Junk.refl _ | with_reducible exact Junk.app _ _ _ _ _ | with_reducible apply Junk.alloc | with_reducible apply Junk.junk | with_reducible apply Junk.drew | with_reducible apply Junk.drewN)); done) | ((try simp only [World.junk_junk, Array.append_assoc]); (repeat (first | with_reducible exact Junk.refl _ | with_reducible exact Junk.app _ _ _ _ _ | with_reducible exact Junk.app2 _ _ _ _ _ _ | with_reducible exact Junk.app3 _ _ _ _ _ _ _ | with_reducible exact Junk.app4 _ _ _ _ _ _ _ _ | with_reducible exact Junk.app5 _ _ _ _ _ _ _ _ _ | with_reducible apply Junk.alloc | with_reducible apply Junk.junk | with_reducible apply Junk.drew | with_reducible apply Junk.drewN))))))⟩, by simp [intOf]⟩
    · obtain ⟨b, hb⟩ : ∃ b, b2 = b := ⟨_, rfl⟩
      have pb := wrapk_i64 b (by have := B2.out; omega) (by have := B2.out; omega)
      have hq := HB.out.2.2.1
      have HBB := Lib.hid (show 0 ≤ b ∧ b ≤ 255 by rw [← hb]; exact B2.out)
      rw [hb] at hq
      go_wp2_with (first
        | (go_at_call 15; (with_reducible refine (HI.out b HBB.out _ (HT.out.on (HJ.out.trans (by (first | ((repeat (first | with_reducible exact Junk.refl _ | with_reducible exact Junk.app _ _ _ _ _ | with_reducible apply Junk.alloc | with_reducible apply Junk.junk | with_reducible apply Junk.drew | with_reducible apply Junk.drewN)); done) | ((try simp only [World.junk_junk, Array.append_assoc]); (repeat (first | with_reducible exact Junk.refl _ | with_reducible exact Junk.app _ _ _ _ _ | with_reducible exact Junk.app2 _ _ _ _ _ _ | with_reducible exact Junk.app3 _ _ _ _ _ _ _ | with_reducible exact Junk.app4 _ _ _ _ _ _ _ _ | with_reducible exact Junk.app5 _ _ _ _ _ _ _ _ _ | with_reducible apply Junk.alloc | with_reducible apply Junk.junk | with_reducible apply Junk.drew | with_reducible apply Junk.drewN)))))))).mono ?_); rintro e w' ⟨rfl, ⟨osj, dj, rfl⟩⟩)
        | (at_builtin; (refine ap_own (W0 := w) rfl _ _ 37 rfl 9 (.string ⟨#[]⟩) 1 16 (by kernel_rfl) rfl (by decide) Tryd.underlying37 (HJ.out.trans (by (first | ((repeat (first | with_reducible exact Junk.refl _ | with_reducible exact Junk.app _ _ _ _ _ | with_reducible apply Junk.alloc | with_reducible apply Junk.junk | with_reducible apply Junk.drew | with_reducible apply Junk.drewN)); done) | ((try simp only [World.junk_junk, Array.append_assoc]); (repeat (first | with_reducible exact Junk.refl _ | with_reducible exact Junk.app _ _ _ _ _ | with_reducible exact Junk.app2 _ _ _ _ _ _ | with_reducible exact Junk.app3 _ _ _ _ _ _ _ | with_reducible exact Junk.app4 _ _ _ _ _ _ _ _ | with_reducible exact Junk.app5 _ _ _ _ _ _ _ _ _ | with_reducible apply Junk.alloc | with_reducible apply Junk.junk | with_reducible apply Junk.drew | with_reducible apply Junk.drewN)))))) oq cq 2 ([.string (itoaS b0), .string (itoaS b1)]) rfl (HO.out.on (by (first | ((repeat (first | with_reducible exact Junk.refl _ | with_reducible exact Junk.app _ _ _ _ _ | with_reducible apply Junk.alloc | with_reducible apply Junk.junk | with_reducible apply Junk.drew | with_reducible apply Junk.drewN)); done) | ((try simp only [World.junk_junk, Array.append_assoc]); (repeat (first | with_reducible exact Junk.refl _ | with_reducible exact Junk.app _ _ _ _ _ | with_reducible exact Junk.app2 _ _ _ _ _ _ | with_reducible exact Junk.app3 _ _ _ _ _ _ _ | with_reducible exact Junk.app4 _ _ _ _ _ _ _ _ | with_reducible exact Junk.app5 _ _ _ _ _ _ _ _ _ | with_reducible apply Junk.alloc | with_reducible apply Junk.junk | with_reducible apply Junk.drew | with_reducible apply Junk.drewN)))))) (some ⟨_, 0, none⟩) 1 1 rfl [.string (itoaS b)] rfl (built_cells (by simp)) (fun h => by cases h) (by intro u hu; simp at hu; subst hu; rfl) (by simp only [maxLen]; omega) (by omega) ?_; intro oz cz os1 d1 hown _; have Hown := Lib.hid hown; clear hown)))
      exact ⟨⟨3, cz, oz, by omega, rfl, by go_num, by (first | ((repeat (first | with_reducible exact Junk.refl _ | with_reducible exact Junk.app _ _ _ _ _ | with_reducible apply Junk.alloc | with_reducible apply Junk.junk | with_reducible apply Junk.drew | with_reducible apply Junk.drewN)); done) | ((try simp only [World.junk_junk, Array.append_assoc]); (repeat (first | with_reducible exact Junk.refl _ | with_reducible exact Junk.app _ _ _ _ _ | with_reducible exact Junk.app2 _ _ _ _ _ _ | with_reducible exact Junk.app3 _ _ _ _ _ _ _ | with_reducible exact Junk.app4 _ _ _ _ _ _ _ _ | with_reducible exact Junk.app5 _ _ _ _ _ _ _ _ _ | with_reducible apply Junk.alloc | with_reducible apply Junk.junk | with_reducible apply Junk.drew | with_reducible apply Junk.drewN)))), Lib.hid (by subst hb; exact Hown.out.on (by (first | ((repeat (first | with_reducible exact Junk.refl _ | with_reducible exact Junk.app _ _ _ _ _ | with_reducible apply Junk.alloc | with_reducible apply Junk.junk | with_reducible apply Junk.drew | with_reducible apply Junk.drewN)); done) | ((try simp only [World.junk_junk, Array.append_assoc]); (repeat (first | with_reducible exact Junk.refl _ | with_reducible exact Junk.app _ _ _ _ _ | with_reducible exact Junk.app2 _ _ _ _ _ _ | with_reducible exact Junk.app3 _ _ _ _ _ _ _ | with_reducible exact Junk.app4 _ _ _ _ _ _ _ _ | with_reducible exact Junk.app5 _ _ _ _ _ _ _ _ _ | with_reducible apply Junk.alloc | with_reducible apply Junk.junk | with_reducible apply Junk.drew | with_reducible apply Junk.drewN))))))⟩, by simp [intOf]⟩
    · obtain ⟨b, hb⟩ : ∃ b, b3 = b := ⟨_, rfl⟩
      have pb := wrapk_i64 b (by have := B3.out; omega) (by have := B3.out; omega)
      have hq := HB.out.2.2.2
      have HBB := Lib.hid (show 0 ≤ b ∧ b ≤ 255 by rw [← hb]; exact B3.out)
      rw [hb] at hq
      go_wp2_with (first
        | (go_at_call 15; (with_reducible refine (HI.out b HBB.out _ (HT.out.on (HJ.out.trans (by (first | ((repeat (first | with_reducible exact Junk.refl _ | with_reducible exact Junk.app _ _ _ _ _ | with_reducible apply Junk.alloc | with_reducible apply Junk.junk | with_reducible apply Junk.drew | with_reducible apply Junk.drewN)); done) | ((try simp only [World.junk_junk, Array.append_assoc]); (repeat (first | with_reducible exact Junk.refl _ | with_reducible exact Junk.app _ _ _ _ _ | with_reducible exact Junk.app2 _ _ _ _ _ _ | with_reducible exact Junk.app3 _ _ _ _ _ _ _ | with_reducible exact Junk.app4 _ _ _ _ _ _ _ _ | with_reducible exact Junk.app5 _ _ _ _ _ _ _ _ _ | with_reducible apply Junk.alloc | with_reducible apply Junk.junk | with_reducible apply Junk.drew | with_reducible apply Junk.drewN)))))))).mono ?_); rintro e w' ⟨rfl, ⟨osj, dj, rfl⟩⟩)
        | (at_builtin; (refine ap_own (W0 := w) rfl _ _ 37 rfl 9 (.string ⟨#[]⟩) 1 16 (by kernel_rfl) rfl (by decide) Tryd.underlying37 (HJ.out.trans (by (first | ((repeat (first | with_reducible exact Junk.refl _ | with_reducible exact Junk.app _ _ _ _ _ | with_reducible apply Junk.alloc | with_reducible apply Junk.junk | with_reducible apply Junk.drew | with_reducible apply Junk.drewN)); done) | ((try simp only [World.junk_junk, Array.append_assoc]); (repeat (first | with_reducible exact Junk.refl _ | with_reducible exact Junk.app _ _ _ _ _ | with_reducible exact Junk.app2 _ _ _ _ _ _ | with_reducible exact Junk.app3 _ _ _ _ _ _ _ | with_reducible exact Junk.app4 _ _ _ _ _ _ _ _ | with_reducible exact Junk.app5 _ _ _ _ _ _ _ _ _ | with_reducible apply Junk.alloc | with_reducible apply Junk.junk | with_reducible apply Junk.drew | with_reducible apply Junk.drewN)))))) oq cq 3 ([.string (itoaS b0), .string (itoaS b1), .string (itoaS b2)]) rfl (HO.out.on (by (first | ((repeat (first | with_reducible exact Junk.refl _ | with_reducible exact Junk.app _ _ _ _ _ | with_reducible apply Junk.alloc | with_reducible apply Junk.junk | with_reducible apply Junk.drew | with_reducible apply Junk.drewN)); done) | ((try simp only [World.junk_junk, Array.append_assoc]); (repeat (first | with_reducible exact Junk.refl _ | with_reducible exact Junk.app _ _ _ _ _ | with_reducible exact Junk.app2 _ _ _ _ _ _ | with_reducible exact Junk.app3 _ _ _ _ _ _ _ | with_reducible exact Junk.app4 _ _ _ _ _ _ _ _ | with_reducible exact Junk.app5 _ _ _ _ _ _ _ _ _ | with_reducible apply Junk.alloc | with_reducible apply Junk.junk | with_reducible apply Junk.drew | with_reducible apply Junk.drewN)))))) (some ⟨_, 0, none⟩) 1 1 rfl [.string (itoaS b)] rfl (built_cells (by simp)) (fun h => by cases h) (by intro u hu; simp at hu; subst hu; rfl) (by simp only [maxLen]; omega) (by omega) ?_; intro oz cz os1 d1 hown _; have Hown := Lib.hid hown; clear hown)))
      exact ⟨⟨4, cz, oz, by omega, rfl, by go_num, by (first | ((repeat (first | with_reducible exact Junk.refl _ | with_reducible exact Junk.app _ _ _ _ _ | with_reducible apply Junk.alloc | with_reducible apply Junk.junk | with_reducible apply Junk.drew | with_reducible apply Junk.drewN)); done) | ((try simp only [World.junk_junk, Array.append_assoc]); (repeat (first | with_reducible exact Junk.refl _ | with_reducible exact Junk.app _ _ _ _ _ | with_reducible exact Junk.app2 _ _ _ _ _ _ | with_reducible exact Junk.app3 _ _ _ _ _ _ _ | with_reducible exact Junk.app4 _ _ _ _ _ _ _ _ | with_reducible exact Junk.app5 _ _ _ _ _ _ _ _ _ | with_reducible apply Junk.alloc | with_reducible apply Junk.junk | with_reducible apply Junk.drew | with_reducible apply Junk.drewN)))), Lib.hid (by subst hb; exact Hown.out.on (by (first | ((repeat (first | with_reducible exact Junk.refl _ | with_reducible exact Junk.app _ _ _ _ _ | with_reducible apply Junk.alloc | with_reducible apply Junk.junk | with_reducible apply Junk.drew | with_reducible apply Junk.drewN)); done) | ((try simp only [World.junk_junk, Array.append_assoc]); (repeat (first | with_reducible exact Junk.refl _ | with_reducible exact Junk.app _ _ _ _ _ | with_reducible exact Junk.app2 _ _ _ _ _ _ | with_reducible exact Junk.app3 _ _ _ _ _ _ _ | with_reducible exact Junk.app4 _ _ _ _ _ _ _ _ | with_reducible exact Junk.app5 _ _ _ _ _ _ _ _ _ | with_reducible apply Junk.alloc | with_reducible apply Junk.junk | with_reducible apply Junk.drew | with_reducible apply Junk.drewN))))))⟩, by simp [intOf]⟩
    · have HJN := Lib.hid (fun w1 (ho : Own w.heap.size w1 9 1 oq cq 4 ([itoaS b0, itoaS b1, itoaS b2, itoaS b3].map Value.string)) => show Calls Tryd.prog 21 #[.slice oq 4 cq, .string ⟨#[46]⟩] w1 fun e w' => e = .returned (.string (joinS [itoaS b0, itoaS b1, itoaS b2, itoaS b3] ⟨#[46]⟩)) ∧ Junk w1 w' from joins_any oq cq w.heap.size [itoaS b0, itoaS b1, itoaS b2, itoaS b3] ⟨#[46]⟩ w1 ho (by simp) (by simp) HL.out)
      go_wp2_with (first | (go_at_call 21; (with_reducible refine (HJN.out _ (HO.out.on (by (first | ((repeat (first | with_reducible exact Junk.refl _ | with_reducible exact Junk.app _ _ _ _ _ | with_reducible apply Junk.alloc | with_reducible apply Junk.junk | with_reducible apply Junk.drew | with_reducible apply Junk.drewN)); done) | ((try simp only [World.junk_junk, Array.append_assoc]); (repeat (first | with_reducible exact Junk.refl _ | with_reducible exact Junk.app _ _ _ _ _ | with_reducible exact Junk.app2 _ _ _ _ _ _ | with_reducible exact Junk.app3 _ _ _ _ _ _ _ | with_reducible exact Junk.app4 _ _ _ _ _ _ _ _ | with_reducible exact Junk.app5 _ _ _ _ _ _ _ _ _ | with_reducible apply Junk.alloc | with_reducible apply Junk.junk | with_reducible apply Junk.drew | with_reducible apply Junk.drewN))))))).mono ?_); rintro e w' ⟨rfl, ⟨osj, dj, rfl⟩⟩))
      go_ret
      exact ⟨by rw [HE.out]; rfl, HJ.out.trans (by (first | ((repeat (first | with_reducible exact Junk.refl _ | with_reducible exact Junk.app _ _ _ _ _ | with_reducible apply Junk.alloc | with_reducible apply Junk.junk | with_reducible apply Junk.drew | with_reducible apply Junk.drewN)); done) | ((try simp only [World.junk_junk, Array.append_assoc]); (repeat (first | with_reducible exact Junk.refl _ | with_reducible exact Junk.app _ _ _ _ _ | with_reducible exact Junk.app2 _ _ _ _ _ _ | with_reducible exact Junk.app3 _ _ _ _ _ _ _ | with_reducible exact Junk.app4 _ _ _ _ _ _ _ _ | with_reducible exact Junk.app5 _ _ _ _ _ _ _ _ _ | with_reducible apply Junk.alloc | with_reducible apply Junk.junk | with_reducible apply Junk.drew | with_reducible apply Junk.drewN)))))⟩
def sideS (a port : Int) : ByteArray := adrS a ++ ⟨#[58]⟩ ++ itoaS port
set_option maxRecDepth 100000 in
theorem side_any (a port : Int) (h : 0 ≤ a ∧ a ≤ 4294967295) (hp : 0 ≤ port ∧ port ≤ 65535) (w : World) (ht : PowT w) : Calls Tryd.prog 42 #[.int .u32 a, .int .i64 port] w fun e w' => e = .returned (.string (sideS a port)) ∧ Junk w w' := by
  have HT := Lib.hid ht
  have HA := Lib.hid (fun w1 hp => dadr_any a h w1 hp)
  have HI := Lib.hid (fun w1 hp => itoa_any port (by omega) w1 hp)
  have s0 := adrS_size h
  have s1 := itoaS_size (n := port) (by omega)
  have z1 : ¬ 9223372036854775807 < (adrS a).size + 1 := by omega
  have z2 : ¬ 9223372036854775807 < (adrS a).size + 1 + (itoaS port).size := by omega
  clear ht s0 s1
  go_enter Tryd.func42, Tryd.ntmps42
  go_wp2_with (first | (go_at_call 9; (with_reducible refine (HA.out _ (HT.out.on (by (first | ((repeat (first | with_reducible exact Junk.refl _ | with_reducible exact Junk.app _ _ _ _ _ | with_reducible apply Junk.alloc | with_reducible apply Junk.junk | with_reducible apply Junk.drew | with_reducible apply Junk.drewN)); done) | ((try simp only [World.junk_junk, Array.append_assoc]); (repeat (first | with_reducible exact Junk.refl _ | with_reducible exact Junk.app _ _ _ _ _ | with_reducible exact Junk.app2 _ _ _ _ _ _ | with_reducible exact Junk.app3 _ _ _ _ _ _ _ | with_reducible exact Junk.app4 _ _ _ _ _ _ _ _ | with_reducible exact Junk.app5 _ _ _ _ _ _ _ _ _ | with_reducible apply Junk.alloc | with_reducible apply Junk.junk | with_reducible apply Junk.drew | with_reducible apply Junk.drewN))))))).mono ?_); rintro e w' ⟨rfl, ⟨osj, dj, rfl⟩⟩) | (go_at_call 15; (with_reducible refine (HI.out _ (HT.out.on (by (first | ((repeat (first | with_reducible exact Junk.refl _ | with_reducible exact Junk.app _ _ _ _ _ | with_reducible apply Junk.alloc | with_reducible apply Junk.junk | with_reducible apply Junk.drew | with_reducible apply Junk.drewN)); done) | ((try simp only [World.junk_junk, Array.append_assoc]); (repeat (first | with_reducible exact Junk.refl _ | with_reducible exact Junk.app _ _ _ _ _ | with_reducible exact Junk.app2 _ _ _ _ _ _ | with_reducible exact Junk.app3 _ _ _ _ _ _ _ | with_reducible exact Junk.app4 _ _ _ _ _ _ _ _ | with_reducible exact Junk.app5 _ _ _ _ _ _ _ _ _ | with_reducible apply Junk.alloc | with_reducible apply Junk.junk | with_reducible apply Junk.drew | with_reducible apply Junk.drewN))))))).mono ?_); rintro e w' ⟨rfl, ⟨osj, dj, rfl⟩⟩))
  go_ret
  exact ⟨rfl, by (first | ((repeat (first | with_reducible exact Junk.refl _ | with_reducible exact Junk.app _ _ _ _ _ | with_reducible apply Junk.alloc | with_reducible apply Junk.junk | with_reducible apply Junk.drew | with_reducible apply Junk.drewN)); done) | ((try simp only [World.junk_junk, Array.append_assoc]); (repeat (first | with_reducible exact Junk.refl _ | with_reducible exact Junk.app _ _ _ _ _ | with_reducible exact Junk.app2 _ _ _ _ _ _ | with_reducible exact Junk.app3 _ _ _ _ _ _ _ | with_reducible exact Junk.app4 _ _ _ _ _ _ _ _ | with_reducible exact Junk.app5 _ _ _ _ _ _ _ _ _ | with_reducible apply Junk.alloc | with_reducible apply Junk.junk | with_reducible apply Junk.drew | with_reducible apply Junk.drewN))))⟩
end Go.Proofs.YtfkhnhenemgcmaaDoor
set_option linter.unusedVariables false
set_option maxRecDepth 100000
set_option linter.unusedSimpArgs false
namespace Go.Proofs.YtfkhnhenemgcmaaDoor
open Go.RowKit
def ltS : ByteArray := ⟨#[67, 69, 85, 65, 80, 82, 83, 70]⟩
def ltC (k : Nat) : UInt8 := #[67, 69, 85, 65, 80, 82, 83, 70].getD k 0
def flB (f : Int) (k : Nat) : Bool := f / (2 : Int) ^ (7 - k) % 2 == 1
def flS (f : Int) : Nat → ByteArray
  | 0 => ⟨#[]⟩
  | k + 1 => if flB f k then flS f k ++ ⟨#[ltC k]⟩ else flS f k
theorem flS_size (f : Int) : ∀ k, (flS f k).size ≤ k
  | 0 => Nat.le_refl 0
  | k + 1 => by
    have := flS_size f k
    rw [flS]
    split
    · rw [ByteArray.size_append]
      have h1 : (⟨#[ltC k]⟩ : ByteArray).size = 1 := rfl
      omega
    · omega
def flagsS (f : Int) : ByteArray := if (flS f 8).toList.isEmpty = true then ⟨#[45]⟩ else flS f 8
theorem flS_next {f : Int} {k : Nat} (b : Bool) (h : flB f k = b) : flS f (k + 1) = if b = true then flS f k ++ ⟨#[ltC k]⟩ else flS f k := by rw [flS, h]
theorem next_lt (w : World) (k : Nat) (hk : k < 8) (c : Int) (hc : c = (ltC k).toNat) :
    (Instr.next (.pointer (some ⟨w.heap.size, 0, none⟩)) true 0).run Tryd.prog (w.iter ltS k) = .ok (.tuple #[.bool true, .int .i64 k, .int .i32 c]) (w.iter ltS (k + 1)) := by
  subst hc
  have h : k < ltS.size := hk
  have e : ltS[k]'h = ltC k := by
    rcases (by omega : k = 0 ∨ k = 1 ∨ k = 2 ∨ k = 3 ∨ k = 4 ∨ k = 5 ∨ k = 6 ∨ k = 7) with rfl | rfl | rfl | rfl | rfl | rfl | rfl | rfl <;> rfl
  rw [← e]
  exact run_next_ascii w ltS k 0 h (by rw [e]; have : ∀ k, k < 8 → (ltC k).toNat < 128 := by decide +kernel
                                       exact this k hk)
theorem next_no (w : World) : (Instr.next (.pointer (some ⟨w.heap.size, 0, none⟩)) true 0).run Tryd.prog (w.iter ltS 8) = .ok (.tuple #[.bool false]) (w.iter ltS 8) :=
  run_next_end w ltS 8 0 (by decide)
def itPos (w wr : World) : Nat := match wr.heap[w.heap.size]? with
  | some (.stringIter _ p) => p
  | _ => 0
theorem itPos_iter (w : World) (s : ByteArray) (k : Nat) : itPos w (w.iter s k) = k := by unfold itPos; rw [World.iter_heap]
set_option maxRecDepth 100000 in
set_option maxHeartbeats 8000000 in
theorem flags_any (f : Int) (h0 : 0 ≤ f ∧ f ≤ 255) (w : World) : Calls Tryd.prog 63 #[.int .i64 f] w fun e w' => e = .returned (.string (flagsS f)) ∧ Junk w w' := by
  have HF := Lib.hid h0
  clear h0
  go_enter Tryd.func63, Tryd.ntmps63
  go_wp2
  go_loopw [3] (fun s wr => ∃ k : Nat, k ≤ 8 ∧ s = .string (flS f k) ∧ wr = w.iter ltS k) (fun _ wr => 9 - itPos w wr)
  case atStart => exact ⟨0, by omega, rfl, rfl⟩
  case round =>
    obtain ⟨k, hk, rfl, rfl⟩ := hrel
    by_cases h8 : k = 8
    · subst h8
      have hn := next_no w
      have Hs := Lib.hid (flS_size f 8)
      cases hx : (flS f 8).toList.isEmpty with
      | true =>
        have HE := Lib.hid (show flagsS f = ⟨#[45]⟩ by unfold flagsS; rw [if_pos hx])
        generalize flS f 8 = S at hx ⊢
        go_wp2
        go_ret
        exact ⟨by rw [HE.out]; rfl, (Junk.refl w).alloc _⟩
      | false =>
        have HE := Lib.hid (show flagsS f = flS f 8 by unfold flagsS; rw [if_neg (by rw [hx]; decide)])
        generalize flS f 8 = S at hx HE ⊢
        go_wp2
        go_ret
        exact ⟨by rw [HE.out]; rfl, (Junk.refl w).alloc _⟩
    · have hk8 : k = 0 ∨ k = 1 ∨ k = 2 ∨ k = 3 ∨ k = 4 ∨ k = 5 ∨ k = 6 ∨ k = 7 := by omega
      have Hd := Lib.hid (show 9 - itPos w (w.iter ltS (k + 1)) < 9 - itPos w (w.iter ltS k) by rw [itPos_iter, itPos_iter]; omega)
      have hz : ¬ 9223372036854775807 < (flS f k).size + 1 := by have := flS_size f k; omega
      clear h8 hk
      rcases hk8 with rfl | rfl | rfl | rfl | rfl | rfl | rfl | rfl
      · have hn := next_lt w 0 (by omega) 67 (by decide)
        have he : Utf8.encode 67 = ⟨#[67]⟩ := by decide +kernel
        cases hb : flB f 0 with
        | true =>
          have HN := Lib.hid (flS_next true hb)
          unfold flB at hb
          have hq : bits .and .i64 (f / 128) 1 = 1 := by rw [and_i64_1 _ (by have := HF.out; omega) (by have := HF.out; omega)]; simpa using hb
          generalize flS f 0 = S at hz HN ⊢
          clear hb
          go_wp2
          exact ⟨⟨1, by omega, by rw [HN.out]; rfl, rfl⟩, Hd.out⟩
        | false =>
          have HN := Lib.hid (flS_next false hb)
          unfold flB at hb
          have hq : bits .and .i64 (f / 128) 1 = 0 := by rw [and_i64_1 _ (by have := HF.out; omega) (by have := HF.out; omega)]; simp at hb; omega
          generalize flS f 0 = S at hz HN ⊢
          clear hb
          go_wp2
          exact ⟨⟨1, by omega, by rw [HN.out]; rfl, rfl⟩, Hd.out⟩
      · have hn := next_lt w 1 (by omega) 69 (by decide)
        have he : Utf8.encode 69 = ⟨#[69]⟩ := by decide +kernel
        cases hb : flB f 1 with
        | true =>
          have HN := Lib.hid (flS_next true hb)
          unfold flB at hb
          have hq : bits .and .i64 (f / 64) 1 = 1 := by rw [and_i64_1 _ (by have := HF.out; omega) (by have := HF.out; omega)]; simpa using hb
          generalize flS f 1 = S at hz HN ⊢
          clear hb
          go_wp2
          exact ⟨⟨2, by omega, by rw [HN.out]; rfl, rfl⟩, Hd.out⟩
        | false =>
          have HN := Lib.hid (flS_next false hb)
          unfold flB at hb
          have hq : bits .and .i64 (f / 64) 1 = 0 := by rw [and_i64_1 _ (by have := HF.out; omega) (by have := HF.out; omega)]; simp at hb; omega
          generalize flS f 1 = S at hz HN ⊢
          clear hb
          go_wp2
          exact ⟨⟨2, by omega, by rw [HN.out]; rfl, rfl⟩, Hd.out⟩
      · have hn := next_lt w 2 (by omega) 85 (by decide)
        have he : Utf8.encode 85 = ⟨#[85]⟩ := by decide +kernel
        cases hb : flB f 2 with
        | true =>
          have HN := Lib.hid (flS_next true hb)
          unfold flB at hb
          have hq : bits .and .i64 (f / 32) 1 = 1 := by rw [and_i64_1 _ (by have := HF.out; omega) (by have := HF.out; omega)]; simpa using hb
          generalize flS f 2 = S at hz HN ⊢
          clear hb
          go_wp2
          exact ⟨⟨3, by omega, by rw [HN.out]; rfl, rfl⟩, Hd.out⟩
        | false =>
          have HN := Lib.hid (flS_next false hb)
          unfold flB at hb
          have hq : bits .and .i64 (f / 32) 1 = 0 := by rw [and_i64_1 _ (by have := HF.out; omega) (by have := HF.out; omega)]; simp at hb; omega
          generalize flS f 2 = S at hz HN ⊢
          clear hb
          go_wp2
          exact ⟨⟨3, by omega, by rw [HN.out]; rfl, rfl⟩, Hd.out⟩
      · have hn := next_lt w 3 (by omega) 65 (by decide)
        have he : Utf8.encode 65 = ⟨#[65]⟩ := by decide +kernel
        cases hb : flB f 3 with
        | true =>
          have HN := Lib.hid (flS_next true hb)
          unfold flB at hb
          have hq : bits .and .i64 (f / 16) 1 = 1 := by rw [and_i64_1 _ (by have := HF.out; omega) (by have := HF.out; omega)]; simpa using hb
          generalize flS f 3 = S at hz HN ⊢
          clear hb
          go_wp2
          exact ⟨⟨4, by omega, by rw [HN.out]; rfl, rfl⟩, Hd.out⟩
        | false =>
          have HN := Lib.hid (flS_next false hb)
          unfold flB at hb
          have hq : bits .and .i64 (f / 16) 1 = 0 := by rw [and_i64_1 _ (by have := HF.out; omega) (by have := HF.out; omega)]; simp at hb; omega
          generalize flS f 3 = S at hz HN ⊢
          clear hb
          go_wp2
          exact ⟨⟨4, by omega, by rw [HN.out]; rfl, rfl⟩, Hd.out⟩
      · have hn := next_lt w 4 (by omega) 80 (by decide)
        have he : Utf8.encode 80 = ⟨#[80]⟩ := by decide +kernel
        cases hb : flB f 4 with
        | true =>
          have HN := Lib.hid (flS_next true hb)
          unfold flB at hb
          have hq : bits .and .i64 (f / 8) 1 = 1 := by rw [and_i64_1 _ (by have := HF.out; omega) (by have := HF.out; omega)]; simpa using hb
          generalize flS f 4 = S at hz HN ⊢
          clear hb
          go_wp2
          exact ⟨⟨5, by omega, by rw [HN.out]; rfl, rfl⟩, Hd.out⟩
        | false =>
          have HN := Lib.hid (flS_next false hb)
          unfold flB at hb
          have hq : bits .and .i64 (f / 8) 1 = 0 := by rw [and_i64_1 _ (by have := HF.out; omega) (by have := HF.out; omega)]; simp at hb; omega
          generalize flS f 4 = S at hz HN ⊢
          clear hb
          go_wp2
          exact ⟨⟨5, by omega, by rw [HN.out]; rfl, rfl⟩, Hd.out⟩
      · have hn := next_lt w 5 (by omega) 82 (by decide)
        have he : Utf8.encode 82 = ⟨#[82]⟩ := by decide +kernel
        cases hb : flB f 5 with
        | true =>
          have HN := Lib.hid (flS_next true hb)
          unfold flB at hb
          have hq : bits .and .i64 (f / 4) 1 = 1 := by rw [and_i64_1 _ (by have := HF.out; omega) (by have := HF.out; omega)]; simpa using hb
          generalize flS f 5 = S at hz HN ⊢
          clear hb
          go_wp2
          exact ⟨⟨6, by omega, by rw [HN.out]; rfl, rfl⟩, Hd.out⟩
        | false =>
          have HN := Lib.hid (flS_next false hb)
          unfold flB at hb
          have hq : bits .and .i64 (f / 4) 1 = 0 := by rw [and_i64_1 _ (by have := HF.out; omega) (by have := HF.out; omega)]; simp at hb; omega
          generalize flS f 5 = S at hz HN ⊢
          clear hb
          go_wp2
          exact ⟨⟨6, by omega, by rw [HN.out]; rfl, rfl⟩, Hd.out⟩
      · have hn := next_lt w 6 (by omega) 83 (by decide)
        have he : Utf8.encode 83 = ⟨#[83]⟩ := by decide +kernel
        cases hb : flB f 6 with
        | true =>
          have HN := Lib.hid (flS_next true hb)
          unfold flB at hb
          have hq : bits .and .i64 (f / 2) 1 = 1 := by rw [and_i64_1 _ (by have := HF.out; omega) (by have := HF.out; omega)]; simpa using hb
          generalize flS f 6 = S at hz HN ⊢
          clear hb
          go_wp2
          exact ⟨⟨7, by omega, by rw [HN.out]; rfl, rfl⟩, Hd.out⟩
        | false =>
          have HN := Lib.hid (flS_next false hb)
          unfold flB at hb
          have hq : bits .and .i64 (f / 2) 1 = 0 := by rw [and_i64_1 _ (by have := HF.out; omega) (by have := HF.out; omega)]; simp at hb; omega
          generalize flS f 6 = S at hz HN ⊢
          clear hb
          go_wp2
          exact ⟨⟨7, by omega, by rw [HN.out]; rfl, rfl⟩, Hd.out⟩
      · have hn := next_lt w 7 (by omega) 70 (by decide)
        have he : Utf8.encode 70 = ⟨#[70]⟩ := by decide +kernel
        cases hb : flB f 7 with
        | true =>
          have HN := Lib.hid (flS_next true hb)
          unfold flB at hb
          have hq : bits .and .i64 f 1 = 1 := by rw [and_i64_1 _ (by have := HF.out; omega) (by have := HF.out; omega)]; simpa using hb
          generalize flS f 7 = S at hz HN ⊢
          clear hb
          go_wp2
          exact ⟨⟨8, by omega, by rw [HN.out]; rfl, rfl⟩, Hd.out⟩
        | false =>
          have HN := Lib.hid (flS_next false hb)
          unfold flB at hb
          have hq : bits .and .i64 f 1 = 0 := by rw [and_i64_1 _ (by have := HF.out; omega) (by have := HF.out; omega)]; simp at hb; omega
          generalize flS f 7 = S at hz HN ⊢
          clear hb
          go_wp2
          exact ⟨⟨8, by omega, by rw [HN.out]; rfl, rfl⟩, Hd.out⟩
def pw7 (k : Nat) : Int := (2 : Int) ^ (7 - k)
theorem pw7_half : ∀ k, k < 7 → pw7 k / 2 = pw7 (k + 1) := by decide +kernel
theorem pw7_bd : ∀ k, k < 8 → 1 ≤ pw7 k ∧ pw7 k ≤ 128 := by decide +kernel
theorem pw7_and {f : Int} (h0 : 0 ≤ f ∧ f ≤ 255) (k : Nat) : bits .and .i64 f (pw7 k) = if flB f k = true then pw7 k else 0 := by
  unfold pw7 flB
  rw [and_bit (7 - k) (by omega) f h0.1 (by omega)]
  have : f / 2 ^ (7 - k) % 2 = 0 ∨ f / 2 ^ (7 - k) % 2 = 1 := by omega
  rcases this with h | h <;> simp [h]
theorem ltS_ext : ∀ k, k < 8 → (⟨#[67, 69, 85, 65, 80, 82, 83, 70]⟩ : ByteArray).extract k (k + 1) = ⟨#[ltC k]⟩ := by decide +kernel
set_option maxRecDepth 100000 in
set_option maxHeartbeats 8000000 in
theorem rletters_any (f : Int) (h0 : 0 ≤ f ∧ f ≤ 255) (w : World) : Calls Tryd.prog 25 #[.int .i64 f] w fun e w' => e = .returned (.string (flagsS f)) ∧ Junk w w' := by
  have HF := Lib.hid h0
  clear h0
  go_enter Tryd.func25, Tryd.ntmps25
  go_wp2
  go_loop [3, 4] (fun s i => ∃ k : Nat, k ≤ 8 ∧ s = .string (flS f k) ∧ i = .int .i64 k) (fun _ i => 9 - (intOf i).toNat)
  case atStart => exact ⟨0, by omega, rfl, rfl⟩
  case round =>
    obtain ⟨k, hk, rfl, rfl⟩ := hrel
    by_cases h8 : k < 8
    · have h8' : (k : Int) < 8 := by omega
      have hz : ¬ 9223372036854775807 < (flS f k).size + 1 := by have := flS_size f k; omega
      have pk := wrapk_i64 ((k : Int) + 1) (by omega) (by omega)
      have HK := Lib.hid h8
      go_wp2
      go_loop [5, 6] (fun b j => ∃ n : Nat, n ≤ k ∧ b = .int .i64 (pw7 n) ∧ j = .int .i64 n) (fun _ j => 9 - (intOf j).toNat)
      case atStart => exact ⟨0, by omega, rfl, rfl⟩
      case round =>
        obtain ⟨n, hn, rfl, rfl⟩ := hrel
        by_cases hnk : n < k
        · have hnk' : (n : Int) < (k : Int) := by omega
          have ph := pw7_half n (by omega)
          have pb := pw7_bd n (by omega)
          have pc := pw7_bd (n + 1) (by omega)
          have pj := wrapk_i64 ((n : Int) + 1) (by omega) (by omega)
          have pp := wrapk_i64 (pw7 (n + 1)) (by omega) (by omega)
          clear hz pk
          go_wp2
          exact ⟨⟨n + 1, by omega, by rw [ph], by go_num⟩, by simp [intOf]; omega⟩
        · have hnk' : ¬ (n : Int) < (k : Int) := by omega
          obtain rfl : n = k := by omega
          have hsl := ltS_ext n HK.out
          have pb := pw7_bd n HK.out
          cases hb : flB f n with
          | true =>
            have HN := Lib.hid (flS_next true hb)
            have ha : bits .and .i64 f (pw7 n) = pw7 n := by rw [pw7_and HF.out, if_pos hb]
            have hne : (pw7 n != 0) = true := by simp; omega
            generalize flS f n = S at hz HN ⊢
            clear hb pb hn hnk hk
            go_wp2
            exact ⟨⟨n + 1, by omega, by rw [HN.out]; rfl, by go_num⟩, by simp [intOf]; omega⟩
          | false =>
            have HN := Lib.hid (flS_next false hb)
            have ha : bits .and .i64 f (pw7 n) = 0 := by rw [pw7_and HF.out, if_neg (by rw [hb]; decide)]
            generalize flS f n = S at hz HN ⊢
            clear hb pb hn hnk hk
            go_wp2
            exact ⟨⟨n + 1, by omega, by rw [HN.out]; rfl, by go_num⟩, by simp [intOf]; omega⟩
    · have h8' : ¬ (k : Int) < 8 := by omega
      obtain rfl : k = 8 := by omega
      cases hx : (flS f 8).toList.isEmpty with
      | true =>
        have HE := Lib.hid (show flagsS f = ⟨#[45]⟩ by unfold flagsS; rw [if_pos hx])
        generalize flS f 8 = S at hx ⊢
        go_wp2
        go_ret
        exact ⟨by rw [HE.out]; rfl, Junk.refl _⟩
      | false =>
        have HE := Lib.hid (show flagsS f = flS f 8 by unfold flagsS; rw [if_neg (by rw [hx]; decide)])
        generalize flS f 8 = S at hx HE ⊢
        go_wp2
        go_ret
        exact ⟨by rw [HE.out]; rfl, Junk.refl _⟩
end Go.Proofs.YtfkhnhenemgcmaaDoor
set_option linter.unusedVariables false
set_option maxRecDepth 100000
set_option linter.unusedSimpArgs false
namespace Go.Proofs.YtfkhnhenemgcmaaDoor
open Go.RowKit
theorem setCell_two (w : World) (b i : Nat) (v v' : Value) : (w.setCell ⟨b, i, none⟩ v).setCell ⟨b, i, none⟩ v' = w.setCell ⟨b, i, none⟩ v' := by
  simp only [World.setCell]
  congr 1
  apply Array.ext_getElem?
  intro j
  simp only [Array.getElem?_modify]
  by_cases hj : b = j
  · subst hj
    simp only [if_true, Option.map_map]
    congr 1
    funext o
    cases o <;> simp
  · simp [hj]
theorem setCell_self {w : World} {b i : Nat} {v : Value} (h : w.cell? ⟨b, i, none⟩ = some v) : w.setCell ⟨b, i, none⟩ v = w := by
  have hh : (w.setCell ⟨b, i, none⟩ v).heap = w.heap := by
    simp only [World.setCell]
    apply Array.ext_getElem?
    intro j
    simp only [Array.getElem?_modify]
    by_cases hj : b = j
    · subst hj
      simp only [if_true]
      unfold World.cell? at h
      cases hw : w.heap[b]? with
      | none => rfl
      | some o =>
        rw [hw] at h
        cases o <;> simp at h ⊢
        rename_i c e f
        apply Array.ext_getElem?
        intro k
        rw [Array.getElem?_setIfInBounds]
        by_cases hk : i = k
        · subst hk
          obtain ⟨h1, h2⟩ := Array.getElem?_eq_some_iff.1 h
          simp [h1, h2]
        · simp [hk]
    · simp [hj]
  cases w
  simp only [World.setCell] at hh ⊢
  congr 1
theorem setCell_size (w : World) (a : Addr) (v : Value) : (w.setCell a v).heap.size = w.heap.size := by simp [World.setCell]
theorem Own.low {B : Nat} {w : World} {e : TypeId} {size : Nat} {oa : Option Addr} {cap n : Nat} {xs : List Value} (h : Own B w e size oa cap n xs) {g i : Nat} (hg : g < B) (v : Value) : Own B (w.setCell ⟨g, i, none⟩ v) e size oa cap n xs := by
  refine ⟨h.1, ?_⟩
  rcases h.2 with hn | ⟨k, cap', cur, h1, hb, hk, hr⟩
  · exact .inl hn
  · refine .inr ⟨k, cap', cur, h1, hb, ?_, hr⟩
    rw [← hk]
    simp only [World.setCell, Array.getElem?_modify]
    rw [if_neg (by omega)]
/-- Words of the call's own, by way of a pointer. -/
def WdAt (V : World) (g : Nat) (w : World) (L : List ByteArray) : Prop := ∃ oa cap, Junk (V.setCell ⟨g, 0, none⟩ (.slice oa L.length cap)) w ∧ Own V.heap.size w 9 1 oa cap L.length (L.map Value.string)
structure WB (V : World) (g : Nat) : Prop where
  lt : g < V.heap.size
  cell : V.cell? ⟨g, 0, none⟩ = some (.slice none 0 0)
  fr : V.frozen? ⟨g, 0, none⟩ = false
  ni : ∀ i k v, V.cell? ⟨g, i, none⟩ ≠ some (.int k v)
  tab : ∀ x w', Junk (V.setCell ⟨g, 0, none⟩ x) w' → PowT w'
theorem WB.start {V : World} {g : Nat} (h : WB V g) : WdAt V g V [] := ⟨none, 0, by rw [show ([] : List ByteArray).length = 0 from rfl, setCell_self h.cell]; exact Junk.refl _, Own.nil _ _ _ _⟩
theorem WdAt.on {V : World} {g : Nat} {w w' : World} {L : List ByteArray} (h : WdAt V g w L) (hj : Junk w w') : WdAt V g w' L := by
  obtain ⟨oa, cap, h1, h2⟩ := h
  exact ⟨oa, cap, h1.trans hj, h2.on hj⟩
theorem WdAt.tab {V : World} {g : Nat} {w w' : World} {L : List ByteArray} (h : WdAt V g w L) (hB : WB V g) (hj : Junk w w') : PowT w' := by
  obtain ⟨oa, cap, h1, _⟩ := h
  exact hB.tab _ _ (h1.trans hj)
theorem WdAt.down {V V' : World} {g : Nat} {w : World} {L : List ByteArray} (h : WdAt V' g w L) (hj : Junk V V') (hg : g < V.heap.size) : WdAt V g w L := by
  obtain ⟨oa, cap, h1, h2⟩ := h
  obtain ⟨os, d, rfl⟩ := hj
  rw [World.setCell_junk _ _ _ _ _ _ hg] at h1
  exact ⟨oa, cap, Junk.trans (show Junk (V.setCell ⟨g, 0, none⟩ (.slice oa L.length cap)) ((V.setCell ⟨g, 0, none⟩ (.slice oa L.length cap)).junk os d) from ⟨os, d, rfl⟩) h1, h2.lower (by simp)⟩
set_option maxHeartbeats 4000000 in
theorem say_any {V : World} {g : Nat} (hB : WB V g) (L M : List ByteArray) (w : World) (h : WdAt V g w L) (ad : Addr) (m c : Nat) (hm : m = M.length) (hs : L.length + m ≤ 1000)
    (hM : ∀ j u, (M.map Value.string)[j]? = some u → w.cell? (ad.add j) = some u) :
    Calls Tryd.prog 17 #[.pointer (some ⟨g, 0, none⟩), .slice (some ad) m c] w fun e w' => e = .returned (.tuple #[]) ∧ WdAt V g w' (L ++ M) := by
  obtain ⟨oa, cap, hj, hO⟩ := h
  obtain ⟨n, hn⟩ : ∃ n, L.length = n := ⟨_, rfl⟩
  rw [hn] at hj hO hs
  obtain ⟨U, hU⟩ : ∃ U, V.setCell ⟨g, 0, none⟩ (.slice oa n cap) = U := ⟨_, rfl⟩
  rw [hU] at hj
  have hUs : U.heap.size = V.heap.size := by rw [← hU]; exact setCell_size _ _ _
  have hgU : g < U.heap.size := by rw [hUs]; exact hB.lt
  have hcU : U.cell? ⟨g, 0, none⟩ = some (.slice oa n cap) := by rw [← hU]; exact World.cell?_setCell_same _ _ _ hB.cell
  have hfU : U.frozen? ⟨g, 0, none⟩ = false := by rw [← hU, World.frozen?_setCell]; exact hB.fr
  rw [← hUs] at hO
  have HO := Lib.hid hO
  have HM := Lib.hid hM
  have HJ := Lib.hid hj
  have HU := Lib.hid (show ∀ x, U.setCell ⟨g, 0, none⟩ x = V.setCell ⟨g, 0, none⟩ x from fun x => by rw [← hU]; exact setCell_two _ _ _ _ _)
  have HV := Lib.hid hUs
  have HL := Lib.hid hn
  have HMM := Lib.hid hm
  clear hO hM hU hUs hn hm hB
  obtain ⟨os, d, rfl⟩ := hj
  go_enter Tryd.func17, Tryd.ntmps17
  go_wp2_with (first
    | (at_builtin; (refine ap_own (W0 := U) rfl _ _ 37 rfl 9 (.string ⟨#[]⟩) 1 16 (by kernel_rfl) rfl (by decide) Tryd.underlying37 (by (first | ((repeat (first | with_reducible exact Junk.refl _ | with_reducible exact Junk.app _ _ _ _ _ | with_reducible apply Junk.alloc | with_reducible apply Junk.junk | with_reducible apply Junk.drew | with_reducible apply Junk.drewN)); done) | ((try simp only [World.junk_junk, Array.append_assoc]); (repeat (first | with_reducible exact Junk.refl _ | with_reducible exact Junk.app _ _ _ _ _ | with_reducible exact Junk.app2 _ _ _ _ _ _ | with_reducible exact Junk.app3 _ _ _ _ _ _ _ | with_reducible exact Junk.app4 _ _ _ _ _ _ _ _ | with_reducible exact Junk.app5 _ _ _ _ _ _ _ _ _ | with_reducible apply Junk.alloc | with_reducible apply Junk.junk | with_reducible apply Junk.drew | with_reducible apply Junk.drewN))))) oa cap n (L.map Value.string) rfl HO.out (some ad) m c rfl (M.map Value.string) (by rw [List.length_map, HMM.out]; omega) (fun a ha => by cases ha; exact HM.out) (fun h => by cases h) (by intro u hu; simp at hu; obtain ⟨x, _, rfl⟩ := hu; rfl) (by simp only [maxLen]; omega) (by omega) ?_; intro oz cz os1 d1 hown _; have Hown := Lib.hid hown; clear hown)))
  have HW : WdAt V g ((U.setCell ⟨g, 0, none⟩ (.slice oz (n + m) cz)).junk os1 d1) (L ++ M) := by
    refine ⟨oz, cz, ?_, ?_⟩
    · rw [← HU.out, show (L ++ M).length = n + m by rw [List.length_append, HL.out, HMM.out]]
      exact ⟨_, _, rfl⟩
    · rw [← HV.out, show (L ++ M).length = n + m by rw [List.length_append, HL.out, HMM.out], List.map_append, ← World.setCell_junk _ _ _ _ _ _ hgU]
      exact Own.low Hown.out hgU _
  go_returns
  exact ⟨rfl, HW⟩
theorem built_txt {w : World} {M : List ByteArray} {e : TypeId} : ∀ j u, (M.map Value.string)[j]? = some u → (w.alloc (.cells (M.map Value.string).toArray e)).cell? (Addr.add ⟨w.heap.size, 0, none⟩ j) = some u := fun j u h => built_cells rfl _ rfl j u h
set_option maxHeartbeats 4000000 in
theorem num_any {V : World} {g : Nat} (hB : WB V g) (name : ByteArray) (n : Int) (hn : -9223372036854775808 ≤ n ∧ n ≤ 9223372036854775807) (L : List ByteArray) (w : World) (h : WdAt V g w L) (hs : L.length + 2 ≤ 1000) :
    Calls Tryd.prog 18 #[.pointer (some ⟨g, 0, none⟩), .string name, .int .i64 n] w fun e w' => e = .returned (.tuple #[]) ∧ WdAt V g w' (L ++ [name, itoaS n]) := by
  have HI := Lib.hid (fun w1 (hp : PowT w1) => itoa_any n hn w1 hp)
  have HT := Lib.hid (fun w1 (hj : Junk w w1) => h.tab hB hj)
  have HS := Lib.hid (fun w1 (hj : Junk w w1) k (hk : k = w1.heap.size) => show Calls Tryd.prog 17 #[.pointer (some ⟨g, 0, none⟩), .slice (some ⟨k, 0, none⟩) 2 2] (w1.alloc (.cells #[.string name, .string (itoaS n)] 9)) fun e w' => e = .returned (.tuple #[]) ∧ WdAt V g w' (L ++ [name, itoaS n]) from by
    subst hk
    exact say_any hB L [name, itoaS n] _ ((h.on hj).on ((Junk.refl _).alloc _)) _ 2 2 rfl hs built_txt)
  clear hB h hs hn
  go_enter Tryd.func18, Tryd.ntmps18
  go_wp2_with (first
    | (go_at_call 15; (with_reducible refine (HI.out _ (HT.out _ (by (first | ((repeat (first | with_reducible exact Junk.refl _ | with_reducible exact Junk.app _ _ _ _ _ | with_reducible apply Junk.alloc | with_reducible apply Junk.junk | with_reducible apply Junk.drew | with_reducible apply Junk.drewN)); done) | ((try simp only [World.junk_junk, Array.append_assoc]); (repeat (first | with_reducible exact Junk.refl _ | with_reducible exact Junk.app _ _ _ _ _ | with_reducible exact Junk.app2 _ _ _ _ _ _ | with_reducible exact Junk.app3 _ _ _ _ _ _ _ | with_reducible exact Junk.app4 _ _ _ _ _ _ _ _ | with_reducible exact Junk.app5 _ _ _ _ _ _ _ _ _ | with_reducible apply Junk.alloc | with_reducible apply Junk.junk | with_reducible apply Junk.drew | with_reducible apply Junk.drewN))))))).mono ?_); rintro e w' ⟨rfl, ⟨osj, dj, rfl⟩⟩)
    | (go_at_call 17; (with_reducible refine (HS.out _ (by (first | ((repeat (first | with_reducible exact Junk.refl _ | with_reducible exact Junk.app _ _ _ _ _ | with_reducible apply Junk.alloc | with_reducible apply Junk.junk | with_reducible apply Junk.drew | with_reducible apply Junk.drewN)); done) | ((try simp only [World.junk_junk, Array.append_assoc]); (repeat (first | with_reducible exact Junk.refl _ | with_reducible exact Junk.app _ _ _ _ _ | with_reducible exact Junk.app2 _ _ _ _ _ _ | with_reducible exact Junk.app3 _ _ _ _ _ _ _ | with_reducible exact Junk.app4 _ _ _ _ _ _ _ _ | with_reducible exact Junk.app5 _ _ _ _ _ _ _ _ _ | with_reducible apply Junk.alloc | with_reducible apply Junk.junk | with_reducible apply Junk.drew | with_reducible apply Junk.drewN))))) _ (by simp)).mono ?_); rintro e w' ⟨rfl, hw⟩; have HW := Lib.hid hw; clear hw))
  go_returns
  exact ⟨rfl, HW.out⟩
theorem flag_any {V : World} {g : Nat} (hB : WB V g) (b : Bool) (name : ByteArray) (L : List ByteArray) (w : World) (h : WdAt V g w L) (hs : L.length + 2 ≤ 1000) :
    Calls Tryd.prog 19 #[.pointer (some ⟨g, 0, none⟩), .bool b, .string name] w fun e w' => e = .returned (.tuple #[]) ∧ WdAt V g w' (L ++ if b = true then [name] else []) := by
  have HS := Lib.hid (fun w1 (hj : Junk w w1) k (hk : k = w1.heap.size) => show Calls Tryd.prog 17 #[.pointer (some ⟨g, 0, none⟩), .slice (some ⟨k, 0, none⟩) 1 1] (w1.alloc (.cells #[.string name] 9)) fun e w' => e = .returned (.tuple #[]) ∧ WdAt V g w' (L ++ [name]) from by
    subst hk
    exact say_any hB L [name] _ ((h.on hj).on ((Junk.refl _).alloc _)) _ 1 1 rfl (by omega) built_txt)
  have HH := Lib.hid h
  clear hB h hs
  cases b with
  | true =>
    go_enter Tryd.func19, Tryd.ntmps19
    go_wp2_with (first
      | (go_at_call 17; (with_reducible refine (HS.out _ (by (first | ((repeat (first | with_reducible exact Junk.refl _ | with_reducible exact Junk.app _ _ _ _ _ | with_reducible apply Junk.alloc | with_reducible apply Junk.junk | with_reducible apply Junk.drew | with_reducible apply Junk.drewN)); done) | ((try simp only [World.junk_junk, Array.append_assoc]); (repeat (first | with_reducible exact Junk.refl _ | with_reducible exact Junk.app _ _ _ _ _ | with_reducible exact Junk.app2 _ _ _ _ _ _ | with_reducible exact Junk.app3 _ _ _ _ _ _ _ | with_reducible exact Junk.app4 _ _ _ _ _ _ _ _ | with_reducible exact Junk.app5 _ _ _ _ _ _ _ _ _ | with_reducible apply Junk.alloc | with_reducible apply Junk.junk | with_reducible apply Junk.drew | with_reducible apply Junk.drewN))))) _ (by simp)).mono ?_); rintro e w' ⟨rfl, hw⟩; have HW := Lib.hid hw; clear hw))
    go_returns
    exact ⟨rfl, HW.out⟩
  | false =>
    go_enter Tryd.func19, Tryd.ntmps19
    go_wp2
    go_returns
    exact ⟨rfl, by simpa using HH.out⟩
end Go.Proofs.YtfkhnhenemgcmaaDoor
