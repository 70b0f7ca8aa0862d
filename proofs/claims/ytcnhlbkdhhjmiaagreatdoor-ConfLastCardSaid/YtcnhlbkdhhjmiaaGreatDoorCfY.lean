/- Numbers, addresses, nets and lines as text. -/
import Derived.Test.YtcnhlbkdhhjmiaaGreatDoorCfX
import Derived.Test.YtcnhlbkdhhjmiaaGreatDoorMix4
import Derived.Lib.Join
set_option linter.unusedVariables false
set_option maxRecDepth 100000
set_option linter.unusedSimpArgs false
namespace Go.Proofs.YtcnhlbkdhhjmiaaGreatDoor
open Go.RowKit
variable {L L' : Nat → Prop} {w w' w'' : World}
theorem junk_grow (w : World) (k : Nat) (os : Array Obj) : Junk w (Sort.grow (w.drewN k) os) := ⟨os, w.drawn + k, rfl⟩
theorem itoa_any (n : Int) (h0 : -9223372036854775808 ≤ n ∧ n ≤ 9223372036854775807) (w : World) (ht : Env w) : Calls Tryz.prog 33 #[.int .i64 n] w fun e w' => e = .returned (.string (itoaS n)) ∧ Junk w w' :=
  (Any.strconv_Itoa Tryz.laysM171 n h0.1 h0.2 w ht.pow).mono fun e w' ⟨he, k, os, hw⟩ => ⟨he, hw ▸ junk_grow _ _ _⟩
theorem extra156 : Builder.Extra Tryz.prog Tryz.lays156_ren where
  sizeBuilder := by kernel_rfl
  liesBuilder := by kernel_rfl
  t5 := Tryz.laysM171.t5
  a5 := Tryz.laysM171.a5
  z5 := Tryz.laysM171.z5
  v5 := Tryz.laysM171.v5
  infoByte := by kernel_rfl
  cellsByte := by kernel_rfl
  sizeByte := by kernel_rfl
  neB5 := by decide
theorem joins_any (oa : Option Addr) (c B : Nat) (L : List ByteArray) (sep : UInt8) (w : World) (hO : Own B w 9 1 oa c L.length (L.map Value.string)) (h0 : L ≠ []) (hn : L.length ≤ 1000) (hl : (Lib.join (w8s L) [sep]).length ≤ 100000000) :
    Calls Tryz.prog 32 #[.slice oa L.length c, .string ⟨#[sep]⟩] w fun e w' => e = .returned (.string (mkS (Lib.join (w8s L) [sep]))) ∧ Junk w w' := by
  have hx : (L.map Value.string)[0]? = some (Value.string (L.head h0)) := by
    cases L with
    | nil => exact absurd rfl h0
    | cons x r => rfl
  obtain ⟨g, rfl, _, hg, _, _⟩ := hO.cells 0 _ hx
  refine (Any.strings_Join Tryz.lays156 extra156 g 0 c L ⟨#[sep]⟩ w (fun j x hj => ?_) hg (by omega) hO.capLe.1 (by unfold w8s at hl; simp only; omega)).mono fun e w' ⟨he, hw⟩ => ⟨he, Junk.of_below hw⟩
  obtain ⟨g', h1, _, _, h2, _⟩ := hO.cells j (.string x) (by rw [List.getElem?_map, hj]; rfl)
  cases h1
  rw [Nat.zero_add]
  exact h2
theorem join_jn : ∀ l : List W8, Lib.join l [32] = jn l
  | [] => rfl
  | [x] => Lib.join_one x _
  | x :: y :: t => by
    have ih := join_jn (y :: t)
    rw [Lib.join_cons] at ih ⊢
    show x ++ ((32 :: y) ++ Lib.joinTail [32] t) = x ++ 32 :: jn (y :: t)
    rw [← ih]
    rfl
def ItS (l : List Int) : List ByteArray := l.map itoaS
theorem w8s_its (l : List Int) : w8s (ItS l) = l.map Lib.itoa := by
  unfold w8s ItS itoaS mkS
  rw [List.map_map]
  apply List.map_congr_left
  intro n _
  simp
theorem lens_its : ∀ l : List Int, (∀ n ∈ l, -9223372036854775808 ≤ n ∧ n ≤ 9223372036854775807) → (jn (l.map Lib.itoa)).length ≤ 21 * l.length
  | l, h => by
    refine Nat.le_trans (jn_len _) ?_
    induction l with
    | nil => exact Nat.le_refl _
    | cons x t ih =>
      have h1 := itoa_len x 18 (by have := h x (by simp); omega)
      have h2 := ih (fun n hn => h n (by simp [hn]))
      simp only [lensW, List.map_cons, List.sum_cons, List.length_cons] at h2 ⊢
      omega
/-- A slice of numbers. -/
def NumsAt (w : World) (g : Nat) (l : List Int) : Prop := ∀ i x, l[i]? = some x → w.cell? ⟨g, i, none⟩ = some (.int .i64 x)
theorem NumsAt.on {g : Nat} {l : List Int} (h : NumsAt w g l) (hj : Junk w w') : NumsAt w' g l := fun i x hx => (Tch.of_junk (L := fun _ => False) hj).cell (h i x hx) (fun e => e)
theorem nums_lit (w : World) (l : List Int) (cs : Array Value) (hc : cs.toList = l.map (Value.int .i64)) (n : Nat) (hn : n = w.heap.size) : NumsAt (w.alloc (.cells cs 3)) n l := fun i x hx => by
  subst hn
  rw [World.cell?_alloc_new, ← Array.getElem?_toList, hc, List.getElem?_map, hx]
  rfl
set_option maxHeartbeats 2000000 in
theorem nums_any (l : List Int) (g n : Nat) (w : World) (hE : Env w) (hN : NumsAt w g l) (hn : l.length = n) (h0 : 0 < n) (h1 : n ≤ 100) (hr : ∀ x ∈ l, -9223372036854775808 ≤ x ∧ x ≤ 9223372036854775807) :
    Calls Tryz.prog 14 #[.slice (some ⟨g, 0, none⟩) n n] w fun e w' => e = .returned (.string (mkS (jn (l.map Lib.itoa)))) ∧ Junk w w' := by
  have HE := Lib.hid (fun w1 (hj : Junk w w1) => hE.junk hj)
  have HN := Lib.hid (fun w1 (hj : Junk w w1) => hN.on hj)
  have HR := Lib.hid hr
  have HL := Lib.hid hn
  clear hE hN hr hn
  go_enter Tryz.func14, Tryz.ntmps14
  go_wp2
  go_loopw [3, 5, 8] (fun v3 v5 v8 wr => ∃ (i c : Nat) (oa : Option Addr), v3 = .slice oa i c ∧ v8 = .int .i64 (i : Int) ∧ i ≤ n ∧ Hid (Own w.heap.size wr 9 1 oa c i ((ItS (l.take i)).map Value.string)) ∧ Hid (Junk w wr)) (fun _ _ v _ => n + 1 - (intOf v).toNat)
  case atStart => exact ⟨0, 0, none, rfl, rfl, by omega, Lib.hid (Own.nil _ _ _ _), Lib.hid (Junk.refl w)⟩
  case round =>
    obtain ⟨i, c, oa, rfl, rfl, hi, HO, HJ⟩ := hrel
    by_cases hin : i < n
    case neg =>
      obtain rfl : i = n := by omega
      have hi2 : ¬ (i : Int) < (i : Int) := by omega
      have hO := HO.out
      rw [List.take_of_length_le (by rw [HL.out]; exact Nat.le_refl _)] at hO
      have hLL : (ItS l).length = i := by unfold ItS; rw [List.length_map, HL.out]
      have hjn : Lib.join (w8s (ItS l)) [32] = jn (l.map Lib.itoa) := by rw [join_jn, w8s_its]
      have hJO := joins_any oa c w.heap.size (ItS l) 32 wr (by rw [hLL]; exact hO) (fun e => by rw [e] at hLL; simp at hLL; omega) (by omega) (by rw [hjn]; have := lens_its l HR.out; have := HL.out; omega)
      rw [hLL, hjn] at hJO
      have HJO := Lib.hid hJO
      clear hJO hO hLL hjn
      go_wp2_with (go_at_call 32; (refine HJO.out.mono ?_); rintro e w1 ⟨rfl, hj1⟩)
      go_ret
      exact ⟨rfl, HJ.out.trans hj1⟩
    obtain ⟨x, hx⟩ : ∃ x, l[i]? = some x := ⟨_, List.getElem?_eq_getElem (by rw [HL.out]; exact hin)⟩
    have hc := HN.out _ HJ.out i x hx
    have hi2 : (i : Int) < (n : Int) := by omega
    have HI := Lib.hid (itoa_any x (HR.out x (List.mem_of_getElem? hx)) wr (HE.out _ HJ.out))
    have htk : (ItS (l.take (i + 1))).map Value.string = (ItS (l.take i)).map Value.string ++ [.string (itoaS x)] := by
      rw [List.take_add_one, hx]
      simp [ItS]
    have HTK := Lib.hid htk
    clear htk hx
    obtain ⟨sx, hsx⟩ : ∃ sx, itoaS x = sx := ⟨_, rfl⟩
    rw [hsx] at HI HTK
    clear hsx
    go_wp2_with (first
      | (go_at_call 33; (refine HI.out.mono ?_); rintro e w1 ⟨rfl, hj1⟩; have HJ1 := Lib.hid hj1; clear hj1)
      | (at_builtin; (refine ap_own (W0 := w) rfl _ _ 56 rfl 9 (.string ⟨#[]⟩) 1 16 (by kernel_rfl) rfl (by decide) Tryz.underlying56 ((HJ.out.trans HJ1.out).alloc _) oa c i _ rfl (HO.out.on (HJ1.out.alloc _)) _ 1 1 rfl [.string sx] rfl (built_cells rfl) (fun h => by cases h) (by simp [Value.oneCell']) (by simp only [maxLen]; omega) (by omega) ?_; intro oa1 c1 os1 d1 hown _; have HO1 := Lib.hid hown; clear hown)))
    exact ⟨⟨i + 1, c1, oa1, rfl, by go_num, by omega, by rw [HTK.out]; exact HO1, Lib.hid ⟨_, _, rfl⟩⟩, by simp [intOf]; omega⟩
/-- The numbers between an address's dots. -/
def dotsL (a : Nat) : List Int := [((a / 16777216 % 256 : Nat) : Int), ((a / 65536 % 256 : Nat) : Int), ((a / 256 % 256 : Nat) : Int), ((a % 256 : Nat) : Int)]
theorem dots_join (a : Nat) (h : a < 4294967296) : Lib.join ((dotsL a).map Lib.itoa) [46] = dotW a := by
  have h1 : a / 16777216 % 256 = a / 16777216 := by omega
  unfold dotsL dotW
  rw [h1]
  simp [Lib.join_cons, Lib.joinTail]
theorem dots_step (a i : Nat) (h : i < 4) : ∃ x : Nat, (dotsL a)[i]? = some (x : Int) ∧ x < 256 ∧ x = a / 2 ^ (24 - 8 * i) % 256 := by
  unfold dotsL
  match i, h with
  | 0, _ => exact ⟨_, rfl, by omega, rfl⟩
  | 1, _ => exact ⟨_, rfl, by omega, rfl⟩
  | 2, _ => exact ⟨_, rfl, by omega, rfl⟩
  | 3, _ => exact ⟨_, rfl, by omega, by simp⟩
set_option maxHeartbeats 2000000 in
theorem dotted_any (a : Nat) (ha : a < 4294967296) (w : World) (hE : Env w) :
    Calls Tryz.prog 15 #[.int .u32 a] w fun e w' => e = .returned (.string (mkS (dotW a))) ∧ Junk w w' := by
  have HE := Lib.hid (fun w1 (hj : Junk w w1) => hE.junk hj)
  clear hE
  go_enter Tryz.func15, Tryz.ntmps15
  go_wp2
  go_loopw [3, 4] (fun v3 v4 wr => ∃ (i c : Nat) (oa : Option Addr), v3 = .slice oa i c ∧ v4 = .int .i64 (24 - 8 * (i : Int)) ∧ i ≤ 4 ∧ Hid (Own w.heap.size wr 9 1 oa c i ((ItS ((dotsL a).take i)).map Value.string)) ∧ Hid (Junk w wr)) (fun _ v _ => (intOf v + 16).toNat)
  case atStart => exact ⟨0, 0, none, rfl, rfl, by omega, Lib.hid (Own.nil _ _ _ _), Lib.hid (Junk.refl w)⟩
  case round =>
    obtain ⟨i, c, oa, rfl, rfl, hi, HO, HJ⟩ := hrel
    by_cases hin : i < 4
    case neg =>
      obtain rfl : i = 4 := by omega
      have hi2 : ¬ (0 : Int) ≤ 24 - 8 * ((4 : Nat) : Int) := by omega
      have hO := HO.out
      have hjn : Lib.join (w8s (ItS (dotsL a))) [46] = dotW a := by rw [w8s_its, dots_join a ha]
      have hJO := joins_any oa c w.heap.size (ItS (dotsL a)) 46 wr hO (fun e => by cases e) (show 4 ≤ 1000 by decide) (by rw [hjn]; have := dotW_len a ha; omega)
      rw [hjn] at hJO
      have HJO := Lib.hid (show Calls Tryz.prog 32 #[.slice oa 4 c, .string ⟨#[46]⟩] wr fun e w' => e = .returned (.string (mkS (dotW a))) ∧ Junk wr w' from hJO)
      clear hJO hO hjn
      go_wp2_with (go_at_call 32; (refine HJO.out.mono ?_); rintro e w1 ⟨rfl, hj1⟩)
      go_ret
      exact ⟨rfl, HJ.out.trans hj1⟩
    obtain ⟨x, hx, hx2, hx3⟩ := dots_step a i hin
    have hi2 : (0 : Int) ≤ 24 - 8 * (i : Int) := by omega
    have HI := Lib.hid (itoa_any x (by omega) wr (HE.out _ HJ.out))
    have htk : (ItS ((dotsL a).take (i + 1))).map Value.string = (ItS ((dotsL a).take i)).map Value.string ++ [.string (itoaS x)] := by
      rw [List.take_add_one, hx]
      simp [ItS]
    have HTK := Lib.hid htk
    have HX3 := Lib.hid hx3
    clear htk hx hx3
    obtain ⟨sx, hsx⟩ : ∃ sx, itoaS x = sx := ⟨_, rfl⟩
    rw [hsx] at HI HTK
    clear hsx
    have hw : IntKind.i64.wrap (x : Int) = (x : Int) := wrapk_i64 _ (by omega) (by omega)
    have hw2 : wrap64 (x : Int) = (x : Int) := (IntWalk.i64_left _).symm.trans hw
    rcases (show i = 0 ∨ i = 1 ∨ i = 2 ∨ i = 3 by omega) with rfl | rfl | rfl | rfl
    · have hx : x = a / 16777216 % 256 := HX3.out
      have hb : bits .and .u32 ((a : Int) / 16777216) 255 = (x : Int) := by rw [and_u32_8 _ (by omega) (by omega)]; omega
      clear HX3 hx
      go_wp2_with (first
        | (go_at_call 33; (refine HI.out.mono ?_); rintro e w1 ⟨rfl, hj1⟩; have HJ1 := Lib.hid hj1; clear hj1)
        | (at_builtin; (refine ap_own (W0 := w) rfl _ _ 56 rfl 9 (.string ⟨#[]⟩) 1 16 (by kernel_rfl) rfl (by decide) Tryz.underlying56 ((HJ.out.trans HJ1.out).alloc _) oa c 0 _ rfl (HO.out.on (HJ1.out.alloc _)) _ 1 1 rfl [.string sx] rfl (built_cells rfl) (fun h => by cases h) (by simp [Value.oneCell']) (by simp only [maxLen]; omega) (by omega) ?_; intro oa1 c1 os1 d1 hown _; have HO1 := Lib.hid hown; clear hown)))
      exact ⟨⟨0 + 1, c1, oa1, rfl, by go_num, by omega, by rw [HTK.out]; exact HO1, Lib.hid ⟨_, _, rfl⟩⟩, by simp [intOf]⟩
    · have hx : x = a / 65536 % 256 := HX3.out
      have hb : bits .and .u32 ((a : Int) / 65536) 255 = (x : Int) := by rw [and_u32_8 _ (by omega) (by omega)]; omega
      clear HX3 hx
      go_wp2_with (first
        | (go_at_call 33; (refine HI.out.mono ?_); rintro e w1 ⟨rfl, hj1⟩; have HJ1 := Lib.hid hj1; clear hj1)
        | (at_builtin; (refine ap_own (W0 := w) rfl _ _ 56 rfl 9 (.string ⟨#[]⟩) 1 16 (by kernel_rfl) rfl (by decide) Tryz.underlying56 ((HJ.out.trans HJ1.out).alloc _) oa c 1 _ rfl (HO.out.on (HJ1.out.alloc _)) _ 1 1 rfl [.string sx] rfl (built_cells rfl) (fun h => by cases h) (by simp [Value.oneCell']) (by simp only [maxLen]; omega) (by omega) ?_; intro oa1 c1 os1 d1 hown _; have HO1 := Lib.hid hown; clear hown)))
      exact ⟨⟨1 + 1, c1, oa1, rfl, by go_num, by omega, by rw [HTK.out]; exact HO1, Lib.hid ⟨_, _, rfl⟩⟩, by simp [intOf]⟩
    · have hx : x = a / 256 % 256 := HX3.out
      have hb : bits .and .u32 ((a : Int) / 256) 255 = (x : Int) := by rw [and_u32_8 _ (by omega) (by omega)]; omega
      clear HX3 hx
      go_wp2_with (first
        | (go_at_call 33; (refine HI.out.mono ?_); rintro e w1 ⟨rfl, hj1⟩; have HJ1 := Lib.hid hj1; clear hj1)
        | (at_builtin; (refine ap_own (W0 := w) rfl _ _ 56 rfl 9 (.string ⟨#[]⟩) 1 16 (by kernel_rfl) rfl (by decide) Tryz.underlying56 ((HJ.out.trans HJ1.out).alloc _) oa c 2 _ rfl (HO.out.on (HJ1.out.alloc _)) _ 1 1 rfl [.string sx] rfl (built_cells rfl) (fun h => by cases h) (by simp [Value.oneCell']) (by simp only [maxLen]; omega) (by omega) ?_; intro oa1 c1 os1 d1 hown _; have HO1 := Lib.hid hown; clear hown)))
      exact ⟨⟨2 + 1, c1, oa1, rfl, by go_num, by omega, by rw [HTK.out]; exact HO1, Lib.hid ⟨_, _, rfl⟩⟩, by simp [intOf]⟩
    · have hx : x = a / 1 % 256 := HX3.out
      have hb : bits .and .u32 ((a : Int)) 255 = (x : Int) := by rw [and_u32_8 _ (by omega) (by omega)]; omega
      clear HX3 hx
      go_wp2_with (first
        | (go_at_call 33; (refine HI.out.mono ?_); rintro e w1 ⟨rfl, hj1⟩; have HJ1 := Lib.hid hj1; clear hj1)
        | (at_builtin; (refine ap_own (W0 := w) rfl _ _ 56 rfl 9 (.string ⟨#[]⟩) 1 16 (by kernel_rfl) rfl (by decide) Tryz.underlying56 ((HJ.out.trans HJ1.out).alloc _) oa c 3 _ rfl (HO.out.on (HJ1.out.alloc _)) _ 1 1 rfl [.string sx] rfl (built_cells rfl) (fun h => by cases h) (by simp [Value.oneCell']) (by simp only [maxLen]; omega) (by omega) ?_; intro oa1 c1 os1 d1 hown _; have HO1 := Lib.hid hown; clear hown)))
      exact ⟨⟨3 + 1, c1, oa1, rfl, by go_num, by omega, by rw [HTK.out]; exact HO1, Lib.hid ⟨_, _, rfl⟩⟩, by simp [intOf]⟩
set_option maxHeartbeats 1000000 in
theorem cnet_any (a : Nat) (n : Int) (ha : a < 4294967296) (hn : -9223372036854775808 ≤ n ∧ n ≤ 9223372036854775807) (w : World) (hE : Env w) :
    Calls Tryz.prog 13 #[.int .u32 a, .int .i64 n] w fun e w' => e = .returned (.string (mkS (netT a n))) ∧ Junk w w' := by
  have HD := Lib.hid (dotted_any a ha w hE)
  have HI := Lib.hid (fun w1 (hj : Junk w w1) => itoa_any n hn w1 (hE.junk hj))
  have hs1 : (mkS (dotW a)).size ≤ 19 := by rw [mkS_size]; exact dotW_len a ha
  have hs2 : (itoaS n).size ≤ 20 := by unfold itoaS; rw [mkS_size]; exact itoa_len n 18 (by omega)
  have he : mkS (dotW a) ++ ⟨#[47]⟩ ++ itoaS n = mkS (netT a n) := by
    unfold netT itoaS mkS
    apply ByteArray.ext
    simp
  have HEQ := Lib.hid he
  generalize mkS (dotW a) = s1 at *
  generalize itoaS n = s2 at *
  clear he hE
  have z1 : ¬ 9223372036854775807 < s1.size + 1 := by omega
  have z2 : ¬ 9223372036854775807 < s1.size + 1 + s2.size := by omega
  go_enter Tryz.func13, Tryz.ntmps13
  go_wp2_with (first
    | (go_at_call 15; (refine HD.out.mono ?_); rintro e w1 ⟨rfl, hj1⟩; have HJ1 := Lib.hid hj1; clear hj1)
    | (go_at_call 33; (refine (HI.out _ HJ1.out).mono ?_); rintro e w2 ⟨rfl, hj2⟩))
  go_ret
  exact ⟨by first | rfl | (rw [HEQ.out]; rfl), HJ1.out.trans hj2⟩
theorem bld_on {B b : Nat} {bs : List Value} (h : Bld B b bs w) (hj : Junk w w') : Bld B b bs w' := by
  have key : ∀ p, Lib.BuilderAt 47 5 B b p bs w → Lib.BuilderAt 47 5 B b p bs w' := by
    intro p h
    obtain ⟨h1, v, h2, h3, h4⟩ := h
    obtain ⟨os, d, rfl⟩ := hj
    refine ⟨h1, v, ?_, ⟨h3.1, ?_⟩, h4⟩
    · rw [World.heap_junk _ _ _ (Array.getElem?_eq_some_iff.1 h2).1]; exact h2
    · rcases h3.2 with hn | ⟨g, cap', cur, h5, hb, hg, hr⟩
      · exact .inl hn
      · refine .inr ⟨g, cap', cur, h5, hb, ?_, hr⟩
        rw [World.heap_junk _ _ _ (Array.getElem?_eq_some_iff.1 hg).1]; exact hg
  rcases h with h | h
  · exact .inl (key _ h)
  · exact .inr (key _ h)
/-- A line of words is written. -/
theorem line_bytes (T : W8) (l : List W8) (s : ByteArray) (hs : s = mkS (jn l) ++ ⟨#[10]⟩) : Lib.byteCells T ++ Lib.strCells s = Lib.byteCells (T ++ lineT l) := by
  subst hs
  rw [Lib.strCells_eq]
  unfold lineT mkS Lib.byteCells
  simp
set_option maxHeartbeats 1000000 in
theorem line_any (B b : Nat) (T : W8) (oa : Option Addr) (c n : Nat) (L : List ByteArray) (B' : Nat) (w : World) (hb : Bld B b (Lib.byteCells T) w) (hBw : B ≤ w.heap.size) (hO : Own B' w 9 1 oa c n (L.map Value.string)) (hn : L.length = n) (h0 : L ≠ []) (h1 : n ≤ 100)
    (hT : T.length ≤ 1000000) (hl : (jn (w8s L)).length ≤ 1000000) :
    Calls Tryz.prog 12 #[.pointer (some ⟨b, 0, none⟩), .slice oa n c] w fun e w' => e = .returned (.tuple #[]) ∧ Bld B b (Lib.byteCells (T ++ lineT (w8s L))) w' ∧ Below B w w' := by
  subst hn
  have hj := fun w1 (hj : Junk w w1) => joins_any oa c B' L 32 w1 (hO.on hj) h0 (by omega) (by rw [join_jn]; omega)
  rw [join_jn] at hj
  have hs1 : (mkS (jn (w8s L))).size ≤ 1000000 := by rw [mkS_size]; exact hl
  have HLB := Lib.hid (line_bytes T (w8s L))
  generalize mkS (jn (w8s L)) = s1 at *
  have z1 : ¬ 9223372036854775807 < s1.size + 1 := by omega
  have HJO := Lib.hid hj
  have HW := Lib.hid (fun w1 (hj : Junk w w1) => writes_any B b (Lib.byteCells T) (s1 ++ ⟨#[10]⟩) w1 (bld_on hb hj) (by rw [Lib.byteCells_length, ByteArray.size_append]; show T.length + (s1.size + 1) ≤ _; omega) (Nat.le_trans hBw hj.size))
  clear hj hb hO
  go_enter Tryz.func12, Tryz.ntmps12
  refine wp_region_mixn (w) 6 [(0, true), (1, true), (2, true), (3, true), (4, true), (5, true), (6, false)] (by kernel_rfl) (by kernel_rfl) (by (exact jkc)) ?_; (iterate 6 (refine wpMixL_q rfl (fun K hK => ?_); (go_simp; try go_bits); first | (refine hK _ ?_; clear hK K) | (apply Exists.intro; refine ⟨fun _ => ?_, hK _ ?_⟩; (first | (go_at_call 32; with_reducible exact HJO.out _ (by (exact jkc)))); clear hK K))); refine wpMixL_last rfl (fun osm0_0 dm0_0 K hK => ?_); (go_simp; try go_bits); (go_at_call 31; (with_reducible refine (HW.out _ (by (exact jkc))).mono ?_); rintro e w' ⟨rfl, h1, h2⟩); refine hK _ _ ?_; clear hK K; refine wpMixL_nil (fun osm dm => ?_)
  go_end0
  have hj0 : Junk w (w.junk osm0_0 dm0_0) := ⟨_, _, rfl⟩
  have hj1 : Junk w' (w'.junk osm dm) := ⟨_, _, rfl⟩
  have hb0 := hj0.below hBw
  have hB2 : B ≤ w'.heap.size := Nat.le_trans hBw (Nat.le_trans hj0.size h2.size)
  rw [HLB.out _ rfl] at h1
  exact ⟨rfl, bld_on h1 hj1, (hb0.trans h2).trans (hj1.below hB2)⟩
end Go.Proofs.YtcnhlbkdhhjmiaaGreatDoor
