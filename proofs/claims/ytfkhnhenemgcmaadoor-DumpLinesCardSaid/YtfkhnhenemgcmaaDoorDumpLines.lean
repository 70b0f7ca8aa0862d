/- The law DumpLines: frames that go have a line each, with their zone ahead. -/
import Derived.Test.YtfkhnhenemgcmaaDoorDuU
import Derived.Test.YtfkhnhenemgcmaaDoorMix5
import Derived.Deep.DeepCutAuto
set_option linter.unusedVariables false
set_option maxRecDepth 100000
set_option linter.unusedSimpArgs false
namespace Go.Proofs.YtfkhnhenemgcmaaDoor
open Go.RowKit Go.ChangeShapes Go.WideShapes Go.ChangeAt Go.WideMaps Go.WideElems
theorem wpMixM_late1 {P : Program} {ops : Array Oper} {D : World → Prop} {late : List Nat} {Q : Act → World → Prop} {k : Nat} {o : Oper} {r : List (Nat × Bool)} {a : Act} {w : World} (hk : late.contains k = true) (ho : ops[k]? = some o) (hg : o.guard = none)
    (h : ∀ os d, ∀ K : Act → World → Prop, (∀ a w', wpMixM P ops D late Q r a w' → K a w') → o.wp P a (w.junk os d) K NoExit) :
    wpMixM P ops D late Q ((k, false) :: r) a w :=
  wpMixM_late hk ho fun os d K hK => by
    have hw : Region.wanted o (yielded ops a.tmps) = true := by simp [Region.wanted, hg]
    rw [if_pos hw]
    exact h os d K hK
/-- Frames that a look is taken at. -/
def SnOk (F : List Ot) : Prop := ∀ f ∈ F, (-9223372036854775808 ≤ f.k ∧ f.k ≤ 9223372036854775807) ∧ f.l ≤ 3000
set_option maxHeartbeats 16000000 in
theorem lines_any (oa : Option Addr) (l c : Nat) (F : List Ot) (w : World) (hS : OsAt w oa F) (hl : F.length = l) (h20 : l ≤ 20) (hF : SnOk F) (ht : PowT w) :
    Calls Tryd.prog 12 #[.slice oa l c] w fun e w' => ∃ (oo : Option Addr) (cc : Nat), e = .returned (.slice oo l cc) ∧ Junk w w' ∧ Own w.heap.size w' 9 1 oo cc l ((F.map sentS).map Value.string) := by
  have HS := Lib.hid hS
  have HL := Lib.hid hl
  have HF := Lib.hid hF
  have HT := Lib.hid ht
  clear hS hl hF ht
  go_enter Tryd.func12, Tryd.ntmps12
  go_wp2
  go_loopw [3, 8] (fun s i wr => ∃ (k cq : Nat) (oq : Option Addr), k ≤ l ∧ s = .slice oq k cq ∧ i = .int .i64 (k : Int) ∧ Junk w wr ∧ Hid (Own w.heap.size wr 9 1 oq cq k (((F.map sentS).take k).map Value.string))) (fun _ i _ => l + 1 - (intOf i).toNat)
  case atStart => exact ⟨0, 0, none, by omega, rfl, rfl, Junk.refl _, Lib.hid (Own.nil _ _ _ _)⟩
  case round =>
    obtain ⟨k, cq, oq, hk, rfl, rfl, hj, hO⟩ := hrel
    have HJ := Lib.hid hj
    have HO := Lib.hid hO.out
    clear hj hO
    by_cases hkl : k < l
    · have hkl2 : (k : Int) < (l : Int) := by omega
      have pk := wrapk_i64 ((k : Int) + 1) (by omega) (by omega)
      obtain ⟨f, hf⟩ : ∃ f, F[k]? = some f := ⟨_, List.getElem?_eq_getElem (by rw [HL.out]; exact hkl)⟩
      obtain ⟨bx, off, hob, hbl, c0, c1, hB⟩ := (HS.out.on HJ.out) k f hf
      obtain ⟨hz, hfl⟩ := HF.out f (List.mem_of_getElem? hf)
      have HN := Lib.hid (show ((F.map sentS).take (k + 1)).map Value.string = ((F.map sentS).take k).map Value.string ++ [.string (sentS f)] by
        rw [List.take_add_one, List.getElem?_map, hf]; simp)
      have hLen : (((F.map sentS).take k).map Value.string).length = k := by rw [List.length_map, List.length_take, List.length_map, HL.out]; omega
      generalize ((F.map sentS).take k).map Value.string = Lk at HO HN hLen ⊢
      subst hob
      obtain ⟨fk, fo, fl, fc, fx⟩ := f
      simp only at c0 c1 hB hz hfl
      have HB := Lib.hid hB
      have HI := Lib.hid (fun w1 hp => itoa_any fk hz w1 hp)
      have HLI := Lib.hid (fun w1 (hb : Bts w1 fo fl fc fx) hp => line_any fo fl fc fx w1 (by omega) hb hp)
      have q1 := itoaS_size hz
      have q2 := lineS_size (xs := fx) (l := fl) hB.byte (by omega)
      obtain ⟨S, hSS⟩ : ∃ S, sentS ⟨fk, fo, fl, fc, fx⟩ = S := ⟨_, rfl⟩
      have hSe : itoaS fk ++ ⟨#[32]⟩ ++ lineS fx fl = S := hSS
      rw [hSS] at HN
      generalize itoaS fk = NZ at HI q1 hSe
      generalize lineS fx fl = SL at HLI q2 hSe
      have z1 : ¬ 9223372036854775807 < NZ.size + 1 := by omega
      have z2 : ¬ 9223372036854775807 < NZ.size + 1 + SL.size := by omega
      clear hB hf hSS q1 q2 hz
      go_upto_region 5 with (first | fail)
      have HTR := Lib.hid (fun w1 (hj : Junk wr w1) => HT.out.on (HJ.out.trans hj))
      refine wp_region_mixm ((wr.alloc (.cells #[.int .i64 fk, .slice fo fl fc] 36))) [10, 11] [(0, true), (1, true), (2, true), (3, true), (4, true), (5, true), (6, true), (7, true), (8, true), (9, false), (10, false), (11, false)] (by kernel_rfl) (by kernel_rfl) (by (repeat (first | with_reducible exact Junk.refl _ | with_reducible exact Junk.app _ _ _ _ _ | with_reducible apply Junk.alloc | with_reducible apply Junk.junk | with_reducible apply Junk.drew | with_reducible apply Junk.drewN | (with_reducible refine Junk.setCell ?_ (by simp) _)))) ?_; (iterate 9 (refine wpMixM_q rfl (fun K hK => ?_); (go_simp; try go_bits); first | (refine hK _ ?_; clear hK K) | (apply Exists.intro; refine ⟨fun _ => ?_, hK _ ?_⟩; (first | (first | (go_at_call 15; with_reducible exact HI.out _ (HTR.out _ (by (first | ((repeat (first | with_reducible exact Junk.refl _ | with_reducible exact Junk.app _ _ _ _ _ | with_reducible apply Junk.alloc | with_reducible apply Junk.junk | with_reducible apply Junk.drew | with_reducible apply Junk.drewN)); done) | ((try simp only [World.junk_junk, Array.append_assoc]); (repeat (first | with_reducible exact Junk.refl _ | with_reducible exact Junk.app _ _ _ _ _ | with_reducible exact Junk.app2 _ _ _ _ _ _ | with_reducible exact Junk.app3 _ _ _ _ _ _ _ | with_reducible exact Junk.app4 _ _ _ _ _ _ _ _ | with_reducible exact Junk.app5 _ _ _ _ _ _ _ _ _ | with_reducible apply Junk.alloc | with_reducible apply Junk.junk | with_reducible apply Junk.drew | with_reducible apply Junk.drewN))))))) | (go_at_call 7; with_reducible exact HLI.out _ (HB.out.on (by (first | ((repeat (first | with_reducible exact Junk.refl _ | with_reducible exact Junk.app _ _ _ _ _ | with_reducible apply Junk.alloc | with_reducible apply Junk.junk | with_reducible apply Junk.drew | with_reducible apply Junk.drewN)); done) | ((try simp only [World.junk_junk, Array.append_assoc]); (repeat (first | with_reducible exact Junk.refl _ | with_reducible exact Junk.app _ _ _ _ _ | with_reducible exact Junk.app2 _ _ _ _ _ _ | with_reducible exact Junk.app3 _ _ _ _ _ _ _ | with_reducible exact Junk.app4 _ _ _ _ _ _ _ _ | with_reducible exact Junk.app5 _ _ _ _ _ _ _ _ _ | with_reducible apply Junk.alloc | with_reducible apply Junk.junk | with_reducible apply Junk.drew | with_reducible apply Junk.drewN)))))) (HTR.out _ (by (first | ((repeat (first | with_reducible exact Junk.refl _ | with_reducible exact Junk.app _ _ _ _ _ | with_reducible apply Junk.alloc | with_reducible apply Junk.junk | with_reducible apply Junk.drew | with_reducible apply Junk.drewN)); done) | ((try simp only [World.junk_junk, Array.append_assoc]); (repeat (first | with_reducible exact Junk.refl _ | with_reducible exact Junk.app _ _ _ _ _ | with_reducible exact Junk.app2 _ _ _ _ _ _ | with_reducible exact Junk.app3 _ _ _ _ _ _ _ | with_reducible exact Junk.app4 _ _ _ _ _ _ _ _ | with_reducible exact Junk.app5 _ _ _ _ _ _ _ _ _ | with_reducible apply Junk.alloc | with_reducible apply Junk.junk | with_reducible apply Junk.drew | with_reducible apply Junk.drewN))))))))); clear hK K))); refine wpMixM_e rfl (fun osm5_0 dm5_0 K hK => ?_); (go_simp; try go_bits); refine hK _ _ (Junk.pair (by (repeat (first | with_reducible exact Junk.refl _ | with_reducible exact Junk.app _ _ _ _ _ | with_reducible apply Junk.alloc | with_reducible apply Junk.junk | with_reducible apply Junk.drew | with_reducible apply Junk.drewN | (with_reducible refine Junk.setCell ?_ (by simp) _))))) ?_; clear hK K; refine wpMixM_late1 (by decide) rfl rfl (fun osm5_1 dm5_1 K hK => ?_); (try simp only [World.drew_junk, World.junk_junk]); (refine ap_own_wp (W0 := w) _ _ 37 rfl 9 (.string ⟨#[]⟩) 1 16 (by kernel_rfl) rfl (by decide) Tryd.underlying37 (HJ.out.trans (by (first | ((repeat (first | with_reducible exact Junk.refl _ | with_reducible exact Junk.app _ _ _ _ _ | with_reducible apply Junk.alloc | with_reducible apply Junk.junk | with_reducible apply Junk.drew | with_reducible apply Junk.drewN)); done) | ((try simp only [World.junk_junk, Array.append_assoc]); (repeat (first | with_reducible exact Junk.refl _ | with_reducible exact Junk.app _ _ _ _ _ | with_reducible exact Junk.app2 _ _ _ _ _ _ | with_reducible exact Junk.app3 _ _ _ _ _ _ _ | with_reducible exact Junk.app4 _ _ _ _ _ _ _ _ | with_reducible exact Junk.app5 _ _ _ _ _ _ _ _ _ | with_reducible apply Junk.alloc | with_reducible apply Junk.junk | with_reducible apply Junk.drew | with_reducible apply Junk.drewN)))))) oq cq k Lk rfl (HO.out.on (by (first | ((repeat (first | with_reducible exact Junk.refl _ | with_reducible exact Junk.app _ _ _ _ _ | with_reducible apply Junk.alloc | with_reducible apply Junk.junk | with_reducible apply Junk.drew | with_reducible apply Junk.drewN)); done) | ((try simp only [World.junk_junk, Array.append_assoc]); (repeat (first | with_reducible exact Junk.refl _ | with_reducible exact Junk.app _ _ _ _ _ | with_reducible exact Junk.app2 _ _ _ _ _ _ | with_reducible exact Junk.app3 _ _ _ _ _ _ _ | with_reducible exact Junk.app4 _ _ _ _ _ _ _ _ | with_reducible exact Junk.app5 _ _ _ _ _ _ _ _ _ | with_reducible apply Junk.alloc | with_reducible apply Junk.junk | with_reducible apply Junk.drew | with_reducible apply Junk.drewN)))))) (some ⟨_, 0, none⟩) 1 1 rfl [.string S] rfl (built_cells_j (by simp) (by simp)) (fun h => by cases h) (by intro u hu; simp at hu; subst hu; rfl) (by simp only [maxLen]; omega) (by omega) ?_; intro oz cz os1 d1 hown _; have Hown := Lib.hid hown; clear hown); refine hK _ _ ?_; clear hK K; refine wpMixM_late (by decide) rfl (fun osm5_2 dm5_2 K hK => ?_); (go_simp; try go_bits); refine hK _ _ ?_; clear hK K; refine wpMixM_nil (fun osm dm => ?_)
      go_wp2
      exact ⟨⟨k + 1, cz, oz, by omega, rfl, by go_num, by (first | ((repeat (first | with_reducible exact Junk.refl _ | with_reducible exact Junk.app _ _ _ _ _ | with_reducible apply Junk.alloc | with_reducible apply Junk.junk | with_reducible apply Junk.drew | with_reducible apply Junk.drewN)); done) | ((try simp only [World.junk_junk, Array.append_assoc]); (repeat (first | with_reducible exact Junk.refl _ | with_reducible exact Junk.app _ _ _ _ _ | with_reducible exact Junk.app2 _ _ _ _ _ _ | with_reducible exact Junk.app3 _ _ _ _ _ _ _ | with_reducible exact Junk.app4 _ _ _ _ _ _ _ _ | with_reducible exact Junk.app5 _ _ _ _ _ _ _ _ _ | with_reducible apply Junk.alloc | with_reducible apply Junk.junk | with_reducible apply Junk.drew | with_reducible apply Junk.drewN)))), Lib.hid (by rw [HN.out]; exact Hown.out.on (by (first | ((repeat (first | with_reducible exact Junk.refl _ | with_reducible exact Junk.app _ _ _ _ _ | with_reducible apply Junk.alloc | with_reducible apply Junk.junk | with_reducible apply Junk.drew | with_reducible apply Junk.drewN)); done) | ((try simp only [World.junk_junk, Array.append_assoc]); (repeat (first | with_reducible exact Junk.refl _ | with_reducible exact Junk.app _ _ _ _ _ | with_reducible exact Junk.app2 _ _ _ _ _ _ | with_reducible exact Junk.app3 _ _ _ _ _ _ _ | with_reducible exact Junk.app4 _ _ _ _ _ _ _ _ | with_reducible exact Junk.app5 _ _ _ _ _ _ _ _ _ | with_reducible apply Junk.alloc | with_reducible apply Junk.junk | with_reducible apply Junk.drew | with_reducible apply Junk.drewN))))))⟩, by simp [intOf]; omega⟩
    · have hkl2 : ¬ (k : Int) < (l : Int) := by omega
      obtain rfl : k = l := by omega
      go_wp2
      go_returns
      refine ⟨oq, cq, rfl, HJ.out.trans (by (first | ((repeat (first | with_reducible exact Junk.refl _ | with_reducible exact Junk.app _ _ _ _ _ | with_reducible apply Junk.alloc | with_reducible apply Junk.junk | with_reducible apply Junk.drew | with_reducible apply Junk.drewN)); done) | ((try simp only [World.junk_junk, Array.append_assoc]); (repeat (first | with_reducible exact Junk.refl _ | with_reducible exact Junk.app _ _ _ _ _ | with_reducible exact Junk.app2 _ _ _ _ _ _ | with_reducible exact Junk.app3 _ _ _ _ _ _ _ | with_reducible exact Junk.app4 _ _ _ _ _ _ _ _ | with_reducible exact Junk.app5 _ _ _ _ _ _ _ _ _ | with_reducible apply Junk.alloc | with_reducible apply Junk.junk | with_reducible apply Junk.drew | with_reducible apply Junk.drewN))))), ?_⟩
      have := HO.out
      rw [List.take_of_length_le (by rw [List.length_map, HL.out]; exact Nat.le_refl _)] at this
      first | exact this | (rw [List.map_map] at this; exact this) | (rw [← List.map_map]; exact this)
theorem sent_of {W : World} {cs : List Value} (h : Cells Tryd.prog W 36 cs) : ∃ f : Ot, cs = f.cells ∧ Bts W f.oa f.l f.c f.xs ∧ -9223372036854775808 ≤ f.k ∧ f.k ≤ 9223372036854775807 := by
  obtain ⟨hl_x, hf_x⟩ := h.fields1 Tryd.underlying36 (by kernel_rfl) (n := 2) (by kernel_rfl)
  obtain ⟨x_Zone, lx0, e_x0⟩ : ∃ x l, cs = x :: l := by cases cs with | nil => simp at hl_x | cons x l => exact ⟨x, l, rfl⟩
  subst e_x0
  obtain ⟨x_Bytes, lx1, e_x1⟩ : ∃ x l, lx0 = x :: l := by cases lx0 with | nil => simp at hl_x | cons x l => exact ⟨x, l, rfl⟩
  subst e_x1
  obtain rfl : lx1 = [] := by simpa using hl_x
  have f_x0 : Cells Tryd.prog W 3 [x_Zone] := hf_x 0 _ rfl
  have f_x1 : Cells Tryd.prog W 22 [x_Bytes] := hf_x 1 _ rfl
  clear hf_x hl_x
  obtain ⟨x_Zone, e_x_Zone, w_x_Zone⟩ := f_x0.int Tryd.underlying3; cases e_x_Zone
  obtain ⟨x_Bytes_a, x_Bytes_l, x_Bytes_c, x_Bytes, e_x_Bytes, lc_x_Bytes, cm_x_Bytes, S_x_Bytes, w_x_Bytes⟩ := f_x1.ints Tryd.underlying22 Tryd.underlying5 (by kernel_rfl); cases e_x_Bytes
  have hz := bounds_i64 w_x_Zone
  exact ⟨⟨x_Zone, x_Bytes_a, x_Bytes_l, x_Bytes_c, x_Bytes⟩, rfl, ⟨S_x_Bytes, fun i hi => bounds_u8 (w_x_Bytes i hi), Cells.nil_slice Tryd.underlying22 f_x1, lc_x_Bytes, cm_x_Bytes⟩, hz⟩
theorem sents_of {W : World} {oa : Option Addr} {len : Nat} {rows : Nat → List Value} (hS : SlAt W oa len (Tryd.prog.cellsOf 36) rows) (hr : ∀ i, i < len → (rows i).length = Tryd.prog.cellsOf 36 ∧ Cells Tryd.prog W 36 (rows i)) :
    ∃ F : List Ot, F.length = len ∧ OsAt W oa F ∧ ∀ f ∈ F, -9223372036854775808 ≤ f.k ∧ f.k ≤ 9223372036854775807 := by
  rw [show Tryd.prog.cellsOf 36 = 2 by kernel_rfl] at hS
  have hx : ∀ i, i < len → ∃ f : Ot, rows i = f.cells ∧ Bts W f.oa f.l f.c f.xs ∧ -9223372036854775808 ≤ f.k ∧ f.k ≤ 9223372036854775807 := fun i hi => sent_of (hr i hi).2
  obtain ⟨f, hf⟩ : ∃ f : Nat → Ot, ∀ i, i < len → rows i = (f i).cells ∧ Bts W (f i).oa (f i).l (f i).c (f i).xs ∧ -9223372036854775808 ≤ (f i).k ∧ (f i).k ≤ 9223372036854775807 := ⟨fun i => if h : i < len then (hx i h).choose else ⟨0, none, 0, 0, fun _ => 0⟩, fun i hi => by simp only [hi, dif_pos]; exact (hx i hi).choose_spec⟩
  refine ⟨(List.range len).map f, by simp, fun i x hi => ?_, fun x hx => ?_⟩
  · have hil : i < len := by have := (List.getElem?_eq_some_iff.1 hi).1; simpa using this
    rw [List.getElem?_map, List.getElem?_range hil] at hi
    simp only [Option.map_some, Option.some.injEq] at hi
    subst hi
    obtain ⟨b, off, he, hlt, hc⟩ := hS i hil
    rw [(hf i hil).1] at hc
    exact ⟨b, off, he, hlt, hc 0 _ rfl, hc 1 _ rfl, (hf i hil).2.1⟩
  · obtain ⟨i, hi, rfl⟩ := List.mem_map.1 hx
    exact (hf i (by simpa using hi)).2.2
theorem nl_at {S : ByteArray} (h : noNL S) (m : Nat) (hm : m < S.size) : ((S[m]'hm).toNat : Int) ≠ 10 := by
  have hd : m < S.data.toList.length := by rw [Array.length_toList]; exact hm
  have := h (S.data.toList[m]'hd) (List.getElem_mem hd)
  intro he
  apply this
  have h2 : (S[m]'hm).toNat = 10 := by omega
  rw [Array.getElem_toList]
  exact UInt8.toNat_inj.1 h2
set_option maxHeartbeats 32000000 in
theorem dumpLines_walk (oa : Option Addr) (l c : Nat) (F : List Ot) (w : World) (hS : OsAt w oa F) (hl : F.length = l) (hz : ∀ f ∈ F, -9223372036854775808 ≤ f.k ∧ f.k ≤ 9223372036854775807) (ht : PowT w) :
    Calls Tryd.prog 5 #[.slice oa l c] w fun e w' => e = .returned (.bool true) ∧ Junk w w' := by
  have HS := Lib.hid hS
  have HL := Lib.hid hl
  have HZ := Lib.hid hz
  have HT := Lib.hid ht
  have HAW := Lib.hid (fun w1 hp => awake29_any w1 hp)
  clear hS hl hz ht
  by_cases h20 : l ≤ 20
  · have g20 : ¬ (20 : Int) < (l : Int) := by omega
    go_enter Tryd.func5, Tryd.ntmps5
    go_wp2_with (first | (go_at_call 6; (with_reducible refine (HAW.out _ (HT.out.on (by (first | ((repeat (first | with_reducible exact Junk.refl _ | with_reducible exact Junk.app _ _ _ _ _ | with_reducible apply Junk.alloc | with_reducible apply Junk.junk | with_reducible apply Junk.drew | with_reducible apply Junk.drewN)); done) | ((try simp only [World.junk_junk, Array.append_assoc]); (repeat (first | with_reducible exact Junk.refl _ | with_reducible exact Junk.app _ _ _ _ _ | with_reducible exact Junk.app2 _ _ _ _ _ _ | with_reducible exact Junk.app3 _ _ _ _ _ _ _ | with_reducible exact Junk.app4 _ _ _ _ _ _ _ _ | with_reducible exact Junk.app5 _ _ _ _ _ _ _ _ _ | with_reducible apply Junk.alloc | with_reducible apply Junk.junk | with_reducible apply Junk.drew | with_reducible apply Junk.drewN))))))).mono ?_); rintro e w' ⟨rfl, ⟨osj, dj, rfl⟩⟩))
    go_loop [3] (fun i => ∃ k : Nat, k ≤ l ∧ i = .int .i64 (k : Int) ∧ Hid (∀ j f, j < k → F[j]? = some f → f.l ≤ 3000)) (fun i => l + 1 - (intOf i).toNat)
    case atStart => exact ⟨0, by omega, rfl, Lib.hid (fun j f hj _ => by omega)⟩
    case round =>
      obtain ⟨k, hk, rfl, hA⟩ := hrel
      have HA := Lib.hid hA.out
      clear hA
      by_cases hkl : k < l
      · have hkl2 : (k : Int) < (l : Int) := by omega
        have pk := wrapk_i64 ((k : Int) + 1) (by omega) (by omega)
        obtain ⟨f, hf⟩ : ∃ f, F[k]? = some f := ⟨_, List.getElem?_eq_getElem (by rw [HL.out]; exact hkl)⟩
        obtain ⟨bx, off, hob, hbl, c0, c1, _⟩ := HS.out k f hf
        have HFK := Lib.hid hf
        subst hob
        obtain ⟨fk, fo, fl, fc, fx⟩ := f
        simp only at c0 c1
        clear hf
        by_cases h3 : fl ≤ 3000
        · have g3 : ¬ (3000 : Int) < (fl : Int) := by omega
          go_wp2
          exact ⟨⟨k + 1, by omega, by go_num, Lib.hid (fun j f hj hf => by
            by_cases hjk : j = k
            · subst hjk; rw [HFK.out] at hf; cases hf; exact h3
            · exact HA.out j f (by omega) hf)⟩, by simp [intOf]; omega⟩
        · have g3 : (3000 : Int) < (fl : Int) := by omega
          go_wp2
          go_ret
          exact ⟨ret_bool rfl, by (first | ((repeat (first | with_reducible exact Junk.refl _ | with_reducible exact Junk.app _ _ _ _ _ | with_reducible apply Junk.alloc | with_reducible apply Junk.junk | with_reducible apply Junk.drew | with_reducible apply Junk.drewN)); done) | ((try simp only [World.junk_junk, Array.append_assoc]); (repeat (first | with_reducible exact Junk.refl _ | with_reducible exact Junk.app _ _ _ _ _ | with_reducible exact Junk.app2 _ _ _ _ _ _ | with_reducible exact Junk.app3 _ _ _ _ _ _ _ | with_reducible exact Junk.app4 _ _ _ _ _ _ _ _ | with_reducible exact Junk.app5 _ _ _ _ _ _ _ _ _ | with_reducible apply Junk.alloc | with_reducible apply Junk.junk | with_reducible apply Junk.drew | with_reducible apply Junk.drewN))))⟩
      · have hkl2 : ¬ (k : Int) < (l : Int) := by omega
        obtain rfl : k = l := by omega
        have HOK := Lib.hid (show SnOk F from fun f hf => ⟨HZ.out f hf, by
          obtain ⟨j, hj⟩ := List.getElem?_of_mem hf
          exact HA.out j f (by have := (List.getElem?_eq_some_iff.1 hj).1; have := HL.out; omega) hj⟩)
        have HLN := Lib.hid (fun w1 (hs : OsAt w1 oa F) hp => lines_any oa k c F w1 hs HL.out h20 HOK.out hp)
        clear HA
        go_wp2_with (first | (go_at_call 12; (with_reducible refine (HLN.out _ (HS.out.on (by (first | ((repeat (first | with_reducible exact Junk.refl _ | with_reducible exact Junk.app _ _ _ _ _ | with_reducible apply Junk.alloc | with_reducible apply Junk.junk | with_reducible apply Junk.drew | with_reducible apply Junk.drewN)); done) | ((try simp only [World.junk_junk, Array.append_assoc]); (repeat (first | with_reducible exact Junk.refl _ | with_reducible exact Junk.app _ _ _ _ _ | with_reducible exact Junk.app2 _ _ _ _ _ _ | with_reducible exact Junk.app3 _ _ _ _ _ _ _ | with_reducible exact Junk.app4 _ _ _ _ _ _ _ _ | with_reducible exact Junk.app5 _ _ _ _ _ _ _ _ _ | with_reducible apply Junk.alloc | with_reducible apply Junk.junk | with_reducible apply Junk.drew | with_reducible apply Junk.drewN)))))) (HT.out.on (by (first | ((repeat (first | with_reducible exact Junk.refl _ | with_reducible exact Junk.app _ _ _ _ _ | with_reducible apply Junk.alloc | with_reducible apply Junk.junk | with_reducible apply Junk.drew | with_reducible apply Junk.drewN)); done) | ((try simp only [World.junk_junk, Array.append_assoc]); (repeat (first | with_reducible exact Junk.refl _ | with_reducible exact Junk.app _ _ _ _ _ | with_reducible exact Junk.app2 _ _ _ _ _ _ | with_reducible exact Junk.app3 _ _ _ _ _ _ _ | with_reducible exact Junk.app4 _ _ _ _ _ _ _ _ | with_reducible exact Junk.app5 _ _ _ _ _ _ _ _ _ | with_reducible apply Junk.alloc | with_reducible apply Junk.junk | with_reducible apply Junk.drew | with_reducible apply Junk.drewN))))))).mono ?_); rintro e V ⟨oo, cc, rfl, hj, hO⟩; (have HJV := Lib.hid hj); have HOV := Lib.hid hO; clear hj hO))
        go_loopw [5] (fun i wr => ∃ n : Nat, n ≤ k ∧ i = .int .i64 (n : Int) ∧ Junk V wr) (fun i _ => k + 1 - (intOf i).toNat)
        case atStart => exact ⟨0, by omega, rfl, Junk.refl _⟩
        case round =>
          obtain ⟨n, hn, rfl, hj⟩ := hrel
          have HJR := Lib.hid hj
          clear hj
          by_cases hnk : n < k
          · have hnk2 : (n : Int) < (k : Int) := by omega
            have pn := wrapk_i64 ((n : Int) + 1) (by omega) (by omega)
            obtain ⟨f, hf⟩ : ∃ f, F[n]? = some f := ⟨_, List.getElem?_eq_getElem (by rw [HL.out]; exact hnk)⟩
            have hJ0 := HJV.out.trans HJR.out
            obtain ⟨bx, off, hob, hbl, c0, c1, hB⟩ := (HS.out.on ((show Junk w _ by (first | ((repeat (first | with_reducible exact Junk.refl _ | with_reducible exact Junk.app _ _ _ _ _ | with_reducible apply Junk.alloc | with_reducible apply Junk.junk | with_reducible apply Junk.drew | with_reducible apply Junk.drewN)); done) | ((try simp only [World.junk_junk, Array.append_assoc]); (repeat (first | with_reducible exact Junk.refl _ | with_reducible exact Junk.app _ _ _ _ _ | with_reducible exact Junk.app2 _ _ _ _ _ _ | with_reducible exact Junk.app3 _ _ _ _ _ _ _ | with_reducible exact Junk.app4 _ _ _ _ _ _ _ _ | with_reducible exact Junk.app5 _ _ _ _ _ _ _ _ _ | with_reducible apply Junk.alloc | with_reducible apply Junk.junk | with_reducible apply Junk.drew | with_reducible apply Junk.drewN))))).trans hJ0)) n f hf
            obtain ⟨gx, hoc, _, hgl, co, _⟩ := (HOV.out.on HJR.out).cells n (.string (sentS f)) (by rw [List.getElem?_map, List.getElem?_map, hf]; rfl)
            obtain ⟨hz, hfl⟩ := HOK.out f (List.mem_of_getElem? hf)
            subst hob hoc
            obtain ⟨fk, fo, fl, fc, fx⟩ := f
            simp only at c0 c1 hB hz hfl
            have HB := Lib.hid hB
            have HI := Lib.hid (fun w1 => rNum_any fk hz w1)
            have HLI := Lib.hid (fun w1 (hb : Bts w1 fo fl fc fx) hp => line_any fo fl fc fx w1 (by omega) hb hp)
            have q1 := itoaS_size hz
            have q2 := lineS_size (xs := fx) (l := fl) hB.byte (by omega)
            have HNL := Lib.hid (sentS_nl ⟨fk, fo, fl, fc, fx⟩)
            obtain ⟨S, hSS⟩ : ∃ S, sentS ⟨fk, fo, fl, fc, fx⟩ = S := ⟨_, rfl⟩
            have hSe : itoaS fk ++ ⟨#[32]⟩ ++ lineS fx fl = S := hSS
            rw [hSS] at HNL co
            generalize itoaS fk = NZ at HI q1 hSe
            generalize lineS fx fl = SL at HLI q2 hSe
            have z1 : ¬ 9223372036854775807 < NZ.size + 1 := by omega
            have z2 : ¬ 9223372036854775807 < NZ.size + 1 + SL.size := by omega
            have hSz : S.size ≤ 200000000 := by rw [← hSe, ByteArray.size_append, ByteArray.size_append]; have h1 : (⟨#[32]⟩ : ByteArray).size = 1 := rfl; omega
            have HTR := Lib.hid (fun w1 (hj : Junk wr w1) => HT.out.on (((show Junk w _ by (first | ((repeat (first | with_reducible exact Junk.refl _ | with_reducible exact Junk.app _ _ _ _ _ | with_reducible apply Junk.alloc | with_reducible apply Junk.junk | with_reducible apply Junk.drew | with_reducible apply Junk.drewN)); done) | ((try simp only [World.junk_junk, Array.append_assoc]); (repeat (first | with_reducible exact Junk.refl _ | with_reducible exact Junk.app _ _ _ _ _ | with_reducible exact Junk.app2 _ _ _ _ _ _ | with_reducible exact Junk.app3 _ _ _ _ _ _ _ | with_reducible exact Junk.app4 _ _ _ _ _ _ _ _ | with_reducible exact Junk.app5 _ _ _ _ _ _ _ _ _ | with_reducible apply Junk.alloc | with_reducible apply Junk.junk | with_reducible apply Junk.drew | with_reducible apply Junk.drewN))))).trans hJ0).trans hj))
            have HJ0 := Lib.hid hJ0
            clear hB hf hSS q1 q2 hz hJ0
            go_upto_region 16 with (first | fail)
            refine wp_region_junk (by kernel_rfl) (by kernel_rfl) ?_; (repeat (go_big_quiet_step (first | first | (go_at_call 13; first | with_reducible exact Calls.junk_of (HI.out _)) | (go_at_call 7; first | with_reducible exact Calls.junk_of (HLI.out _ (HB.out.on (by (first | ((repeat (first | with_reducible exact Junk.refl _ | with_reducible exact Junk.app _ _ _ _ _ | with_reducible apply Junk.alloc | with_reducible apply Junk.junk | with_reducible apply Junk.drew | with_reducible apply Junk.drewN)); done) | ((try simp only [World.junk_junk, Array.append_assoc]); (repeat (first | with_reducible exact Junk.refl _ | with_reducible exact Junk.app _ _ _ _ _ | with_reducible exact Junk.app2 _ _ _ _ _ _ | with_reducible exact Junk.app3 _ _ _ _ _ _ _ | with_reducible exact Junk.app4 _ _ _ _ _ _ _ _ | with_reducible exact Junk.app5 _ _ _ _ _ _ _ _ _ | with_reducible apply Junk.alloc | with_reducible apply Junk.junk | with_reducible apply Junk.drew | with_reducible apply Junk.drewN)))))) (HTR.out _ (by (first | ((repeat (first | with_reducible exact Junk.refl _ | with_reducible exact Junk.app _ _ _ _ _ | with_reducible apply Junk.alloc | with_reducible apply Junk.junk | with_reducible apply Junk.drew | with_reducible apply Junk.drewN)); done) | ((try simp only [World.junk_junk, Array.append_assoc]); (repeat (first | with_reducible exact Junk.refl _ | with_reducible exact Junk.app _ _ _ _ _ | with_reducible exact Junk.app2 _ _ _ _ _ _ | with_reducible exact Junk.app3 _ _ _ _ _ _ _ | with_reducible exact Junk.app4 _ _ _ _ _ _ _ _ | with_reducible exact Junk.app5 _ _ _ _ _ _ _ _ _ | with_reducible apply Junk.alloc | with_reducible apply Junk.junk | with_reducible apply Junk.drew | with_reducible apply Junk.drewN))))))))))); refine wpQuiet_nil ?_; rintro _ ⟨⟨osq16, dq16⟩, rfl⟩
            go_upto_region 18 with (first | fail)
            clear hSe z1 z2
            go_wp2
            go_loop [6] (fun j => ∃ m : Nat, m ≤ S.size ∧ j = .int .i64 (m : Int)) (fun j => S.size + 1 - (intOf j).toNat)
            case atStart => exact ⟨0, by omega, rfl⟩
            case round =>
              obtain ⟨m, hm, rfl⟩ := hrel
              by_cases hms : m < S.size
              · have hms2 : (m : Int) < (S.size : Int) := by omega
                have pm := wrapk_i64 ((m : Int) + 1) (by omega) (by omega)
                have hnl := nl_at HNL.out m hms
                go_wp2
                exact ⟨⟨m + 1, by omega, by go_num⟩, by simp [intOf]; omega⟩
              · have hms2 : ¬ (m : Int) < (S.size : Int) := by omega
                obtain rfl : m = S.size := by omega
                go_wp2
                exact ⟨⟨n + 1, by omega, by go_num, HJR.out.trans (by (first | ((repeat (first | with_reducible exact Junk.refl _ | with_reducible exact Junk.app _ _ _ _ _ | with_reducible apply Junk.alloc | with_reducible apply Junk.junk | with_reducible apply Junk.drew | with_reducible apply Junk.drewN)); done) | ((try simp only [World.junk_junk, Array.append_assoc]); (repeat (first | with_reducible exact Junk.refl _ | with_reducible exact Junk.app _ _ _ _ _ | with_reducible exact Junk.app2 _ _ _ _ _ _ | with_reducible exact Junk.app3 _ _ _ _ _ _ _ | with_reducible exact Junk.app4 _ _ _ _ _ _ _ _ | with_reducible exact Junk.app5 _ _ _ _ _ _ _ _ _ | with_reducible apply Junk.alloc | with_reducible apply Junk.junk | with_reducible apply Junk.drew | with_reducible apply Junk.drewN)))))⟩, by simp [intOf]; omega⟩
          · have hnk2 : ¬ (n : Int) < (k : Int) := by omega
            go_wp2
            go_ret
            exact ⟨ret_bool rfl, (show Junk w _ by (first | ((repeat (first | with_reducible exact Junk.refl _ | with_reducible exact Junk.app _ _ _ _ _ | with_reducible apply Junk.alloc | with_reducible apply Junk.junk | with_reducible apply Junk.drew | with_reducible apply Junk.drewN)); done) | ((try simp only [World.junk_junk, Array.append_assoc]); (repeat (first | with_reducible exact Junk.refl _ | with_reducible exact Junk.app _ _ _ _ _ | with_reducible exact Junk.app2 _ _ _ _ _ _ | with_reducible exact Junk.app3 _ _ _ _ _ _ _ | with_reducible exact Junk.app4 _ _ _ _ _ _ _ _ | with_reducible exact Junk.app5 _ _ _ _ _ _ _ _ _ | with_reducible apply Junk.alloc | with_reducible apply Junk.junk | with_reducible apply Junk.drew | with_reducible apply Junk.drewN))))).trans (HJV.out.trans (HJR.out.trans (by (first | ((repeat (first | with_reducible exact Junk.refl _ | with_reducible exact Junk.app _ _ _ _ _ | with_reducible apply Junk.alloc | with_reducible apply Junk.junk | with_reducible apply Junk.drew | with_reducible apply Junk.drewN)); done) | ((try simp only [World.junk_junk, Array.append_assoc]); (repeat (first | with_reducible exact Junk.refl _ | with_reducible exact Junk.app _ _ _ _ _ | with_reducible exact Junk.app2 _ _ _ _ _ _ | with_reducible exact Junk.app3 _ _ _ _ _ _ _ | with_reducible exact Junk.app4 _ _ _ _ _ _ _ _ | with_reducible exact Junk.app5 _ _ _ _ _ _ _ _ _ | with_reducible apply Junk.alloc | with_reducible apply Junk.junk | with_reducible apply Junk.drew | with_reducible apply Junk.drewN)))))))⟩
  · have g20 : (20 : Int) < (l : Int) := by omega
    go_enter Tryd.func5, Tryd.ntmps5
    go_wp2_with (first | (go_at_call 6; (with_reducible refine (HAW.out _ (HT.out.on (by (first | ((repeat (first | with_reducible exact Junk.refl _ | with_reducible exact Junk.app _ _ _ _ _ | with_reducible apply Junk.alloc | with_reducible apply Junk.junk | with_reducible apply Junk.drew | with_reducible apply Junk.drewN)); done) | ((try simp only [World.junk_junk, Array.append_assoc]); (repeat (first | with_reducible exact Junk.refl _ | with_reducible exact Junk.app _ _ _ _ _ | with_reducible exact Junk.app2 _ _ _ _ _ _ | with_reducible exact Junk.app3 _ _ _ _ _ _ _ | with_reducible exact Junk.app4 _ _ _ _ _ _ _ _ | with_reducible exact Junk.app5 _ _ _ _ _ _ _ _ _ | with_reducible apply Junk.alloc | with_reducible apply Junk.junk | with_reducible apply Junk.drew | with_reducible apply Junk.drewN))))))).mono ?_); rintro e w' ⟨rfl, ⟨osj, dj, rfl⟩⟩))
    go_ret
    exact ⟨ret_bool rfl, by (first | ((repeat (first | with_reducible exact Junk.refl _ | with_reducible exact Junk.app _ _ _ _ _ | with_reducible apply Junk.alloc | with_reducible apply Junk.junk | with_reducible apply Junk.drew | with_reducible apply Junk.drewN)); done) | ((try simp only [World.junk_junk, Array.append_assoc]); (repeat (first | with_reducible exact Junk.refl _ | with_reducible exact Junk.app _ _ _ _ _ | with_reducible exact Junk.app2 _ _ _ _ _ _ | with_reducible exact Junk.app3 _ _ _ _ _ _ _ | with_reducible exact Junk.app4 _ _ _ _ _ _ _ _ | with_reducible exact Junk.app5 _ _ _ _ _ _ _ _ _ | with_reducible apply Junk.alloc | with_reducible apply Junk.junk | with_reducible apply Junk.drew | with_reducible apply Junk.drewN))))⟩
theorem dumpLines_core (W : World) (base : Nat) (v0 : Value) (a0 : Arg Tryd.prog W base 34 v0) (hL : laidMetH Tryd.prog Rows.dumpLinesRow.laid W) :
    Calls Tryd.prog 5 #[v0] W fun e W' => e = .returned (.bool true) ∧ Junk W W' := by
  have f_l := a0.slice Tryd.underlying34
  obtain ⟨l_a, l_l, l_c, l, e_l, lc_l, cm_l, S_l, r_l⟩ := f_l.slice Tryd.underlying34 (Nat.lt_of_lt_of_eq (by decide : 0 < 2) (by kernel_rfl)); cases e_l
  obtain ⟨F, hF, hS, hz⟩ := sents_of S_l r_l
  exact dumpLines_walk l_a l_l l_c F W hS hF hz (pow_of hL)
theorem dumpLines_door (os : Os) (args : Array Value) : laidMetH Tryd.prog Rows.dumpLinesRow.laid ((World.doorLaid Tryd.prog 24 os).forCall (fun _ _ => 0) ⟨#[], args, []⟩).memory :=
  laidMetH_of_parts3 (fuel := 8) (laidMet_of_run' 8 (by kernel_rfl) (by kernel_rfl)) (by kernel_rfl) (by kernel_rfl)
set_option maxRecDepth 100000 in
theorem dumpLines_lifted (os : Os) (started : os.Started) (H : Type) (enc : TypeId × Value → H) :
    ReturnsInHanded {} Tryd.checked os 5 .any (fun w args => (Rows.dumpLinesSpec.pre enc Tryd.prog Tryd.f5 [] false w args ∧ laidMetH Tryd.prog Rows.dumpLinesRow.laid w) ∧ sizedMet enc Tryd.prog Tryd.f5 (OpenSpec.ofChange Rows.dumpLinesSpec) false w args)
      (Rows.dumpLinesSpec.post enc Tryd.prog Tryd.f5 false true false false) := by
  refine returnsInHanded_of_change_and (C := Tryd.checked) (X := fun w _ => laidMetH Tryd.prog Rows.dumpLinesRow.laid w) (fun _ _ _ hh h => h.of_heap hh) (by kernel_rfl) started (by kernel_rfl) Tryd.func5
    (ChangeSpec.witness_shaped (enc := enc) (C := Tryd.checked) (os := os) (X := fun w _ => laidMetH Tryd.prog Rows.dumpLinesRow.laid w) false (World.doorLaid Tryd.prog 24 os) #[.slice none 0 0] 8 rfl (World.shaped_of_RefB (by kernel_rfl) (by kernel_rfl)) (by kernel_rfl) (by kernel_rfl) (by kernel_rfl) (dumpLines_door os _)) ?_
  intro W base args ds gs before hval hW _ _ hL _
  obtain ⟨p, q, hA, _, _, _, _⟩ := id hW
  have hargs : Args Tryd.prog W base Tryd.f5.params.toList args.toList := args_of (fun j t v h1 h2 => hval j t v (by simpa using h1) (by simpa using h2)) hA
  rw [Tryd.params5] at hargs
  obtain ⟨v0, l0, e0, a0, r0⟩ := args_cons hargs
  have hn := args_nil r0
  have he : args = #[v0] := by
    apply Array.ext'
    simp only [e0, hn]
  subst he
  exact (dumpLines_core W base v0 a0 hL).mono fun e W' ⟨he, hj⟩ => ⟨_, he, post_true (tb := 4) (by kernel_rfl) (by kernel_rfl) rfl (by kernel_rfl) rfl hW (fun hg hl => by
    subst hg
    match ds, hl with
    | [_], _ => exact ⟨rfl, rfl, rfl⟩) hj⟩
theorem dumpLines_said : Rows.DumpLinesSaid :=
  OpenClaim.holds_of_wide 5 Tryd.f5 rfl rfl rfl rfl rfl rfl rfl ⟨rfl, rfl, rfl, rfl, rfl⟩ rfl rfl rfl rfl rfl (by kernel_rfl) Tryd.func5 (by kernel_rfl)
    (of_decide_eq_true (by kernel_rfl)) (by unfold Func.isWrapper; first | (rw [if_pos (by decide +kernel)]; kernel_rfl) | (rw [if_neg (by decide +kernel)]; exact ⟨rfl, rfl⟩))
    (fun os started H enc _ => dumpLines_lifted os started H enc)
theorem dumpLines_holds : Rows.DumpLinesCardSaid :=
  Claim7.holds_tied_plain_at .later [] [.data, .data, .data] true (true, "24ce6e6425ba20b2bf2ed908663d61a0dfbca92a8b49e84ab656d803d4971b2a") false
    dumpLines_said (fun _ h => by cases h) (by kernel_rfl) (fun _ h => by cases h) dumpLines_row_tie rfl ⟨rfl, rfl⟩ (by kernel_rfl) rfl
    (fun f fn hf hfn => by
      obtain rfl : f = 5 := Option.some.inj ((show Tryd.prog.funcNamed Rows.dumpLinesRow.func = some 5 by kernel_rfl).symm.trans hf) |>.symm
      obtain rfl : fn = Tryd.f5 := (Option.some.inj (Tryd.func5.symm.trans hfn)).symm
      exact ⟨by kernel_rfl, fun j t ht => by
        rw [Tryd.params5] at ht
        rcases j with _ | j
        · obtain rfl : t = 34 := by simpa using ht.symm
          exact (show Tryd.prog.wantsStandIn 34 = false by kernel_rfl)
        · simp at ht⟩)
    (by kernel_rfl)

end Go.Proofs.YtfkhnhenemgcmaaDoor
