/- reasm.Right. -/
import Derived.Test.YtgjppmkadmfibaaRsF
set_option linter.unusedVariables false
set_option maxRecDepth 100000
set_option linter.unusedSimpArgs false
namespace Go.Proofs.Ytgjppmkadmfibaa
open Go.RowKit
def oneOf (b : Bq) (x : Bq) : Bool := mineB x b.src b.dst b.id b.proto
def listGo (now : Int) : List Bq → List Bq → Bool
  | _, [] => true
  | seen, b :: r => bufB b now && (!(seen.any (oneOf b)) && listGo now (seen ++ [b]) r)
def rightQ (room life now : Int) (L : List Bq) : Bool := wiR room 1 1048576 && (wiR life 1 1048576 && (wiR now 0 1099511627776 && (decide (L.length ≤ 64) && (listGo now [] L && decide ((heldQ L : Int) ≤ room)))))
theorem listGo_step {now : Int} {Q : List Bq} {k : Nat} {b : Bq} (h : Q[k]? = some b) : listGo now (Q.take k) (Q.drop k) = (bufB b now && (!((Q.take k).any (oneOf b)) && listGo now (Q.take (k + 1)) (Q.drop (k + 1)))) := by
  obtain ⟨hk, rfl⟩ := List.getElem?_eq_some_iff.1 h
  rw [List.drop_eq_getElem_cons hk, listGo, List.take_add_one, h]
  rfl
set_option maxRecDepth 100000 in
set_option maxHeartbeats 32000000 in
theorem right_loop (room life now : Int) (oa : Option Addr) (l c : Nat) (L : List Bf) (w : World) (hP : PlAt w oa L) (hl : L.length = l) (hl2 : l ≤ 64) (hlc : l ≤ c) (hs : heldQ (L.map Bf.q) ≤ 1000000000000) (hF : ∀ b ∈ L, b.F.length ≤ 1000000) (hol : ∀ b ∈ L, b.head.ol ≤ 1000) (hW : ∀ b ∈ L, BfWf b)
    (h1 : wiR room 1 1048576 = true) (h2 : wiR life 1 1048576 = true) (h3 : wiR now 0 1099511627776 = true) :
    Calls Try.prog 13 #[.agg #[.int .i64 room, .int .i64 life, .int .i64 now, .slice oa l c]] w fun e w' => e = .returned (.bool (rightQ room life now (L.map Bf.q))) ∧ Junk w w' := by
  have HR := Lib.hid (show rightQ room life now (L.map Bf.q) = (listGo now ((L.map Bf.q).take 0) ((L.map Bf.q).drop 0) && decide ((heldQ (L.map Bf.q) : Int) ≤ room)) from by
    unfold rightQ; rw [h1, h2, h3, List.length_map, hl, decide_eq_true hl2]; simp)
  have HP := Lib.hid hP
  have HL := Lib.hid hl
  have HF := Lib.hid hF
  have HOL := Lib.hid hol
  have HW := Lib.hid hW
  have HHD := Lib.hid (fun w1 hp => held_any room life now oa l c L w1 hp hl (by omega) hs hF)
  have H1 := Lib.hid (fun w1 => show Calls Try.prog 21 #[.int .i64 room, .int .i64 1, .int .i64 1048576] w1 fun e w' => e = .returned (.bool true) ∧ Junk w1 w' from h1 ▸ rin_any room 1 1048576 w1)
  have H2 := Lib.hid (fun w1 => show Calls Try.prog 21 #[.int .i64 life, .int .i64 1, .int .i64 1048576] w1 fun e w' => e = .returned (.bool true) ∧ Junk w1 w' from h2 ▸ rin_any life 1 1048576 w1)
  have H3 := Lib.hid (fun w1 => show Calls Try.prog 21 #[.int .i64 now, .int .i64 0, .int .i64 1099511627776] w1 fun e w' => e = .returned (.bool true) ∧ Junk w1 w' from h3 ▸ rin_any now 0 1099511627776 w1)
  obtain ⟨T, hT⟩ : ∃ T, rightQ room life now (L.map Bf.q) = T := ⟨_, rfl⟩
  have HT := Lib.hid hT
  rw [hT]
  have hl3 : (l : Int) ≤ 64 := by omega
  clear hP hl hF hol hW hs h1 h2 h3 hT
  go_enter Try.func13, Try.ntmps13
  go_wp2_with (first | (go_at_call 21; first | ((with_reducible refine (H1.out _).mono ?_); rintro e w' ⟨rfl, ⟨osa, da, rfl⟩⟩) | ((with_reducible refine (H2.out _).mono ?_); rintro e w' ⟨rfl, ⟨osb, db, rfl⟩⟩) | ((with_reducible refine (H3.out _).mono ?_); rintro e w' ⟨rfl, ⟨osc, dc, rfl⟩⟩)))
  go_loopw [30] (fun i wr => ∃ k : Nat, k ≤ l ∧ i = .int .i64 (k : Int) ∧ Junk (w.alloc (.cells #[.int .i64 room, .int .i64 life, .int .i64 now, .slice oa l c] 31)) wr ∧ Hid (listGo now ((L.map Bf.q).take 0) ((L.map Bf.q).drop 0) = listGo now ((L.map Bf.q).take k) ((L.map Bf.q).drop k))) (fun i _ => l + 1 - (intOf i).toNat)
  case atStart => exact ⟨0, by omega, rfl, by (exact jkc), Lib.hid rfl⟩
  case round =>
    obtain ⟨k, hk, rfl, hj, hG⟩ := hrel
    have HJ := Lib.hid hj
    have HG := Lib.hid hG.out
    have t0 := ((hj.below (Nat.le_refl _)).cell (p := ⟨w.heap.size, 0, none⟩) (by simp)).trans (show (w.alloc (.cells #[.int .i64 room, .int .i64 life, .int .i64 now, .slice oa l c] 31)).cell? ⟨w.heap.size, 0, none⟩ = some (.int .i64 room) by rw [World.cell?_alloc_new]; rfl)
    have t1 := ((hj.below (Nat.le_refl _)).cell (p := ⟨w.heap.size, 1, none⟩) (by simp)).trans (show (w.alloc (.cells #[.int .i64 room, .int .i64 life, .int .i64 now, .slice oa l c] 31)).cell? ⟨w.heap.size, 1, none⟩ = some (.int .i64 life) by rw [World.cell?_alloc_new]; rfl)
    have t2 := ((hj.below (Nat.le_refl _)).cell (p := ⟨w.heap.size, 2, none⟩) (by simp)).trans (show (w.alloc (.cells #[.int .i64 room, .int .i64 life, .int .i64 now, .slice oa l c] 31)).cell? ⟨w.heap.size, 2, none⟩ = some (.int .i64 now) by rw [World.cell?_alloc_new]; rfl)
    have t3 := ((hj.below (Nat.le_refl _)).cell (p := ⟨w.heap.size, 3, none⟩) (by simp)).trans (show (w.alloc (.cells #[.int .i64 room, .int .i64 life, .int .i64 now, .slice oa l c] 31)).cell? ⟨w.heap.size, 3, none⟩ = some (.slice oa l c) by rw [World.cell?_alloc_new]; rfl)
    have ts : w.heap.size < wr.heap.size := Nat.lt_of_lt_of_le (by simp) hj.size
    clear hj hG
    by_cases hkl : k < l
    · have hkl2 : (k : Int) < (l : Int) := by omega
      have pk := wrapk_i64 ((k : Int) + 1) (by omega) (by omega)
      obtain ⟨b, hb⟩ : ∃ b, L[k]? = some b := ⟨_, List.getElem?_eq_getElem (by rw [HL.out]; exact hkl)⟩
      obtain ⟨g, off, hob, hgl, hc, hin⟩ := (HP.out.on ((show Junk w _ by (exact jkc)).trans HJ.out)) k b hb
      have HBQ := Lib.hid (show (L.map Bf.q)[k]? = some b.q by rw [List.getElem?_map, hb]; rfl)
      have hm := List.mem_of_getElem? hb
      obtain ⟨n, hn⟩ : ∃ n, b.F.length = n := ⟨_, rfl⟩
      have HC := Lib.hid (show ∀ j v, ([.int .u32 b.src, .int .u32 b.dst, .int .i64 b.id, .int .i64 b.proto, .int .i64 b.born, .int .i64 b.head.tos, .int .i64 b.head.id, .bool b.head.df, .bool b.head.mf, .int .i64 b.head.off, .int .i64 b.head.ttl, .int .i64 b.head.proto, .int .u32 b.head.src, .int .u32 b.head.dst, .slice b.ho b.head.ol b.hoc, .slice b.hb b.head.bl b.hbc, .bool b.first, .int .i64 b.total, .slice b.ro n b.rc])[j]? = some v → wr.cell? ⟨g, off + k * 19 + j, none⟩ = some v from by rw [← hn]; exact hc)
      have HPW := Lib.hid (HP.out.on ((show Junk w _ by (exact jkc)).trans HJ.out))
      obtain ⟨B, hB⟩ : ∃ B, bufB b.q now = B := ⟨_, rfl⟩
      have HBU := Lib.hid (fun w1 (hi : BfIn w1 b) => show Calls Try.prog 37 #[.agg #[.int .u32 b.src, .int .u32 b.dst, .int .i64 b.id, .int .i64 b.proto, .int .i64 b.born, .int .i64 b.head.tos, .int .i64 b.head.id, .bool b.head.df, .bool b.head.mf, .int .i64 b.head.off, .int .i64 b.head.ttl, .int .i64 b.head.proto, .int .u32 b.head.src, .int .u32 b.head.dst, .slice b.ho b.head.ol b.hoc, .slice b.hb b.head.bl b.hbc, .bool b.first, .int .i64 b.total, .slice b.ro n b.rc], .int .i64 now] w1 fun e w' => e = .returned (.bool B) ∧ Junk w1 w' from by rw [← hB]; exact buffer_any b n now w1 hn (by rw [← hn]; exact HF.out b hm) (HW.out b hm).total (HOL.out b hm) hi)
      obtain ⟨A, hA⟩ : ∃ A, ((L.map Bf.q).take k).any (oneOf b.q) = A := ⟨_, rfl⟩
      have HCF := Lib.hid (fun w1 gb (hp : PlAt w1 oa L) (hpr : PrIs 39 #[.pointer (some ⟨gb, 0, none⟩)] w1 (fun x => mineB x b.src b.dst b.id b.proto)) => show Calls Try.prog 38 #[.slice oa k c, .func (.func 39) #[] #[.pointer (some ⟨gb, 0, none⟩)]] w1 fun e w' => e = .returned (.bool A) ∧ Junk w1 w' from by
        rw [← hA]
        have h5 := rcont_any 39 #[.pointer (some ⟨gb, 0, none⟩)] oa k c (L.take k) _ w1 (by omega) (by rw [List.length_take, HL.out]; omega) (hp.take k) hpr (fun _ _ => enter_fn Try.func39 (by kernel_rfl) rfl _ _)
        rw [List.map_take] at h5
        exact h5)
      have HIN := Lib.hid hin
      have HST := Lib.hid (listGo_step (now := now) HBQ.out)
      rw [hB, hA] at HST
      have HCL := Lib.hid (fun os d => clo39_any wr.heap.size b.src b.dst b.id b.proto ((wr.alloc (.cells #[.int .u32 b.src, .int .u32 b.dst, .int .i64 b.id, .int .i64 b.proto, .int .i64 b.born, .int .i64 b.head.tos, .int .i64 b.head.id, .bool b.head.df, .bool b.head.mf, .int .i64 b.head.off, .int .i64 b.head.ttl, .int .i64 b.head.proto, .int .u32 b.head.src, .int .u32 b.head.dst, .slice b.ho b.head.ol b.hoc, .slice b.hb b.head.bl b.hbc, .bool b.first, .int .i64 b.total, .slice b.ro n b.rc] 45)).junk os d) (by simp; omega) (by rw [World.cell?_junk _ _ _ _ _ (by simp), World.cell?_alloc_new]; rfl) (by rw [World.cell?_junk _ _ _ _ _ (by simp), World.cell?_alloc_new]; rfl) (by rw [World.cell?_junk _ _ _ _ _ (by simp), World.cell?_alloc_new]; rfl) (by rw [World.cell?_junk _ _ _ _ _ (by simp), World.cell?_alloc_new]; rfl))
      subst hob
      clear hc hin hb hn hB hA hm
      cases B with
      | false =>
        have HF0 := Lib.hid (show T = false from by rw [← HT.out, HR.out, HG.out, HST.out]; rfl)
        go_wp2_with (first | ((with_reducible show wpList _ _ _ _ _ _); refine wpList_loadAgg rfl 45 _ rfl Try.isAgg45 g (off + k * 19) [.int .u32 b.src, .int .u32 b.dst, .int .i64 b.id, .int .i64 b.proto, .int .i64 b.born, .int .i64 b.head.tos, .int .i64 b.head.id, .bool b.head.df, .bool b.head.mf, .int .i64 b.head.off, .int .i64 b.head.ttl, .int .i64 b.head.proto, .int .u32 b.head.src, .int .u32 b.head.dst, .slice b.ho b.head.ol b.hoc, .slice b.hb b.head.bl b.hbc, .bool b.first, .int .i64 b.total, .slice b.ro n b.rc] Try.sizeOf45 rfl HC.out ?_) | ((with_reducible show wpList _ _ _ _ _ _); refine wpList_storeNew rfl 45 _ _ rfl #[.int .u32 0, .int .u32 0, .int .i64 0, .int .i64 0, .int .i64 0, .int .i64 0, .int .i64 0, .bool false, .bool false, .int .i64 0, .int .i64 0, .int .i64 0, .int .u32 0, .int .u32 0, .slice none 0 0, .slice none 0 0, .bool false, .int .i64 0, .slice none 0 0] #[.int .u32 b.src, .int .u32 b.dst, .int .i64 b.id, .int .i64 b.proto, .int .i64 b.born, .int .i64 b.head.tos, .int .i64 b.head.id, .bool b.head.df, .bool b.head.mf, .int .i64 b.head.off, .int .i64 b.head.ttl, .int .i64 b.head.proto, .int .u32 b.head.src, .int .u32 b.head.dst, .slice b.ho b.head.ol b.hoc, .slice b.hb b.head.bl b.hbc, .bool b.first, .int .i64 b.total, .slice b.ro n b.rc] (show (Try.prog.info? 45).map (·.size) = some 19 from by kernel_rfl) rfl (by simp [Value.oneCell']) _ (by first | rfl | simp) rfl rfl ?_) | ((with_reducible show wpList _ _ _ _ _ _); refine wpList_loadAgg rfl 45 _ rfl Try.isAgg45 _ 0 [.int .u32 b.src, .int .u32 b.dst, .int .i64 b.id, .int .i64 b.proto, .int .i64 b.born, .int .i64 b.head.tos, .int .i64 b.head.id, .bool b.head.df, .bool b.head.mf, .int .i64 b.head.off, .int .i64 b.head.ttl, .int .i64 b.head.proto, .int .u32 b.head.src, .int .u32 b.head.dst, .slice b.ho b.head.ol b.hoc, .slice b.hb b.head.bl b.hbc, .bool b.first, .int .i64 b.total, .slice b.ro n b.rc] Try.sizeOf45 rfl boxw_cells ?_) | (go_at_call 37; (with_reducible refine (HBU.out _ (HIN.out.on (by (exact jkc)))).mono ?_); rintro e w' ⟨rfl, ⟨osj, dj, rfl⟩⟩))
        go_ret
        exact ⟨by rw [HF0.out]; rfl, (show Junk w _ by (exact jkc)).trans (HJ.out.trans (by (exact jkc)))⟩
      | true =>
        cases A with
        | true =>
          have HF0 := Lib.hid (show T = false from by rw [← HT.out, HR.out, HG.out, HST.out]; rfl)
          go_wp2_with (first | ((with_reducible show wpList _ _ _ _ _ _); refine wpList_loadAgg rfl 45 _ rfl Try.isAgg45 g (off + k * 19) [.int .u32 b.src, .int .u32 b.dst, .int .i64 b.id, .int .i64 b.proto, .int .i64 b.born, .int .i64 b.head.tos, .int .i64 b.head.id, .bool b.head.df, .bool b.head.mf, .int .i64 b.head.off, .int .i64 b.head.ttl, .int .i64 b.head.proto, .int .u32 b.head.src, .int .u32 b.head.dst, .slice b.ho b.head.ol b.hoc, .slice b.hb b.head.bl b.hbc, .bool b.first, .int .i64 b.total, .slice b.ro n b.rc] Try.sizeOf45 rfl HC.out ?_) | ((with_reducible show wpList _ _ _ _ _ _); refine wpList_storeNew rfl 45 _ _ rfl #[.int .u32 0, .int .u32 0, .int .i64 0, .int .i64 0, .int .i64 0, .int .i64 0, .int .i64 0, .bool false, .bool false, .int .i64 0, .int .i64 0, .int .i64 0, .int .u32 0, .int .u32 0, .slice none 0 0, .slice none 0 0, .bool false, .int .i64 0, .slice none 0 0] #[.int .u32 b.src, .int .u32 b.dst, .int .i64 b.id, .int .i64 b.proto, .int .i64 b.born, .int .i64 b.head.tos, .int .i64 b.head.id, .bool b.head.df, .bool b.head.mf, .int .i64 b.head.off, .int .i64 b.head.ttl, .int .i64 b.head.proto, .int .u32 b.head.src, .int .u32 b.head.dst, .slice b.ho b.head.ol b.hoc, .slice b.hb b.head.bl b.hbc, .bool b.first, .int .i64 b.total, .slice b.ro n b.rc] (show (Try.prog.info? 45).map (·.size) = some 19 from by kernel_rfl) rfl (by simp [Value.oneCell']) _ (by first | rfl | simp) rfl rfl ?_) | ((with_reducible show wpList _ _ _ _ _ _); refine wpList_loadAgg rfl 45 _ rfl Try.isAgg45 _ 0 [.int .u32 b.src, .int .u32 b.dst, .int .i64 b.id, .int .i64 b.proto, .int .i64 b.born, .int .i64 b.head.tos, .int .i64 b.head.id, .bool b.head.df, .bool b.head.mf, .int .i64 b.head.off, .int .i64 b.head.ttl, .int .i64 b.head.proto, .int .u32 b.head.src, .int .u32 b.head.dst, .slice b.ho b.head.ol b.hoc, .slice b.hb b.head.bl b.hbc, .bool b.first, .int .i64 b.total, .slice b.ro n b.rc] Try.sizeOf45 rfl boxw_cells ?_) | (go_at_call 37; (with_reducible refine (HBU.out _ (HIN.out.on (by (exact jkc)))).mono ?_); rintro e w' ⟨rfl, ⟨osj, dj, rfl⟩⟩) | (go_at_call 38; (with_reducible refine (HCF.out _ _ (HPW.out.on (by (exact jkc))) (HCL.out _ _)).mono ?_); rintro e w' ⟨rfl, ⟨osj, dj, rfl⟩⟩))
          go_ret
          exact ⟨by rw [HF0.out]; rfl, (show Junk w _ by (exact jkc)).trans (HJ.out.trans (by (exact jkc)))⟩
        | false =>
          go_wp2_with (first | ((with_reducible show wpList _ _ _ _ _ _); refine wpList_loadAgg rfl 45 _ rfl Try.isAgg45 g (off + k * 19) [.int .u32 b.src, .int .u32 b.dst, .int .i64 b.id, .int .i64 b.proto, .int .i64 b.born, .int .i64 b.head.tos, .int .i64 b.head.id, .bool b.head.df, .bool b.head.mf, .int .i64 b.head.off, .int .i64 b.head.ttl, .int .i64 b.head.proto, .int .u32 b.head.src, .int .u32 b.head.dst, .slice b.ho b.head.ol b.hoc, .slice b.hb b.head.bl b.hbc, .bool b.first, .int .i64 b.total, .slice b.ro n b.rc] Try.sizeOf45 rfl HC.out ?_) | ((with_reducible show wpList _ _ _ _ _ _); refine wpList_storeNew rfl 45 _ _ rfl #[.int .u32 0, .int .u32 0, .int .i64 0, .int .i64 0, .int .i64 0, .int .i64 0, .int .i64 0, .bool false, .bool false, .int .i64 0, .int .i64 0, .int .i64 0, .int .u32 0, .int .u32 0, .slice none 0 0, .slice none 0 0, .bool false, .int .i64 0, .slice none 0 0] #[.int .u32 b.src, .int .u32 b.dst, .int .i64 b.id, .int .i64 b.proto, .int .i64 b.born, .int .i64 b.head.tos, .int .i64 b.head.id, .bool b.head.df, .bool b.head.mf, .int .i64 b.head.off, .int .i64 b.head.ttl, .int .i64 b.head.proto, .int .u32 b.head.src, .int .u32 b.head.dst, .slice b.ho b.head.ol b.hoc, .slice b.hb b.head.bl b.hbc, .bool b.first, .int .i64 b.total, .slice b.ro n b.rc] (show (Try.prog.info? 45).map (·.size) = some 19 from by kernel_rfl) rfl (by simp [Value.oneCell']) _ (by first | rfl | simp) rfl rfl ?_) | ((with_reducible show wpList _ _ _ _ _ _); refine wpList_loadAgg rfl 45 _ rfl Try.isAgg45 _ 0 [.int .u32 b.src, .int .u32 b.dst, .int .i64 b.id, .int .i64 b.proto, .int .i64 b.born, .int .i64 b.head.tos, .int .i64 b.head.id, .bool b.head.df, .bool b.head.mf, .int .i64 b.head.off, .int .i64 b.head.ttl, .int .i64 b.head.proto, .int .u32 b.head.src, .int .u32 b.head.dst, .slice b.ho b.head.ol b.hoc, .slice b.hb b.head.bl b.hbc, .bool b.first, .int .i64 b.total, .slice b.ro n b.rc] Try.sizeOf45 rfl boxw_cells ?_) | (go_at_call 37; (with_reducible refine (HBU.out _ (HIN.out.on (by (exact jkc)))).mono ?_); rintro e w' ⟨rfl, ⟨osj, dj, rfl⟩⟩) | (go_at_call 38; (with_reducible refine (HCF.out _ _ (HPW.out.on (by (exact jkc))) (HCL.out _ _)).mono ?_); rintro e w' ⟨rfl, ⟨osj, dj, rfl⟩⟩))
          exact ⟨⟨k + 1, by omega, by go_num, HJ.out.trans (by (exact jkc)), Lib.hid (by rw [HG.out, HST.out]; rfl)⟩, by simp [intOf]; omega⟩
    · have hkl2 : ¬ (k : Int) < (l : Int) := by omega
      obtain rfl : k = l := by omega
      have HE := Lib.hid (show T = decide ((heldQ (L.map Bf.q) : Int) ≤ room) from by
        rw [← HT.out, HR.out, HG.out, List.drop_of_length_le (by rw [List.length_map, HL.out]; exact Nat.le_refl _)]; simp [listGo])
      have HHW := Lib.hid (fun w1 (hj : Junk wr w1) => HHD.out w1 ((HP.out.on ((show Junk w _ by (exact jkc)).trans HJ.out)).on hj))
      generalize heldQ (L.map Bf.q) = HQ at HE HHW
      go_upto_region 9 with (first | fail)
      refine wp_region_junk (by kernel_rfl) (by kernel_rfl) ?_
      repeat (go_big_quiet_step (first | (go_at_call 14; with_reducible exact Calls.jc (HHW.out _ (by (exact jkc))))))
      refine wpQuiet_nil ?_; rintro _ ⟨⟨osq1, dq1⟩, rfl⟩
      go_wp2
      go_ret
      exact ⟨by rw [HE.out]; rfl, (show Junk w _ by (exact jkc)).trans (HJ.out.trans (by (exact jkc)))⟩
end Go.Proofs.Ytgjppmkadmfibaa
