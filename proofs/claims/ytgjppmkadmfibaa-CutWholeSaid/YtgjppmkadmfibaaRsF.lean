/- The closures of reasm: whose buffer, what is too old. -/
import Derived.Test.YtgjppmkadmfibaaRsE1
import Derived.Test.YtgjppmkadmfibaaRsE2
import Derived.Test.YtgjppmkadmfibaaRsE3
import Derived.Test.YtgjppmkadmfibaaRsE4
import Derived.Test.YtgjppmkadmfibaaRsD
set_option linter.unusedVariables false
set_option maxRecDepth 100000
set_option linter.unusedSimpArgs false
namespace Go.Proofs.Ytgjppmkadmfibaa
open Go.RowKit
theorem buffer_any (b : Bf) (n : Nat) (now : Int) (w : World) (hn : b.F.length = n) (hn6 : n ≤ 1000000) (htot : -9223372036854775808 ≤ b.total ∧ b.total ≤ 9223372036854775807) (hol : b.head.ol ≤ 1000) (hin : BfIn w b) :
    Calls Try.prog 37 #[.agg #[.int .u32 b.src, .int .u32 b.dst, .int .i64 b.id, .int .i64 b.proto, .int .i64 b.born, .int .i64 b.head.tos, .int .i64 b.head.id, .bool b.head.df, .bool b.head.mf, .int .i64 b.head.off, .int .i64 b.head.ttl, .int .i64 b.head.proto, .int .u32 b.head.src, .int .u32 b.head.dst, .slice b.ho b.head.ol b.hoc, .slice b.hb b.head.bl b.hbc, .bool b.first, .int .i64 b.total, .slice b.ro n b.rc], .int .i64 now] w fun e w' => e = .returned (.bool (bufB b.q now)) ∧ Junk w w' := by
  obtain ⟨src, dst, id, proto, born, h, first, total, F, ho, hoc, hb, hbc, ro, rc⟩ := b
  by_cases ht : total = -1
  · cases first with
    | true => exact buffer_true_m src dst id proto born total now h F ho hb ro hoc hbc rc n w ht hn hn6 htot hol hin
    | false => exact buffer_false_m src dst id proto born total now h F ho hb ro hoc hbc rc n w ht hn hn6 htot hol hin
  · cases first with
    | true => exact buffer_true_n src dst id proto born total now h F ho hb ro hoc hbc rc n w ht hn hn6 htot hol hin
    | false => exact buffer_false_n src dst id proto born total now h F ho hb ro hoc hbc rc n w ht hn hn6 htot hol hin
end Go.Proofs.Ytgjppmkadmfibaa
set_option linter.unusedVariables false
set_option maxRecDepth 100000
set_option linter.unusedSimpArgs false
namespace Go.Proofs.Ytgjppmkadmfibaa
open Go.RowKit
theorem enter_fn {P : Program} {f : FuncId} {fn : Func} {c : Code} (hf : P.funcs[f]? = some fn) (hname : (fn.name == "runtime.NumGoroutine") = false) (hb : fn.body = some c) (args : Array Value) (w : World) :
    (callFunc f args).run P w = .ok (.enter f args) w := by
  have h1 : fn.name ≠ "runtime.NumGoroutine" := by simpa using hname
  simp [callFunc, hf, h1, hb]
theorem boxw_cells {w : World} {cs : List Value} {t : TypeId} : ∀ j v, cs[j]? = some v → (w.alloc (.cells cs.toArray t)).cell? ⟨w.heap.size, 0 + j, none⟩ = some v := by
  intro j v hv
  rw [Nat.zero_add, World.cell?_alloc_new]
  simpa using hv
theorem PlAt.take {w : World} {oa : Option Addr} {L : List Bf} (h : PlAt w oa L) (k : Nat) : PlAt w oa (L.take k) := fun i b hb => h i b (by
  rw [List.getElem?_take] at hb
  split at hb
  · exact hb
  · cases hb)
/-- A variable's cells, read through junk. -/
theorem cells_on {w w' : World} {g o : Nat} {v : Value} (h : w.cell? ⟨g, o, none⟩ = some v) (hg : g < w.heap.size) (hj : Junk w w') : w'.cell? ⟨g, o, none⟩ = some v := ((hj.below (Nat.le_refl _)).cell (p := ⟨g, o, none⟩) hg).trans h
set_option maxHeartbeats 8000000 in
theorem clo39_any (g : Nat) (s d i p : Int) (w : World) (hg : g < w.heap.size) (h0 : w.cell? ⟨g, 0, none⟩ = some (.int .u32 s)) (h1 : w.cell? ⟨g, 1, none⟩ = some (.int .u32 d)) (h2 : w.cell? ⟨g, 2, none⟩ = some (.int .i64 i)) (h3 : w.cell? ⟨g, 3, none⟩ = some (.int .i64 p)) :
    PrIs 39 #[.pointer (some ⟨g, 0, none⟩)] w (fun b => mineB b s d i p) := by
  intro w1 hj b n hn
  have t0 := cells_on h0 hg hj
  have t1 := cells_on h1 hg hj
  have t2 := cells_on h2 hg hj
  have t3 := cells_on h3 hg hj
  have tg : g < w1.heap.size := Nat.lt_of_lt_of_le hg hj.size
  have HM := Lib.hid (fun w1 => mine_any b n s d i p w1)
  obtain ⟨R, hR⟩ : ∃ R, mineB b.q s d i p = R := ⟨_, rfl⟩
  have HMR := Lib.hid (show ∀ w1, Calls Try.prog 28 #[.agg #[.int .u32 b.src, .int .u32 b.dst, .int .i64 b.id, .int .i64 b.proto, .int .i64 b.born, .int .i64 b.head.tos, .int .i64 b.head.id, .bool b.head.df, .bool b.head.mf, .int .i64 b.head.off, .int .i64 b.head.ttl, .int .i64 b.head.proto, .int .u32 b.head.src, .int .u32 b.head.dst, .slice b.ho b.head.ol b.hoc, .slice b.hb b.head.bl b.hbc, .bool b.first, .int .i64 b.total, .slice b.ro n b.rc], .int .u32 s, .int .u32 d, .int .i64 i, .int .i64 p] w1 fun e w' => e = .returned (.bool R) ∧ Junk w1 w' from fun w1 => hR ▸ HM.out w1)
  show Calls Try.prog 39 #[.agg #[.int .u32 b.src, .int .u32 b.dst, .int .i64 b.id, .int .i64 b.proto, .int .i64 b.born, .int .i64 b.head.tos, .int .i64 b.head.id, .bool b.head.df, .bool b.head.mf, .int .i64 b.head.off, .int .i64 b.head.ttl, .int .i64 b.head.proto, .int .u32 b.head.src, .int .u32 b.head.dst, .slice b.ho b.head.ol b.hoc, .slice b.hb b.head.bl b.hbc, .bool b.first, .int .i64 b.total, .slice b.ro n b.rc], .pointer (some ⟨g, 0, none⟩)] w1 fun e w' => e = .returned (.bool (mineB b.q s d i p)) ∧ Junk w1 w'
  rw [hR]
  clear h0 h1 h2 h3 hj HM hR
  go_enter Try.func39, Try.ntmps39
  go_wp2_with (first | ((with_reducible show wpList _ _ _ _ _ _); refine wpList_loadAgg rfl 45 _ rfl Try.isAgg45 _ 0 [.int .u32 b.src, .int .u32 b.dst, .int .i64 b.id, .int .i64 b.proto, .int .i64 b.born, .int .i64 b.head.tos, .int .i64 b.head.id, .bool b.head.df, .bool b.head.mf, .int .i64 b.head.off, .int .i64 b.head.ttl, .int .i64 b.head.proto, .int .u32 b.head.src, .int .u32 b.head.dst, .slice b.ho b.head.ol b.hoc, .slice b.hb b.head.bl b.hbc, .bool b.first, .int .i64 b.total, .slice b.ro n b.rc] Try.sizeOf45 rfl boxw_cells ?_) | (go_at_call 28; (with_reducible refine (HMR.out _).mono ?_); rintro e w' ⟨rfl, ⟨osj, dj, rfl⟩⟩))
  go_ret
  exact ⟨rfl, by (exact jkc)⟩
set_option maxHeartbeats 8000000 in
theorem clo27_any (g : Nat) (s d i p : Int) (w : World) (hg : g < w.heap.size) (h0 : w.cell? ⟨g, 7, none⟩ = some (.int .u32 s)) (h1 : w.cell? ⟨g, 8, none⟩ = some (.int .u32 d)) (h2 : w.cell? ⟨g, 1, none⟩ = some (.int .i64 i)) (h3 : w.cell? ⟨g, 6, none⟩ = some (.int .i64 p)) :
    PrIs 27 #[.pointer (some ⟨g, 0, none⟩)] w (fun b => mineB b s d i p) := by
  intro w1 hj b n hn
  have t0 := cells_on h0 hg hj
  have t1 := cells_on h1 hg hj
  have t2 := cells_on h2 hg hj
  have t3 := cells_on h3 hg hj
  have tg : g < w1.heap.size := Nat.lt_of_lt_of_le hg hj.size
  have HM := Lib.hid (fun w1 => mine_any b n s d i p w1)
  obtain ⟨R, hR⟩ : ∃ R, mineB b.q s d i p = R := ⟨_, rfl⟩
  have HMR := Lib.hid (show ∀ w1, Calls Try.prog 28 #[.agg #[.int .u32 b.src, .int .u32 b.dst, .int .i64 b.id, .int .i64 b.proto, .int .i64 b.born, .int .i64 b.head.tos, .int .i64 b.head.id, .bool b.head.df, .bool b.head.mf, .int .i64 b.head.off, .int .i64 b.head.ttl, .int .i64 b.head.proto, .int .u32 b.head.src, .int .u32 b.head.dst, .slice b.ho b.head.ol b.hoc, .slice b.hb b.head.bl b.hbc, .bool b.first, .int .i64 b.total, .slice b.ro n b.rc], .int .u32 s, .int .u32 d, .int .i64 i, .int .i64 p] w1 fun e w' => e = .returned (.bool R) ∧ Junk w1 w' from fun w1 => hR ▸ HM.out w1)
  show Calls Try.prog 27 #[.agg #[.int .u32 b.src, .int .u32 b.dst, .int .i64 b.id, .int .i64 b.proto, .int .i64 b.born, .int .i64 b.head.tos, .int .i64 b.head.id, .bool b.head.df, .bool b.head.mf, .int .i64 b.head.off, .int .i64 b.head.ttl, .int .i64 b.head.proto, .int .u32 b.head.src, .int .u32 b.head.dst, .slice b.ho b.head.ol b.hoc, .slice b.hb b.head.bl b.hbc, .bool b.first, .int .i64 b.total, .slice b.ro n b.rc], .pointer (some ⟨g, 0, none⟩)] w1 fun e w' => e = .returned (.bool (mineB b.q s d i p)) ∧ Junk w1 w'
  rw [hR]
  clear h0 h1 h2 h3 hj HM hR
  go_enter Try.func27, Try.ntmps27
  go_wp2_with (first | ((with_reducible show wpList _ _ _ _ _ _); refine wpList_loadAgg rfl 45 _ rfl Try.isAgg45 _ 0 [.int .u32 b.src, .int .u32 b.dst, .int .i64 b.id, .int .i64 b.proto, .int .i64 b.born, .int .i64 b.head.tos, .int .i64 b.head.id, .bool b.head.df, .bool b.head.mf, .int .i64 b.head.off, .int .i64 b.head.ttl, .int .i64 b.head.proto, .int .u32 b.head.src, .int .u32 b.head.dst, .slice b.ho b.head.ol b.hoc, .slice b.hb b.head.bl b.hbc, .bool b.first, .int .i64 b.total, .slice b.ro n b.rc] Try.sizeOf45 rfl boxw_cells ?_) | (go_at_call 28; (with_reducible refine (HMR.out _).mono ?_); rintro e w' ⟨rfl, ⟨osj, dj, rfl⟩⟩))
  go_ret
  exact ⟨rfl, by (exact jkc)⟩
def oldB (now life : Int) (b : Bq) : Bool := decide (life ≤ now - b.born)
set_option maxHeartbeats 8000000 in
theorem clo36_any (gn gp : Nat) (now life : Int) (w : World) (hn : gn < w.heap.size) (hp : gp < w.heap.size) (h0 : w.cell? ⟨gn, 0, none⟩ = some (.int .i64 now)) (h1 : w.cell? ⟨gp, 1, none⟩ = some (.int .i64 life)) (hnow : 0 ≤ now ∧ now ≤ 1099511627776) :
    ∀ w1, Junk w w1 → ∀ b : Bf, ∀ n, b.F.length = n → (0 ≤ b.born ∧ b.born ≤ now) → Calls Try.prog 36 #[.agg #[.int .u32 b.src, .int .u32 b.dst, .int .i64 b.id, .int .i64 b.proto, .int .i64 b.born, .int .i64 b.head.tos, .int .i64 b.head.id, .bool b.head.df, .bool b.head.mf, .int .i64 b.head.off, .int .i64 b.head.ttl, .int .i64 b.head.proto, .int .u32 b.head.src, .int .u32 b.head.dst, .slice b.ho b.head.ol b.hoc, .slice b.hb b.head.bl b.hbc, .bool b.first, .int .i64 b.total, .slice b.ro n b.rc], .pointer (some ⟨gn, 0, none⟩), .pointer (some ⟨gp, 0, none⟩)] w1 fun e w' => e = .returned (.bool (oldB now life b.q)) ∧ Junk w1 w' := by
  intro w1 hj b n hnn hb
  have t0 := cells_on h0 hn hj
  have t1 := cells_on h1 hp hj
  have tn : gn < w1.heap.size := Nat.lt_of_lt_of_le hn hj.size
  have tp : gp < w1.heap.size := Nat.lt_of_lt_of_le hp hj.size
  have pw := wrapk_i64 (now - b.born) (by omega) (by omega)
  clear h0 h1 hj
  go_enter Try.func36, Try.ntmps36
  go_wp2
  go_ret
  exact ⟨by first | rfl | (simp [oldB, Bf.q]; done), by (exact jkc)⟩
end Go.Proofs.Ytgjppmkadmfibaa
