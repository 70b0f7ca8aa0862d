/- reasm.buffer. -/
import Derived.Test.YtgjppmkadmfibaaRsD
import Derived.Test.YtgjppmkadmfibaaIpSame
set_option linter.unusedVariables false
set_option maxRecDepth 100000
set_option linter.unusedSimpArgs false
namespace Go.Proofs.Ytgjppmkadmfibaa
open Go.RowKit
/-- A whole struct out of cells, in a region that draws and only reads. -/
theorem wpQuiet_loadAgg {P : Program} {ops : Array Oper} {C : World → Prop} {Q : Act → Prop} {a : Act} {o : Oper} {rest : List Oper} (hw : Region.wanted o (yielded ops a.tmps) = true) (t : TypeId) (x : Operand) (ho : o.op = .load t x)
    (hagg : ∀ w, (isAgg t).run P w = .ok true w) (g off : Nat) (cs : List Value) (hsz : ∀ w, (Go.sizeOf t).run P w = .ok cs.length w) (hx : a.eval x = .pointer (some ⟨g, off, none⟩)) (hc : ∀ w, C w → ∀ j v, cs[j]? = some v → w.cell? ⟨g, off + j, none⟩ = some v)
    (h : wpQuiet P ops C Q rest (a.put o.dst (.agg cs.toArray))) : wpQuiet P ops C Q (o :: rest) a :=
  wpQuiet_step fun K hK => by
    rw [if_pos hw]
    refine ⟨.agg cs.toArray, fun w hC => ?_, hK _ h⟩
    have hrun := run_loadAgg (P := P) (w := w) hagg hsz (hc w hC)
    unfold Oper.quietAt Oper.quietUpon
    simp only [execOp, ho, hx, hrun, Sem.run_bind, Sem.run_pure, Result.andThen]
    first | exact ⟨rfl, rfl⟩ | exact ⟨trivial, rfl⟩ | exact ⟨trivial, trivial⟩ | simp
theorem box_cells {w : World} {cs : List Value} {t : TypeId} : ∀ w', (∃ x : Jk, w' = (w.alloc (.cells cs.toArray t)).junk x.os x.d) → ∀ j v, cs[j]? = some v → w'.cell? ⟨w.heap.size, 0 + j, none⟩ = some v := by
  rintro w' ⟨x, rfl⟩ j v hv
  rw [World.cell?_junk _ _ _ _ _ (by simp), Nat.zero_add, World.cell?_alloc_new]
  simpa using hv
def off0 (b : Bq) : Int := match b.runs with
  | f :: _ => f.k
  | [] => 0
def bufB (b : Bq) (now : Int) : Bool := wiR b.born 0 now && (runsB b && (((b.total == -1) || wiR b.total 1 65535) && ((b.first == (off0 b == 0)) && (decide (b.head.ol ≤ 40) && (sameIp b.head (headI b.head) && (b.first || sameIp b.head zeroIp))))))
theorem runsB_pos {b : Bq} (h : runsB b = true) : ∃ f, b.runs[0]? = some f ∧ off0 b = f.k ∧ 0 ≤ f.k := by
  unfold runsB at h
  simp only [Bool.and_eq_true, decide_eq_true_eq] at h
  cases hr : b.runs with
  | nil => rw [hr] at h; simp at h
  | cons f F =>
    refine ⟨f, rfl, by unfold off0; rw [hr], ?_⟩
    have h1 := h.1
    rw [hr, runGo] at h1
    simp only [Bool.and_eq_true, Bool.not_eq_true'] at h1
    have h2 := h1.1
    unfold badRun at h2
    rw [decide_eq_false_iff_not] at h2
    omega
end Go.Proofs.Ytgjppmkadmfibaa
