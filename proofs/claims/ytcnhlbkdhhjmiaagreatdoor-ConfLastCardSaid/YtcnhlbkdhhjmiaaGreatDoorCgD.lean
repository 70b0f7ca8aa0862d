/- The library's variables at the door; configurations among a law's arguments. -/
import Derived.Test.YtcnhlbkdhhjmiaaGreatDoorCgB
import Derived.Test.YtcnhlbkdhhjmiaaGreatDoorCgC
import Derived.Test.YtcnhlbkdhhjmiaaGreatDoorRows
import Derived.LaidMore
import Derived.Stop.LaidErr
import Derived.Stop.Joined
import Derived.ChangeArms
import Derived.Handed
set_option linter.unusedVariables false
set_option maxRecDepth 100000
set_option linter.unusedSimpArgs false
namespace Go.Proofs.YtcnhlbkdhhjmiaaGreatDoor
open Go.RowKit Go.ChangeShapes Go.WideShapes Go.ChangeAt
variable {L L' : Nat → Prop} {w w' w'' : World}
theorem var_cell {W : World} {n : String} {g : Nat} {x : Value} (hg : Tryz.prog.globalNamed n = some g) (h : W.var? Tryz.prog n = some #[x]) : W.cell? ⟨g, 0, none⟩ = some x := by
  have := World.var?_cell hg h 0
  simpa using this
theorem iface_of {P : Program} {W : World} {base : Nat} {sp : Nat → Bool} {held : Bool} {fuel : Nat} {t : TypeId} {cs : List Value} {ms : Array (String × TypeId)} {nm : String} {x : DataW Unit} {ps : List MemPlace} {enc : TypeId × Value → Unit}
    (ht : P.underlying t = some (.interface ms)) (h : DataW.trod enc P W base sp held fuel t cs = some (.iface nm x, ps)) : ∃ u v, cs = [.iface u v] := by
  cases fuel with
  | zero => simp [DataW.trod] at h
  | succ n =>
    unfold DataW.trod at h
    rw [ht] at h
    split at h <;> simp_all
theorem err_of {W : World} {n nm : String} {x : DataW Unit} {r : List (String × DataW Unit)} {g : Nat} (h : laidMet Tryz.prog ((n, .iface nm x) :: r) W) (hg : Tryz.prog.globalNamed n = some g) (ht : (Tryz.prog.globals[g]?).map (·.type) = some 78) :
    ∃ t p, W.cell? ⟨g, 0, none⟩ = some (.iface t p) := by
  obtain ⟨ps, ⟨g0, t0, cs0, f0, p0, q0, hg0, ht0, hv0, hd0, _, _⟩, _, _⟩ := h
  obtain rfl := Option.some.inj (hg.symm.trans hg0)
  obtain rfl := Option.some.inj (ht.symm.trans ht0)
  obtain ⟨u, v, hc⟩ := iface_of Tryz.underlying78 hd0
  obtain ⟨l⟩ := cs0
  simp only at hc
  subst hc
  exact ⟨u, v, var_cell hg hv0⟩
theorem pow_of {W : World} (h : laidMetH Tryz.prog Rows.confBackRow.laid W) : PowT W ∧ (∃ t p, W.cell? ⟨6, 0, none⟩ = some (.iface t p)) ∧ ∃ t p, W.cell? ⟨7, 0, none⟩ = some (.iface t p) := by
  rw [MakeChecks.laidMetH_plain _ _ _ (by kernel_rfl)] at h
  have h2 := laidMet.tail (laidMet.tail h)
  have h4 := laidMet.tail (laidMet.tail h2)
  have h5 := laidMet.tail h4
  refine ⟨Lib.tabIs_of_head (g := 1) (t := 126) (e := 95) (n := 20) (by kernel_rfl) (by kernel_rfl) Tryz.underlying126 Tryz.underlying95 (by kernel_rfl) (by kernel_rfl) h2, ?_, ?_⟩
  · exact err_of h5 (by kernel_rfl) (by kernel_rfl)
  · exact err_of h4 (by kernel_rfl) (by kernel_rfl)
theorem env_of {W : World} (h : laidMetH Tryz.prog Rows.confBackRow.laid W) (hm : ∃ m, W.cell? ⟨0, 0, none⟩ = some (.int .i64 m)) : Env W := by
  obtain ⟨h1, h2, h3⟩ := pow_of h
  obtain ⟨t, p, h4⟩ := h3
  exact ⟨World.block_lt_of_cell? W ⟨7, 0, none⟩ h4, h1, h2, ⟨t, p, h4⟩, hm⟩
/-- The lift of a law that lists variables, the world's shape kept. -/
theorem handed_and_shaped {H : Type} {enc : TypeId × Value → H} {a : Assume} {C : Checked} {os : Os} {f : FuncId} {fn : Func} {s : ChangeSpec} {conds : List PathCond} {apart fresh handsOn again : Bool} {X : World → Array Value → Prop}
    (hX : ∀ (w w' : World) (args : Array Value), w.heap = w'.heap → X w args → X w' args)
    (own : ownKnob C.prog.godebug = none) (started : os.Started) (noInit : C.prog.inits.idxOf? f = none) (hfn : C.prog.funcs[f]? = some fn)
    (witness : ∃ (w : World) (tape : Tape) (i : Input), w.os = os ∧ (w.forCall tape i).Shaped C.prog ∧ i.vars = [] ∧ Input.okWide C.prog (w.forCall tape i) .any w.heap.size f i ∧
      ((s.pre enc C.prog fn conds apart (w.forCall tape i).memory i.args ∧ X (w.forCall tape i).memory i.args) ∧ sizedMet enc C.prog fn (OpenSpec.ofChange s) apart (w.forCall tape i).memory i.args) ∧ a.holds C.prog (lone (Frame.enter C.prog f i.args .normal) [] (w.forCall tape i)))
    (contract : ∀ (W : World) (base : Nat) (args : Array Value) (ds gs : List (DataW H)) (before : List MemPlace),
      (∀ (j : Nat) t v, fn.params[j]? = some t → args[j]? = some v → Value.okWide C.prog W .any base t v) →
      DataW.Whole enc C.prog fn.params.toList s.vars apart W args.toList ds gs before →
      conds.all (PathCond.test C.prog ⟨fn.params.toList, ds, s.plain.varTypes C.prog, gs⟩) = true →
      X W args → W.ShapedOpen C.prog →
      Calls C.prog f args W fun e W' => ∃ v, e = .returned v ∧ s.post enc C.prog fn apart fresh handsOn again W args v W') :
    ReturnsInHanded a C os f .any (fun w args => (s.pre enc C.prog fn conds apart w args ∧ X w args) ∧ sizedMet enc C.prog fn (OpenSpec.ofChange s) apart w args) (s.post enc C.prog fn apart fresh handsOn again) := by
  refine returnsInHanded_of_calls own started noInit witness ?_
  intro w tape i _ hsh _ hok hpre hholds
  obtain ⟨_, _, _, fn', hfn', _, _, _, _, hval⟩ := hok
  have e : fn' = fn := Option.some.inj (hfn'.symm.trans hfn)
  subst e
  obtain ⟨⟨⟨ds, gs, before, hw, hc⟩, hx⟩, hz⟩ := hpre
  have hw' := DataW.Whole.of_heap (w' := w.forCall tape i) (by rfl) hw
  refine (contract (w.forCall tape i) w.heap.size i.args ds gs before hval hw' hc (hX _ _ _ (by rfl) hx) hsh).mono fun e W' ⟨v, he, hp⟩ => ?_
  subst he
  exact ChangeSpec.post_blind hp
end Go.Proofs.YtcnhlbkdhhjmiaaGreatDoor
