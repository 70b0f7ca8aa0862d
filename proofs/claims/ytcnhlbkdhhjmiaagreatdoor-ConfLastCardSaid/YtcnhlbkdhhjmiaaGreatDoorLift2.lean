/- A nil slice among the arguments. -/
import Derived.Test.YtcnhlbkdhhjmiaaGreatDoorLift
namespace Go
open Go.ChangeShapes Go.WideShapes Go.ChangeAt Go.RowKit Go.WideMaps Go.WideElems Go.Deep
theorem Cells.nil_slice {P : Program} {W : World} {t e : TypeId} (ht : P.underlying t = some (.slice e)) {oa : Option Addr} {len cap : Nat} (h : Cells P W t [.slice oa len cap]) (hn : oa = none) : len = 0 ∧ cap = 0 := by
  obtain ⟨H, enc, n, y, h⟩ := h
  subst hn
  rcases open_slice ht h with ⟨hcs, _⟩ | ⟨a, len, cap, m, n, D, Pl, hcs, _⟩
  · cases hcs; exact ⟨rfl, rfl⟩
  · cases hcs
theorem Calls.junk_of2 {P : Program} {f : FuncId} {args : Array Value} {w : World} {a os : Array Obj} {d : Nat} {v : Value}
    (h : Calls P f args (w.junk (a ++ os) d) fun e w' => e = .returned v ∧ Junk (w.junk (a ++ os) d) w') : Calls P f args (w.junk (a ++ os) d) fun e w'' => e = .returned v ∧ ∃ x : Jk, w'' = w.junk (a ++ x.os) x.d :=
  h.mono fun _ _ ⟨he, os', d', hm⟩ => ⟨he, ⟨os ++ os', d'⟩, by rw [hm]; simp⟩
theorem Calls.junk_of3 {P : Program} {f : FuncId} {args : Array Value} {w : World} {a b os : Array Obj} {d : Nat} {v : Value}
    (h : Calls P f args (w.junk (a ++ (b ++ os)) d) fun e w' => e = .returned v ∧ Junk (w.junk (a ++ (b ++ os)) d) w') : Calls P f args (w.junk (a ++ (b ++ os)) d) fun e w'' => e = .returned v ∧ ∃ x : Jk, w'' = w.junk (a ++ (b ++ x.os)) x.d :=
  h.mono fun _ _ ⟨he, os', d', hm⟩ => ⟨he, ⟨os ++ os', d'⟩, by rw [hm]; simp⟩
theorem Calls.junk_of4 {P : Program} {f : FuncId} {args : Array Value} {w : World} {a b c os : Array Obj} {d : Nat} {v : Value}
    (h : Calls P f args (w.junk (a ++ (b ++ (c ++ os))) d) fun e w' => e = .returned v ∧ Junk (w.junk (a ++ (b ++ (c ++ os))) d) w') : Calls P f args (w.junk (a ++ (b ++ (c ++ os))) d) fun e w'' => e = .returned v ∧ ∃ x : Jk, w'' = w.junk (a ++ (b ++ (c ++ x.os))) x.d :=
  h.mono fun _ _ ⟨he, os', d', hm⟩ => ⟨he, ⟨os ++ os', d'⟩, by rw [hm]; simp⟩
theorem Calls.junk_of5 {P : Program} {f : FuncId} {args : Array Value} {w : World} {a b c e' os : Array Obj} {d : Nat} {v : Value}
    (h : Calls P f args (w.junk (a ++ (b ++ (c ++ (e' ++ os)))) d) fun e w' => e = .returned v ∧ Junk (w.junk (a ++ (b ++ (c ++ (e' ++ os)))) d) w') : Calls P f args (w.junk (a ++ (b ++ (c ++ (e' ++ os)))) d) fun e w'' => e = .returned v ∧ ∃ x : Jk, w'' = w.junk (a ++ (b ++ (c ++ (e' ++ x.os)))) x.d :=
  h.mono fun _ _ ⟨he, os', d', hm⟩ => ⟨he, ⟨os ++ os', d'⟩, by rw [hm]; simp⟩
end Go
