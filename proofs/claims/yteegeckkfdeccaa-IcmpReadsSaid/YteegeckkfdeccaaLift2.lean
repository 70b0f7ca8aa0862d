/- A nil slice among the arguments. -/
import Derived.Test.YteegeckkfdeccaaLift
namespace Go
open Go.ChangeShapes Go.WideShapes Go.ChangeAt Go.RowKit Go.WideMaps Go.WideElems Go.Deep
theorem Cells.nil_slice {P : Program} {W : World} {t e : TypeId} (ht : P.underlying t = some (.slice e)) {oa : Option Addr} {len cap : Nat} (h : Cells P W t [.slice oa len cap]) (hn : oa = none) : len = 0 ∧ cap = 0 := by
  obtain ⟨H, enc, n, y, h⟩ := h
  subst hn
  rcases open_slice ht h with ⟨hcs, _⟩ | ⟨a, len, cap, m, n, D, Pl, hcs, _⟩
  · cases hcs; exact ⟨rfl, rfl⟩
  · cases hcs
end Go
