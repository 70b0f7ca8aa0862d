/- tuple.raw, bytes.Compare, Less, Hash. -/
import Derived.Test.YtnefphinmjeacaaTupB
import Derived.Test.YtnefphinmjeacaaMix3
import Derived.Test.YtnefphinmjeacaaMix
set_option linter.unusedVariables false
set_option maxRecDepth 100000
set_option linter.unusedSimpArgs false
namespace Go.Proofs.Ytnefphinmjeacaa
open Go.RowKit
structure TupW (t : Tup) : Prop extends TupWf t where
  sport : -9223372036854775808 ≤ t.sport ∧ t.sport ≤ 9223372036854775807
  dport : -9223372036854775808 ≤ t.dport ∧ t.dport ≤ 9223372036854775807
theorem run_compareB {P : Program} (w : World) (b1 f1 b2 f2 n m c d : Nat) (xs ys : List Int) (hx : xs.length = n) (hy : ys.length = m)
    (h1 : ∀ j x, xs[j]? = some x → w.cell? ⟨b1, f1 + j, none⟩ = some (.int .u8 x)) (h2 : ∀ j x, ys[j]? = some x → w.cell? ⟨b2, f2 + j, none⟩ = some (.int .u8 x)) :
    (Extern.BytealgCompare.compare #[.slice (some ⟨b1, f1, none⟩) n c, .slice (some ⟨b2, f2, none⟩) m d]).run P w = .ok (.int .i64 (Lib.compareBytes (Lib.bytesOf xs) (Lib.bytesOf ys))) w := by
  have l1 := Lib.run_loadBytesX (P := P) w xs ⟨b1, f1, none⟩ .empty (fun j x hj => by rw [Addr.add_lit]; exact h1 j x hj)
  have l2 := Lib.run_loadBytesX (P := P) w ys ⟨b2, f2, none⟩ .empty (fun j x hj => by rw [Addr.add_lit]; exact h2 j x hj)
  rw [hx] at l1
  rw [hy] at l2
  change Sem.run P (do pure (goInt (Extern.BytealgCompare.cmp (← Extern.Bytes.bytesOf (.slice (some ⟨b1, f1, none⟩) n c)) (← Extern.Bytes.bytesOf (.slice (some ⟨b2, f2, none⟩) m d))))) w = _
  simp only [Extern.Bytes.bytesOf, Sem.run_bind, Sem.run_pure, Result.andThen, l1, l2]
  rw [Lib.cmp_eq]
  have e : ∀ l : List UInt8, (⟨ByteArray.empty.data ++ l.toArray⟩ : ByteArray).data.toList = l := fun l => by
    show ((#[] : Array UInt8) ++ l.toArray).toList = l
    simp
  rw [e, e]
  rfl
end Go.Proofs.Ytnefphinmjeacaa
