/- The fixed answers of layer 6. -/
import Derived.Test.YtfkhnhenemgcmaaDoorLift
import Derived.Test.YtfkhnhenemgcmaaDoorIcmpParse
import Derived.Test.YtfkhnhenemgcmaaDoorIcmpPut
set_option linter.unusedVariables false
set_option maxRecDepth 100000
set_option linter.unusedSimpArgs false
namespace Go.Proofs.YtfkhnhenemgcmaaDoor
open Go.RowKit
theorem Junk.app2 (w : World) (a b x : Array Obj) (d d' : Nat) : Junk (w.junk (a ++ b) d) (w.junk (a ++ (b ++ x)) d') := by have := Junk.app w (a ++ b) x d d'; simpa using this
theorem Junk.app3 (w : World) (a b c x : Array Obj) (d d' : Nat) : Junk (w.junk (a ++ (b ++ c)) d) (w.junk (a ++ (b ++ (c ++ x))) d') := by have := Junk.app w (a ++ (b ++ c)) x d d'; simpa using this
theorem Junk.app4 (w : World) (a b c e x : Array Obj) (d d' : Nat) : Junk (w.junk (a ++ (b ++ (c ++ e))) d) (w.junk (a ++ (b ++ (c ++ (e ++ x)))) d') := by have := Junk.app w (a ++ (b ++ (c ++ e))) x d d'; simpa using this
theorem Junk.app5 (w : World) (a b c e f x : Array Obj) (d d' : Nat) : Junk (w.junk (a ++ (b ++ (c ++ (e ++ f)))) d) (w.junk (a ++ (b ++ (c ++ (e ++ (f ++ x))))) d') := by have := Junk.app w (a ++ (b ++ (c ++ (e ++ f)))) x d d'; simpa using this
theorem PutM.ok {w w' : World} {t c r : Int} {xs : Nat → Int} {l : Nat} {e : Ending} (h : PutM w t c r xs l e w') (h0 : putErr t c l = 0) :
    ∃ ob cb, e = .returned (.tuple #[.slice ob (8 + l) cb, .int .i64 0]) ∧ Junk w w' ∧ Bts w' ob (8 + l) cb (putB t c r xs l) := by
  obtain ⟨ob, lb, cb, rfl, hj, hb, ⟨_, rfl⟩ | ⟨h1, _⟩⟩ := h
  · exact ⟨ob, cb, by rw [h0], hj, hb⟩
  · exact absurd h0 h1
theorem PutM.bad {w w' : World} {t c r : Int} {xs : Nat → Int} {l : Nat} {e : Ending} (h : PutM w t c r xs l e w') (h0 : putErr t c l ≠ 0) :
    e = .returned (.tuple #[.slice none 0 0, .int .i64 (putErr t c l)]) ∧ Junk w w' := by
  obtain ⟨ob, lb, cb, rfl, hj, hb, ⟨h1, _⟩ | ⟨_, rfl, rfl, rfl⟩⟩ := h
  · exact absurd h1 h0
  · exact ⟨rfl, hj⟩
theorem ParsedM.ok {w w' : World} {xs : Nat → Int} {l : Nat} {e : Ending} (h : ParsedM w xs l e w') (h0 : pErr xs l = 0) :
    ∃ ob cb, e = .returned (.tuple #[.agg #[.int .i64 (xs 0), .int .i64 (xs 1), .int .u32 (pRest xs), .slice ob (l - 8) cb], .int .i64 0]) ∧ Junk w w' ∧ Bts w' ob (l - 8) cb (fun i => xs (8 + i)) := by
  obtain ⟨t, c, r, ob, lb, cb, rfl, hj, hb, ⟨_, rfl, rfl, rfl, rfl⟩ | ⟨h1, _⟩⟩ := h
  · exact ⟨ob, cb, by rw [h0], hj, hb⟩
  · exact absurd h0 h1
theorem ParsedM.bad {w w' : World} {xs : Nat → Int} {l : Nat} {e : Ending} (h : ParsedM w xs l e w') (h0 : pErr xs l ≠ 0) :
    e = .returned (.tuple #[.agg #[.int .i64 0, .int .i64 0, .int .u32 0, .slice none 0 0], .int .i64 (pErr xs l)]) ∧ Junk w w' := by
  obtain ⟨t, c, r, ob, lb, cb, rfl, hj, hb, ⟨h1, _⟩ | ⟨_, rfl, rfl, rfl, rfl, rfl, rfl⟩⟩ := h
  · exact absurd h1 h0
  · exact ⟨rfl, hj⟩
def m5 : Nat → Int := putB 8 0 458753 (fun _ => 5) 1
theorem m5_err : putErr 8 0 1 = 0 := by decide +kernel
theorem m5_pErr : pErr m5 9 = 0 := by decide +kernel
theorem m5_0 : m5 0 = 8 := by decide +kernel
theorem m5_1 : m5 1 = 0 := by decide +kernel
theorem m5_rest : pRest m5 = 458753 := by decide +kernel
theorem m5_same : msame 8 0 458753 8 0 458753 (fun _ => 5) (fun i => m5 (8 + i)) 1 1 = true := by decide +kernel
theorem m5_name : nameI 8 458753 = 7 := by decide +kernel
theorem m5_asks : asksB 8 = true := by decide +kernel
end Go.Proofs.YtfkhnhenemgcmaaDoor
