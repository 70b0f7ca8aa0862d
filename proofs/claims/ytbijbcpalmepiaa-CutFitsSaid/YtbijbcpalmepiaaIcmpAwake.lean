/- The fixed answers of layer 6. -/
import Derived.Test.YtbijbcpalmepiaaLift
import Derived.Test.YtbijbcpalmepiaaIcmpParse
import Derived.Test.YtbijbcpalmepiaaIcmpPut
set_option linter.unusedVariables false
set_option maxRecDepth 100000
set_option linter.unusedSimpArgs false
namespace Go.Proofs.Ytbijbcpalmepiaa
open Go.RowKit
theorem Junk.app2 (w : World) (a b x : Array Obj) (d d' : Nat) : Junk (w.junk (a ++ b) d) (w.junk (a ++ (b ++ x)) d') := by have := Junk.app w (a ++ b) x d d'; simpa using this
theorem Junk.app3 (w : World) (a b c x : Array Obj) (d d' : Nat) : Junk (w.junk (a ++ (b ++ c)) d) (w.junk (a ++ (b ++ (c ++ x))) d') := by have := Junk.app w (a ++ (b ++ c)) x d d'; simpa using this
theorem Junk.app4 (w : World) (a b c e x : Array Obj) (d d' : Nat) : Junk (w.junk (a ++ (b ++ (c ++ e))) d) (w.junk (a ++ (b ++ (c ++ (e ++ x)))) d') := by have := Junk.app w (a ++ (b ++ (c ++ e))) x d d'; simpa using this
theorem Junk.app5 (w : World) (a b c e f x : Array Obj) (d d' : Nat) : Junk (w.junk (a ++ (b ++ (c ++ (e ++ f)))) d) (w.junk (a ++ (b ++ (c ++ (e ++ (f ++ x))))) d') := by have := Junk.app w (a ++ (b ++ (c ++ (e ++ f)))) x d d'; simpa using this
theorem PutM.ok {w w' : World} {t c r : Int} {xs : Nat → Int} {l : Nat} {e : Ending} (h : PutM w t c r xs l e w') (h0 : putErr t c l = 0) :
    ∃ ob cb, e = .returned (.tuple #[.slice ob (8 + l) cb, .int .i64 0]) ∧ Junk w w' ∧ Bts w' ob (8 + l) cb (putB t c r xs l) := by
  obtain ⟨ob, lb, cb, rfl, hj, hb, ⟨_, rfl⟩ | ⟨h1, _⟩⟩ := h
  · exact ⟨ob, cb, by rw [h0], hj, hb⟩
  · exact absurd h0 h1
theorem PutM.bad {w w' : World} {t c r : Int} {xs : Nat → Int} {l : Nat} {e : Ending} (h : PutM w t c r xs l e w') (h0 : putErr t c l ≠ 0) :
    e = .returned (.tuple #[.slice none 0 0, .int .i64 (putErr t c l)]) ∧ Junk w w' := by
  obtain ⟨ob, lb, cb, rfl, hj, hb, ⟨h1, _⟩ | ⟨_, rfl, rfl, rfl⟩⟩ := h
  · exact absurd h1 h0
  · exact ⟨rfl, hj⟩
theorem ParsedM.ok {w w' : World} {xs : Nat → Int} {l : Nat} {e : Ending} (h : ParsedM w xs l e w') (h0 : pErr xs l = 0) :
    ∃ ob cb, e = .returned (.tuple #[.agg #[.int .i64 (xs 0), .int .i64 (xs 1), .int .u32 (pRest xs), .slice ob (l - 8) cb], .int .i64 0]) ∧ Junk w w' ∧ Bts w' ob (l - 8) cb (fun i => xs (8 + i)) := by
  obtain ⟨t, c, r, ob, lb, cb, rfl, hj, hb, ⟨_, rfl, rfl, rfl, rfl⟩ | ⟨h1, _⟩⟩ := h
  · exact ⟨ob, cb, by rw [h0], hj, hb⟩
  · exact absurd h0 h1
theorem ParsedM.bad {w w' : World} {xs : Nat → Int} {l : Nat} {e : Ending} (h : ParsedM w xs l e w') (h0 : pErr xs l ≠ 0) :
    e = .returned (.tuple #[.agg #[.int .i64 0, .int .i64 0, .int .u32 0, .slice none 0 0], .int .i64 (pErr xs l)]) ∧ Junk w w' := by
  obtain ⟨t, c, r, ob, lb, cb, rfl, hj, hb, ⟨h1, _⟩ | ⟨_, rfl, rfl, rfl, rfl, rfl, rfl⟩⟩ := h
  · exact absurd h1 h0
  · exact ⟨rfl, hj⟩
def m5 : Nat → Int := putB 8 0 458753 (fun _ => 5) 1
theorem m5_err : putErr 8 0 1 = 0 := by decide +kernel
theorem m5_pErr : pErr m5 9 = 0 := by decide +kernel
theorem m5_0 : m5 0 = 8 := by decide +kernel
theorem m5_1 : m5 1 = 0 := by decide +kernel
theorem m5_rest : pRest m5 = 458753 := by decide +kernel
theorem m5_same : msame 8 0 458753 8 0 458753 (fun _ => 5) (fun i => m5 (8 + i)) 1 1 = true := by decide +kernel
theorem m5_name : nameI 8 458753 = 7 := by decide +kernel
theorem m5_asks : asksB 8 = true := by decide +kernel
set_option maxHeartbeats 1000000 in
theorem awake06_any (w : World) : Calls Try.prog 22 #[] w fun e w' => e = .returned (.bool true) ∧ Junk w w' := by
  have h5 : Bts (w.alloc (.cells #[.int .u8 5] 5)) (some ⟨w.heap.size, 0, none⟩) 1 1 (fun _ => 5) :=
    own_bts (own_lit w 5 _ 1 #[.int .u8 5] rfl (Nat.le_refl _) rfl (by decide)) (fun i hi => by omega)
  have H5 := Lib.hid h5
  clear h5
  have e1 := m5_err
  have e2 := m5_pErr
  have e3 := m5_same
  have e4 := m5_name
  have e5 := m5_asks
  go_enter Try.func22, Try.ntmps22
  go_wp2_with (first
    | (go_at_call 42; refine (put_any 8 0 458753 _ 1 1 (fun _ => 5) _ (by omega) (by omega) (H5.out.on (by ((try simp only [World.junk_junk, Array.append_assoc]); (repeat (first | with_reducible exact Junk.refl _ | with_reducible exact Junk.app _ _ _ _ _ | with_reducible exact Junk.app2 _ _ _ _ _ _ | with_reducible exact Junk.app3 _ _ _ _ _ _ _ | with_reducible exact Junk.app4 _ _ _ _ _ _ _ _ | with_reducible exact Junk.app5 _ _ _ _ _ _ _ _ _ | with_reducible apply Junk.alloc | with_reducible apply Junk.junk | with_reducible apply Junk.drew | with_reducible apply Junk.drewN)))))).mono ?_; intro e w' hp; obtain ⟨ob, cb, rfl, ⟨osj, dj, rfl⟩, hb⟩ := hp.ok m5_err; clear hp; have Hb := Lib.hid hb; clear hb)
    | (go_at_call 41; refine (parse_any ob 9 cb m5 _ (by omega) (Hb.out.on (by ((try simp only [World.junk_junk, Array.append_assoc]); (repeat (first | with_reducible exact Junk.refl _ | with_reducible exact Junk.app _ _ _ _ _ | with_reducible exact Junk.app2 _ _ _ _ _ _ | with_reducible exact Junk.app3 _ _ _ _ _ _ _ | with_reducible exact Junk.app4 _ _ _ _ _ _ _ _ | with_reducible exact Junk.app5 _ _ _ _ _ _ _ _ _ | with_reducible apply Junk.alloc | with_reducible apply Junk.junk | with_reducible apply Junk.drew | with_reducible apply Junk.drewN)))))).mono ?_; intro e w' hp; obtain ⟨ob2, cb2, rfl, ⟨osj2, dj2, rfl⟩, hb⟩ := hp.ok m5_pErr; clear hp; rw [m5_0, m5_1, m5_rest]; have Hb2 := Lib.hid hb; clear hb)
    | (go_at_call 43; refine (msame_any 8 0 458753 8 0 458753 _ _ 1 _ 1 _ (fun _ => 5) (fun i => m5 (8 + i)) _ (H5.out.on (by ((try simp only [World.junk_junk, Array.append_assoc]); (repeat (first | with_reducible exact Junk.refl _ | with_reducible exact Junk.app _ _ _ _ _ | with_reducible exact Junk.app2 _ _ _ _ _ _ | with_reducible exact Junk.app3 _ _ _ _ _ _ _ | with_reducible exact Junk.app4 _ _ _ _ _ _ _ _ | with_reducible exact Junk.app5 _ _ _ _ _ _ _ _ _ | with_reducible apply Junk.alloc | with_reducible apply Junk.junk | with_reducible apply Junk.drew | with_reducible apply Junk.drewN))))) (Hb2.out.on (by ((try simp only [World.junk_junk, Array.append_assoc]); (repeat (first | with_reducible exact Junk.refl _ | with_reducible exact Junk.app _ _ _ _ _ | with_reducible exact Junk.app2 _ _ _ _ _ _ | with_reducible exact Junk.app3 _ _ _ _ _ _ _ | with_reducible exact Junk.app4 _ _ _ _ _ _ _ _ | with_reducible exact Junk.app5 _ _ _ _ _ _ _ _ _ | with_reducible apply Junk.alloc | with_reducible apply Junk.junk | with_reducible apply Junk.drew | with_reducible apply Junk.drewN)))))).mono ?_; rintro e w' ⟨rfl, ⟨osj, dj, rfl⟩⟩)
    | (go_at_call 53; refine (name_any _ _ _ _ _ (by omega)).mono ?_; rintro e w' ⟨rfl, ⟨osj, dj, rfl⟩⟩)
    | (go_at_call 54; refine (asks_any _ _ _ _ _).mono ?_; rintro e w' ⟨rfl, ⟨osj, dj, rfl⟩⟩))
  go_ret
  exact ⟨ret_bool rfl, by ((try simp only [World.junk_junk, Array.append_assoc]); (repeat (first | with_reducible exact Junk.refl _ | with_reducible exact Junk.app _ _ _ _ _ | with_reducible exact Junk.app2 _ _ _ _ _ _ | with_reducible exact Junk.app3 _ _ _ _ _ _ _ | with_reducible exact Junk.app4 _ _ _ _ _ _ _ _ | with_reducible exact Junk.app5 _ _ _ _ _ _ _ _ _ | with_reducible apply Junk.alloc | with_reducible apply Junk.junk | with_reducible apply Junk.drew | with_reducible apply Junk.drewN)))⟩
end Go.Proofs.Ytbijbcpalmepiaa
