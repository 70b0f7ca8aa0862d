/- Slices of tallies; slices.Clone. -/
import Derived.Test.YteoommoolmddaaaDoorCoB
import Derived.Test.YteoommoolmddaaaDoorIns
set_option linter.unusedVariables false
set_option maxRecDepth 100000
set_option linter.unusedSimpArgs false
namespace Go.Proofs.YteoommoolmddaaaDoor
open Go.RowKit
/-- A slice of tallies in memory. -/
structure TsB (w : World) (oa : Option Addr) (l c : Nat) (L : List Tl) : Prop where
  at_ : TsAt w oa L
  len : L.length = l
  nil : oa = none → l = 0 ∧ c = 0
  le : l ≤ c
  cap : c ≤ 9223372036854775807
theorem TsB.on {w w' : World} {oa : Option Addr} {l c : Nat} {L : List Tl} (h : TsB w oa l c L) (hj : Junk w w') : TsB w' oa l c L := ⟨h.at_.on hj, h.len, h.nil, h.le, h.cap⟩
theorem TsB.none (w : World) : TsB w none 0 0 [] := ⟨TsAt.nil _ _, rfl, fun _ => ⟨rfl, rfl⟩, Nat.le_refl _, Nat.zero_le _⟩
theorem own_tsb {B : Nat} {w : World} {e : TypeId} {oa : Option Addr} {cap n : Nat} {L : List Tl} (h : Own B w e 4 oa cap n (tlsL L)) : TsB w oa n cap L := by
  have hl := h.len
  rw [tlsL_len] at hl
  refine ⟨own_ts h, by omega, fun hn => ?_, h.capLe.1, h.capLe.2⟩
  rcases h.form with ⟨_, h1, h2⟩ | ⟨g, cur, h0, _⟩
  · exact ⟨h1, h2⟩
  · rw [hn] at h0; cases h0
theorem own_mk4 (w : World) (e : TypeId) (cur : Array Value) (hs : cur.size = 0) : Own w.heap.size (w.alloc (.cells cur e)) e 4 (some ⟨w.heap.size, 0, none⟩) 0 0 [] := own_made w e 4 0 _ cur rfl (Nat.le_refl _) (by simp [maxLen]) (by simp [hs])
set_option maxHeartbeats 1000000 in
theorem cloneT_any (oa : Option Addr) (l c : Nat) (L : List Tl) (w : World) (hl : l ≤ 1000000) (hS : TsB w oa l c L) :
    Calls Tryd.prog 21 #[.slice oa l c] w fun e w' => ∃ ob cap, e = .returned (.slice ob l cap) ∧ Junk w w' ∧ Own w.heap.size w' 28 4 ob cap l (tlsL L) := by
  have HS := Lib.hid hS
  have hn := hS.nil
  clear hS
  cases oa with
  | none =>
    obtain ⟨rfl, rfl⟩ := hn rfl
    have hne := fun (w : World) => Lib.run_eql_slice_nil (P := Tryd.prog) w 26 28 none 0 0 0 0 Tryd.underlying26
    have HE := Lib.hid (show L = [] from List.eq_nil_of_length_eq_zero HS.out.len)
    go_enter Tryd.func21, Tryd.ntmps21
    go_wp2
    go_ret
    exact ⟨none, 0, rfl, by (first | ((repeat (first | with_reducible exact Junk.refl _ | with_reducible exact Junk.app _ _ _ _ _ | with_reducible apply Junk.alloc | with_reducible apply Junk.junk | with_reducible apply Junk.drew | with_reducible apply Junk.drewN)); done) | ((try simp only [World.junk_junk, Array.append_assoc]); (repeat (first | with_reducible exact Junk.refl _ | with_reducible exact Junk.app _ _ _ _ _ | with_reducible exact Junk.app2 _ _ _ _ _ _ | with_reducible exact Junk.app3 _ _ _ _ _ _ _ | with_reducible exact Junk.app4 _ _ _ _ _ _ _ _ | with_reducible exact Junk.app5 _ _ _ _ _ _ _ _ _ | with_reducible apply Junk.alloc | with_reducible apply Junk.junk | with_reducible apply Junk.drew | with_reducible apply Junk.drewN)))), by rw [HE.out]; exact Own.nil _ _ _ _⟩
  | some a =>
    have hne := fun (w : World) => Lib.run_eql_slice_nil (P := Tryd.prog) w 26 28 (some a) l c 0 0 Tryd.underlying26
    have HB := Lib.hid (show (tlsL L).length = l * 4 by rw [tlsL_len, HS.out.len])
    go_enter Tryd.func21, Tryd.ntmps21
    go_wp2_with (first
      | (at_builtin; (refine ap_own (W0 := w) rfl _ _ 26 rfl 28 (.agg #[.int .i64 0, .int .i64 0, .int .i64 0, .int .i64 0]) 4 32 (by kernel_rfl) rfl (by decide) Tryd.underlying26 (by (first | ((repeat (first | with_reducible exact Junk.refl _ | with_reducible exact Junk.app _ _ _ _ _ | with_reducible apply Junk.alloc | with_reducible apply Junk.junk | with_reducible apply Junk.drew | with_reducible apply Junk.drewN)); done) | ((try simp only [World.junk_junk, Array.append_assoc]); (repeat (first | with_reducible exact Junk.refl _ | with_reducible exact Junk.app _ _ _ _ _ | with_reducible exact Junk.app2 _ _ _ _ _ _ | with_reducible exact Junk.app3 _ _ _ _ _ _ _ | with_reducible exact Junk.app4 _ _ _ _ _ _ _ _ | with_reducible exact Junk.app5 _ _ _ _ _ _ _ _ _ | with_reducible apply Junk.alloc | with_reducible apply Junk.junk | with_reducible apply Junk.drew | with_reducible apply Junk.drewN))))) _ 0 0 [] rfl (own_mk4 _ _ _ (by simp)) (some a) l c rfl (tlsL L) HB.out (TsAt.src (HS.out.at_.on (by (first | ((repeat (first | with_reducible exact Junk.refl _ | with_reducible exact Junk.app _ _ _ _ _ | with_reducible apply Junk.alloc | with_reducible apply Junk.junk | with_reducible apply Junk.drew | with_reducible apply Junk.drewN)); done) | ((try simp only [World.junk_junk, Array.append_assoc]); (repeat (first | with_reducible exact Junk.refl _ | with_reducible exact Junk.app _ _ _ _ _ | with_reducible exact Junk.app2 _ _ _ _ _ _ | with_reducible exact Junk.app3 _ _ _ _ _ _ _ | with_reducible exact Junk.app4 _ _ _ _ _ _ _ _ | with_reducible exact Junk.app5 _ _ _ _ _ _ _ _ _ | with_reducible apply Junk.alloc | with_reducible apply Junk.junk | with_reducible apply Junk.drew | with_reducible apply Junk.drewN))))))) (fun h => by cases h) (tlsL_one' L) (by simp only [maxLen]; omega) (by omega) ?_; intro oa1 cap1 os1 d1 hown _; rw [List.nil_append, Nat.zero_add] at hown; have Hown := Lib.hid hown; clear hown)))
    go_ret
    exact ⟨oa1, cap1, rfl, by (first | ((repeat (first | with_reducible exact Junk.refl _ | with_reducible exact Junk.app _ _ _ _ _ | with_reducible apply Junk.alloc | with_reducible apply Junk.junk | with_reducible apply Junk.drew | with_reducible apply Junk.drewN)); done) | ((try simp only [World.junk_junk, Array.append_assoc]); (repeat (first | with_reducible exact Junk.refl _ | with_reducible exact Junk.app _ _ _ _ _ | with_reducible exact Junk.app2 _ _ _ _ _ _ | with_reducible exact Junk.app3 _ _ _ _ _ _ _ | with_reducible exact Junk.app4 _ _ _ _ _ _ _ _ | with_reducible exact Junk.app5 _ _ _ _ _ _ _ _ _ | with_reducible apply Junk.alloc | with_reducible apply Junk.junk | with_reducible apply Junk.drew | with_reducible apply Junk.drewN)))), Hown.out⟩
end Go.Proofs.YteoommoolmddaaaDoor
