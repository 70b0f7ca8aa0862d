/- The fixed answers of the laws of tuples. -/
import Derived.Test.YtjmofjcloebgmaaTupE
set_option linter.unusedVariables false
set_option maxRecDepth 100000
set_option linter.unusedSimpArgs false
namespace Go.Proofs.Ytjmofjcloebgmaa
open Go.RowKit
theorem tup_field (p s sp d dp : Int) (w : World) : (Instr.field 58 (.agg #[.int .i64 p, .int .u32 s, .int .i64 sp, .int .u32 d, .int .i64 dp]) 1).run Try.prog w = .ok (.int .u32 s) w := by
  have u4 := Try.underlying22
  have a4 := Try.isAgg22
  have z4 := Try.sizeOf22
  have u := Try.underlying58
  have ru := run_underlying (P := Try.prog) u
  unfold Instr.field
  go_simp
  rfl
theorem icmp_put_ok {w w' : World} {t c r : Int} {xs : Nat → Int} {l : Nat} {e : Ending} (h : PutM w t c r xs l e w') (h0 : putErr t c l = 0) :
    ∃ ob cb, e = .returned (.tuple #[.slice ob (8 + l) cb, .int .i64 0]) ∧ Junk w w' ∧ Bts w' ob (8 + l) cb (putB t c r xs l) := by
  obtain ⟨ob, lb, cb, rfl, hj, hb, ⟨_, rfl⟩ | ⟨h1, _⟩⟩ := h
  · exact ⟨ob, cb, by rw [h0], hj, hb⟩
  · exact absurd h0 h1
def e9 : Nat → Int := putB 8 0 458752 (fun _ => 0) 0
theorem e9_err : putErr 8 0 0 = 0 := by decide +kernel
theorem e9_of : ofErr false 0 1 1 2 e9 8 = 0 := by decide +kernel
theorem e9_tup : ofTup false 0 1 1 2 e9 8 = ⟨1, 1, 7, 2, 7⟩ := by decide +kernel
theorem e9_hash : (tupHash ⟨1, 1, 7, 2, 7⟩ 0 != 0) = true := by decide +kernel
theorem e9_w : TupW ⟨1, 1, 7, 2, 7⟩ := ⟨⟨by decide, by decide⟩, by decide, by decide⟩
set_option maxHeartbeats 1000000 in
theorem awake09_any (w : World) : Calls Try.prog 29 #[] w fun e w' => e = .returned (.bool true) ∧ Junk w w' := by
  have HPUT := Lib.hid (fun w1 => show Calls Try.prog 32 #[.agg #[.int .i64 8, .int .i64 0, .int .u32 458752, .slice none 0 0]] w1 fun e w' => ∃ ob cb, e = .returned (.tuple #[.slice ob 8 cb, .int .i64 0]) ∧ Junk w1 w' ∧ Bts w' ob 8 cb e9 from (put_any 8 0 458752 none 0 0 (fun _ => 0) w1 (by omega) (by omega) (bts_nil _ _)).mono fun e w' hp => icmp_put_ok hp e9_err)
  have HOF := Lib.hid (fun (ob : Option Addr) (cb : Nat) w1 (hb : Bts w1 ob 8 cb e9) => show Calls Try.prog 33 #[.agg #[.int .i64 0, .int .i64 0, .bool false, .bool false, .int .i64 0, .int .i64 0, .int .i64 1, .int .u32 1, .int .u32 2, .slice none 0 0, .slice ob 8 cb]] w1 fun e w' => e = .returned (.tuple #[.agg #[.int .i64 1, .int .u32 1, .int .i64 7, .int .u32 2, .int .i64 7], .int .i64 0]) ∧ Junk w1 w' by
    have := tup_of_any (.int .i64 0) (.int .i64 0) (.bool false) (.int .i64 0) (.slice none 0 0) false 0 1 1 2 ob 8 cb e9 w1 (by omega) (by omega) (by omega) hb
    rw [e9_of, e9_tup] at this
    exact this)
  obtain ⟨H, hH⟩ : ∃ h, tupHash ⟨1, 1, 7, 2, 7⟩ 0 = h := ⟨_, rfl⟩
  have HH := Lib.hid (fun w1 => show Calls Try.prog 38 #[.agg #[.int .i64 1, .int .u32 1, .int .i64 7, .int .u32 2, .int .i64 7], .int .u32 0] w1 fun e w' => e = .returned (.int .u32 H) ∧ Junk w1 w' by rw [← hH]; exact tup_hash_any ⟨1, 1, 7, 2, 7⟩ 0 w1 e9_w (by omega))
  have hne := e9_hash
  rw [hH] at hne
  clear hH
  have hg := tup_guard
  have hq : ∀ w, (binOp .eql 58 (.agg #[.int .i64 1, .int .u32 1, .int .i64 7, .int .u32 2, .int .i64 7]) (.agg #[.int .i64 1, .int .u32 1, .int .i64 7, .int .u32 2, .int .i64 7])).run Try.prog w = .ok (.bool true) w := fun w => by have := tup_eql ⟨1, 1, 7, 2, 7⟩ ⟨1, 1, 7, 2, 7⟩ w; exact this
  have hf := tup_field 1 2 7 1 7
  go_enter Try.func29, Try.ntmps29
  go_wp2_with (first
    | (go_at_call 32; refine (HPUT.out _).mono ?_; rintro e w' ⟨ob, cb, rfl, ⟨osj, dj, rfl⟩, hb⟩; have Hb := Lib.hid hb; clear hb)
    | (go_at_call 33; refine (HOF.out ob cb _ (Hb.out.on (by ((try simp only [World.junk_junk, Array.append_assoc]); (repeat (first | with_reducible exact Junk.refl _ | with_reducible exact Junk.app _ _ _ _ _ | with_reducible exact Junk.app2 _ _ _ _ _ _ | with_reducible exact Junk.app3 _ _ _ _ _ _ _ | with_reducible exact Junk.app4 _ _ _ _ _ _ _ _ | with_reducible exact Junk.app5 _ _ _ _ _ _ _ _ _ | with_reducible apply Junk.alloc | with_reducible apply Junk.junk | with_reducible apply Junk.drew | with_reducible apply Junk.drewN)))))).mono ?_; rintro e w' ⟨rfl, ⟨osj, dj, rfl⟩⟩)
    | (go_at_call 30; refine (tup_turn_any ⟨1, 1, 7, 2, 7⟩ _).mono ?_; rintro e w' ⟨rfl, ⟨osj, dj, rfl⟩⟩)
    | (go_at_call 38; refine (HH.out _).mono ?_; rintro e w' ⟨rfl, ⟨osj, dj, rfl⟩⟩))
  go_ret
  exact ⟨ret_bool rfl, by ((try simp only [World.junk_junk, Array.append_assoc]); (repeat (first | with_reducible exact Junk.refl _ | with_reducible exact Junk.app _ _ _ _ _ | with_reducible exact Junk.app2 _ _ _ _ _ _ | with_reducible exact Junk.app3 _ _ _ _ _ _ _ | with_reducible exact Junk.app4 _ _ _ _ _ _ _ _ | with_reducible exact Junk.app5 _ _ _ _ _ _ _ _ _ | with_reducible apply Junk.alloc | with_reducible apply Junk.junk | with_reducible apply Junk.drew | with_reducible apply Junk.drewN)))⟩
end Go.Proofs.Ytjmofjcloebgmaa
