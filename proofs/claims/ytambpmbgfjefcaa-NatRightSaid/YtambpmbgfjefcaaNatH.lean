/- nat.Who, nat.Whose; the fixed answers of layer 17. -/
import Derived.Test.YtambpmbgfjefcaaNatG
set_option linter.unusedVariables false
set_option maxRecDepth 100000
set_option linter.unusedSimpArgs false
namespace Go.Proofs.Ytambpmbgfjefcaa
open Go.RowKit
def Ln.zero : Ln := ⟨0, 0, 0, 0, 0⟩
def gotP (L : List Ln) : Option Nat → Ln × Bool
  | some i => ((L[i]?.getD Ln.zero), true)
  | none => (Ln.zero, false)
theorem got_some (oa : Option Addr) (l c i : Nat) (L : List Ln) (y : Ln) (w : World) (hy : L[i]? = some y) (hL : L.length = l) (hl : l ≤ 1000000) (hS : LsAt w oa L) :
    Calls Try.prog 42 #[.slice oa l c, .int .i64 (i : Int)] w fun e w' => e = .returned (.tuple #[y.val, .bool true]) ∧ Junk w w' := by
  have hi : i < l := by rw [← hL]; exact (List.getElem?_eq_some_iff.1 hy).1
  have hi2 : (i : Int) < (l : Int) := by omega
  obtain ⟨b, off, rfl, hb, c0, c1, c2, c3, c4⟩ := hS i y hy
  clear hS hy hL
  go_enter Try.func42, Try.ntmps42
  go_wp2
  go_returns
  exact ⟨rfl, by ((try simp only [World.junk_junk, Array.append_assoc]); (repeat (first | with_reducible exact Junk.refl _ | with_reducible exact Junk.app _ _ _ _ _ | with_reducible exact Junk.app2 _ _ _ _ _ _ | with_reducible exact Junk.app3 _ _ _ _ _ _ _ | with_reducible exact Junk.app4 _ _ _ _ _ _ _ _ | with_reducible exact Junk.app5 _ _ _ _ _ _ _ _ _ | with_reducible apply Junk.alloc | with_reducible apply Junk.junk | with_reducible apply Junk.drew | with_reducible apply Junk.drewN)))⟩
theorem got_none (oa : Option Addr) (l c : Nat) (w : World) :
    Calls Try.prog 42 #[.slice oa l c, .int .i64 (-1)] w fun e w' => e = .returned (.tuple #[Ln.zero.val, .bool false]) ∧ Junk w w' := by
  go_enter Try.func42, Try.ntmps42
  go_wp2
  go_returns
  exact ⟨rfl, by ((try simp only [World.junk_junk, Array.append_assoc]); (repeat (first | with_reducible exact Junk.refl _ | with_reducible exact Junk.app _ _ _ _ _ | with_reducible exact Junk.app2 _ _ _ _ _ _ | with_reducible exact Junk.app3 _ _ _ _ _ _ _ | with_reducible exact Junk.app4 _ _ _ _ _ _ _ _ | with_reducible exact Junk.app5 _ _ _ _ _ _ _ _ _ | with_reducible apply Junk.alloc | with_reducible apply Junk.junk | with_reducible apply Junk.drew | with_reducible apply Junk.drewN)))⟩
theorem got_any (oa : Option Addr) (l c : Nat) (L : List Ln) (o : Option Nat) (w : World) (ho : ∀ i, o = some i → i < L.length) (hL : L.length = l) (hl : l ≤ 1000000) (hS : LsAt w oa L) :
    Calls Try.prog 42 #[.slice oa l c, .int .i64 (idxI o)] w fun e w' => e = .returned (.tuple #[(gotP L o).1.val, .bool (gotP L o).2]) ∧ Junk w w' := by
  cases o with
  | none => exact got_none oa l c w
  | some i =>
    have hi := ho i rfl
    have hy : L[i]? = some L[i] := List.getElem?_eq_getElem hi
    have hg : gotP L (some i) = (L[i], true) := by simp [gotP, hy]
    rw [hg]
    exact got_some oa l c i L _ w hy hL hl hS
theorem findIdx_lt {α : Type} {L : List α} {pr : α → Bool} : ∀ i, L.findIdx? pr = some i → i < L.length := fun i h => (List.findIdx?_eq_some_iff_getElem.1 h).1
def whoP (L : List Ln) (proto port : Int) : Ln × Bool := gotP L (L.findIdx? (outerB ⟨proto, 0, 0, port, 0⟩))
def whoseP (L : List Ln) (proto inn inport : Int) : Ln × Bool := gotP L (L.findIdx? (innerB ⟨proto, inn, inport, 0, 0⟩))
theorem who_any (proto port : Int) (oa : Option Addr) (l c : Nat) (L : List Ln) (w : World) (hl : l ≤ 1000000) (hL : L.length = l) (hS : LsAt w oa L) :
    Calls Try.prog 24 #[.slice oa l c, .int .i64 proto, .int .i64 port] w fun e w' => e = .returned (.tuple #[(whoP L proto port).1.val, .bool (whoP L proto port).2]) ∧ Junk w w' := by
  have HS := Lib.hid hS
  clear hS
  obtain ⟨o, ho⟩ : ∃ o, o = L.findIdx? (outerB ⟨proto, 0, 0, port, 0⟩) := ⟨_, rfl⟩
  have hb := Lib.hid (fun i (h : o = some i) => findIdx_lt (L := L) (pr := outerB ⟨proto, 0, 0, port, 0⟩) i (by rw [← ho]; exact h))
  have hfd := fun w1 h => find_outer ⟨proto, 0, 0, port, 0⟩ oa l c L w1 hl hL h
  have HE := Lib.hid (show whoP L proto port = gotP L o by unfold whoP; rw [ho])
  rw [← ho] at hfd
  have FD := Lib.hid hfd
  rw [HE.out]
  clear ho hfd
  go_enter Try.func24, Try.ntmps24
  go_wp2_with (first
    | (go_at_call 36; refine (FD.out _ (HS.out.on (by ((try simp only [World.junk_junk, Array.append_assoc]); (repeat (first | with_reducible exact Junk.refl _ | with_reducible exact Junk.app _ _ _ _ _ | with_reducible exact Junk.app2 _ _ _ _ _ _ | with_reducible exact Junk.app3 _ _ _ _ _ _ _ | with_reducible exact Junk.app4 _ _ _ _ _ _ _ _ | with_reducible exact Junk.app5 _ _ _ _ _ _ _ _ _ | with_reducible apply Junk.alloc | with_reducible apply Junk.junk | with_reducible apply Junk.drew | with_reducible apply Junk.drewN)))))).mono ?_; rintro e w' ⟨rfl, ⟨osj, dj, rfl⟩⟩)
    | (go_at_call 42; refine (got_any oa l c L o _ hb.out hL hl (HS.out.on (by ((try simp only [World.junk_junk, Array.append_assoc]); (repeat (first | with_reducible exact Junk.refl _ | with_reducible exact Junk.app _ _ _ _ _ | with_reducible exact Junk.app2 _ _ _ _ _ _ | with_reducible exact Junk.app3 _ _ _ _ _ _ _ | with_reducible exact Junk.app4 _ _ _ _ _ _ _ _ | with_reducible exact Junk.app5 _ _ _ _ _ _ _ _ _ | with_reducible apply Junk.alloc | with_reducible apply Junk.junk | with_reducible apply Junk.drew | with_reducible apply Junk.drewN)))))).mono ?_; rintro e w' ⟨rfl, ⟨osj2, dj2, rfl⟩⟩))
  go_returns
  exact ⟨rfl, by ((try simp only [World.junk_junk, Array.append_assoc]); (repeat (first | with_reducible exact Junk.refl _ | with_reducible exact Junk.app _ _ _ _ _ | with_reducible exact Junk.app2 _ _ _ _ _ _ | with_reducible exact Junk.app3 _ _ _ _ _ _ _ | with_reducible exact Junk.app4 _ _ _ _ _ _ _ _ | with_reducible exact Junk.app5 _ _ _ _ _ _ _ _ _ | with_reducible apply Junk.alloc | with_reducible apply Junk.junk | with_reducible apply Junk.drew | with_reducible apply Junk.drewN)))⟩
theorem whose_any (proto inn inport : Int) (oa : Option Addr) (l c : Nat) (L : List Ln) (w : World) (hl : l ≤ 1000000) (hL : L.length = l) (hS : LsAt w oa L) :
    Calls Try.prog 26 #[.slice oa l c, .int .i64 proto, .int .u32 inn, .int .i64 inport] w fun e w' => e = .returned (.tuple #[(whoseP L proto inn inport).1.val, .bool (whoseP L proto inn inport).2]) ∧ Junk w w' := by
  have HS := Lib.hid hS
  clear hS
  obtain ⟨o, ho⟩ : ∃ o, o = L.findIdx? (innerB ⟨proto, inn, inport, 0, 0⟩) := ⟨_, rfl⟩
  have hb := Lib.hid (fun i (h : o = some i) => findIdx_lt (L := L) (pr := innerB ⟨proto, inn, inport, 0, 0⟩) i (by rw [← ho]; exact h))
  have hfd := fun w1 h => find_inner ⟨proto, inn, inport, 0, 0⟩ oa l c L w1 hl hL h
  have HE := Lib.hid (show whoseP L proto inn inport = gotP L o by unfold whoseP; rw [ho])
  rw [← ho] at hfd
  have FD := Lib.hid hfd
  rw [HE.out]
  clear ho hfd
  go_enter Try.func26, Try.ntmps26
  go_wp2_with (first
    | (go_at_call 36; refine (FD.out _ (HS.out.on (by ((try simp only [World.junk_junk, Array.append_assoc]); (repeat (first | with_reducible exact Junk.refl _ | with_reducible exact Junk.app _ _ _ _ _ | with_reducible exact Junk.app2 _ _ _ _ _ _ | with_reducible exact Junk.app3 _ _ _ _ _ _ _ | with_reducible exact Junk.app4 _ _ _ _ _ _ _ _ | with_reducible exact Junk.app5 _ _ _ _ _ _ _ _ _ | with_reducible apply Junk.alloc | with_reducible apply Junk.junk | with_reducible apply Junk.drew | with_reducible apply Junk.drewN)))))).mono ?_; rintro e w' ⟨rfl, ⟨osj, dj, rfl⟩⟩)
    | (go_at_call 42; refine (got_any oa l c L o _ hb.out hL hl (HS.out.on (by ((try simp only [World.junk_junk, Array.append_assoc]); (repeat (first | with_reducible exact Junk.refl _ | with_reducible exact Junk.app _ _ _ _ _ | with_reducible exact Junk.app2 _ _ _ _ _ _ | with_reducible exact Junk.app3 _ _ _ _ _ _ _ | with_reducible exact Junk.app4 _ _ _ _ _ _ _ _ | with_reducible exact Junk.app5 _ _ _ _ _ _ _ _ _ | with_reducible apply Junk.alloc | with_reducible apply Junk.junk | with_reducible apply Junk.drew | with_reducible apply Junk.drewN)))))).mono ?_; rintro e w' ⟨rfl, ⟨osj2, dj2, rfl⟩⟩))
  go_returns
  exact ⟨rfl, by ((try simp only [World.junk_junk, Array.append_assoc]); (repeat (first | with_reducible exact Junk.refl _ | with_reducible exact Junk.app _ _ _ _ _ | with_reducible exact Junk.app2 _ _ _ _ _ _ | with_reducible exact Junk.app3 _ _ _ _ _ _ _ | with_reducible exact Junk.app4 _ _ _ _ _ _ _ _ | with_reducible exact Junk.app5 _ _ _ _ _ _ _ _ _ | with_reducible apply Junk.alloc | with_reducible apply Junk.junk | with_reducible apply Junk.drew | with_reducible apply Junk.drewN)))⟩
def aw1 : Ln := ⟨6, 1, 5000, 5000, 9⟩
def aw2 : Ln := ⟨6, 2, 5000, 5004, 9⟩
theorem aw_1 : askP 5000 5009 [] ⟨6, 1, 5000, 0, 9⟩ 0 = ([aw1], 5000, 0) := by decide +kernel
theorem aw_2 : askP 5000 5009 [aw1] ⟨6, 2, 5000, 0, 9⟩ 1 = ([aw1, aw2], 5004, 0) := by decide +kernel
theorem aw_3 : whoP [aw1, aw2] 6 5004 = (aw2, true) := by decide +kernel
theorem awake17_any (w : World) : Calls Try.prog 18 #[] w fun e w' => e = .returned (.bool true) ∧ Junk w w' := by
  have a1 : ∀ w1, Calls Try.prog 20 #[.slice none 0 0, .int .i64 5000, .int .i64 5009, .agg #[.int .i64 6, .int .u32 1, .int .i64 5000, .int .i64 0, .int .i64 9], .int .u32 0] w1 (AskM w1 ([aw1], 5000, 0)) := fun w1 => by
    have := ask_any 5000 5009 none 0 0 [] ⟨6, 1, 5000, 0, 9⟩ 0 w1 (by decide) (by decide) rfl (LsAt.nil _ _) (fun _ => ⟨rfl, rfl⟩) (by decide)
    rw [aw_1] at this
    exact this
  have a2 : ∀ w1 oa c, 1 ≤ c → LsAt w1 (some oa) [aw1] → Calls Try.prog 20 #[.slice (some oa) 1 c, .int .i64 5000, .int .i64 5009, .agg #[.int .i64 6, .int .u32 2, .int .i64 5000, .int .i64 0, .int .i64 9], .int .u32 1] w1 (AskM w1 ([aw1, aw2], 5004, 0)) := fun w1 oa c hc h => by
    have := ask_any 5000 5009 (some oa) 1 c [aw1] ⟨6, 2, 5000, 0, 9⟩ 1 w1 (by decide) hc rfl h (fun h => by cases h) (by decide)
    rw [aw_2] at this
    exact this
  have a3 : ∀ w1 oa c, LsAt w1 oa [aw1, aw2] → Calls Try.prog 24 #[.slice oa 2 c, .int .i64 6, .int .i64 5004] w1 fun e w' => e = .returned (.tuple #[.agg #[.int .i64 6, .int .u32 2, .int .i64 5000, .int .i64 5004, .int .i64 9], .bool true]) ∧ Junk w1 w' := fun w1 oa c h => by
    have := who_any 6 5004 oa 2 c [aw1, aw2] w1 (by decide) rfl h
    rw [aw_3] at this
    exact this
  have A1 := Lib.hid a1
  have A2 := Lib.hid a2
  have A3 := Lib.hid a3
  clear a1 a2 a3
  go_enter Try.func18, Try.ntmps18
  go_wp2_with (first
    | (go_at_call 20; first | ((with_reducible refine (A1.out _).mono ?_); rintro e w' ⟨ob, cap, rfl, ⟨osj, dj, rfl⟩, hown, hcap⟩; obtain ⟨g, rfl⟩ := own_at0 hown (by decide); have Hown := Lib.hid hown; clear hown) | ((with_reducible refine (A2.out _ _ _ hcap ((own_ls Hown.out).on (by ((try simp only [World.junk_junk, Array.append_assoc]); (repeat (first | with_reducible exact Junk.refl _ | with_reducible exact Junk.app _ _ _ _ _ | with_reducible exact Junk.app2 _ _ _ _ _ _ | with_reducible exact Junk.app3 _ _ _ _ _ _ _ | with_reducible exact Junk.app4 _ _ _ _ _ _ _ _ | with_reducible exact Junk.app5 _ _ _ _ _ _ _ _ _ | with_reducible apply Junk.alloc | with_reducible apply Junk.junk | with_reducible apply Junk.drew | with_reducible apply Junk.drewN)))))).mono ?_); rintro e w' ⟨ob2, cap2, rfl, ⟨osj2, dj2, rfl⟩, hown2, hcap2⟩; have Hown2 := Lib.hid hown2; clear hown2))
    | (go_at_call 24; refine (A3.out _ _ _ ((own_ls Hown2.out).on (by ((try simp only [World.junk_junk, Array.append_assoc]); (repeat (first | with_reducible exact Junk.refl _ | with_reducible exact Junk.app _ _ _ _ _ | with_reducible exact Junk.app2 _ _ _ _ _ _ | with_reducible exact Junk.app3 _ _ _ _ _ _ _ | with_reducible exact Junk.app4 _ _ _ _ _ _ _ _ | with_reducible exact Junk.app5 _ _ _ _ _ _ _ _ _ | with_reducible apply Junk.alloc | with_reducible apply Junk.junk | with_reducible apply Junk.drew | with_reducible apply Junk.drewN)))))).mono ?_; rintro e w' ⟨rfl, ⟨osj3, dj3, rfl⟩⟩))
  go_ret
  exact ⟨ret_bool rfl, by ((try simp only [World.junk_junk, Array.append_assoc]); (repeat (first | with_reducible exact Junk.refl _ | with_reducible exact Junk.app _ _ _ _ _ | with_reducible exact Junk.app2 _ _ _ _ _ _ | with_reducible exact Junk.app3 _ _ _ _ _ _ _ | with_reducible exact Junk.app4 _ _ _ _ _ _ _ _ | with_reducible exact Junk.app5 _ _ _ _ _ _ _ _ _ | with_reducible apply Junk.alloc | with_reducible apply Junk.junk | with_reducible apply Junk.drew | with_reducible apply Junk.drewN)))⟩
end Go.Proofs.Ytambpmbgfjefcaa
