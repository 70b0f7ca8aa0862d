/- The law NatOne: whoever asks, and whenever: loans stay right; who asks again has the same port as long as the loan lasts; whom a port leads to is who has it; only where no port is free none is lent. -/
import Derived.Test.YtambpmbgfjefcaaNatN
set_option linter.unusedVariables false
set_option maxRecDepth 100000
set_option linter.unusedSimpArgs false
namespace Go.Proofs.Ytambpmbgfjefcaa
open Go.RowKit
structure Act1 where
  tick : Bool
  name : Ln
  draw : Nat
  now : Int
def Act1.cells (x : Act1) : List Value := [.bool x.tick, .int .i64 x.name.proto, .int .u32 x.name.inn, .int .i64 x.name.inport, .int .i64 x.name.port, .int .i64 x.name.till, .int .u32 (x.draw : Int), .int .i64 x.now]
def ActsAt (w : World) (oa : Option Addr) (A : List Act1) : Prop := ∀ i x, A[i]? = some x → ∃ b off, oa = some ⟨b, off, none⟩ ∧ b < w.heap.size ∧
  w.cell? ⟨b, off + i * 8, none⟩ = some (.bool x.tick) ∧ w.cell? ⟨b, off + i * 8 + 1, none⟩ = some (.int .i64 x.name.proto) ∧ w.cell? ⟨b, off + i * 8 + 2, none⟩ = some (.int .u32 x.name.inn) ∧ w.cell? ⟨b, off + i * 8 + 3, none⟩ = some (.int .i64 x.name.inport) ∧ w.cell? ⟨b, off + i * 8 + 4, none⟩ = some (.int .i64 x.name.port) ∧ w.cell? ⟨b, off + i * 8 + 5, none⟩ = some (.int .i64 x.name.till) ∧ w.cell? ⟨b, off + i * 8 + 6, none⟩ = some (.int .u32 (x.draw : Int)) ∧ w.cell? ⟨b, off + i * 8 + 7, none⟩ = some (.int .i64 x.now)
set_option maxHeartbeats 16000000 in
theorem natOne_walk (lo size : Int) (oa : Option Addr) (l c : Nat) (A : List Act1) (w : World) (hlo : 0 ≤ lo ∧ lo ≤ 65535) (hsz : 0 ≤ size ∧ size ≤ 255) (hA : A.length = l) (hS : ActsAt w oa A) (hD : ∀ x ∈ A, x.draw < 4294967296) :
    Calls Try.prog 9 #[.int .u16 lo, .int .u8 size, .slice oa l c] w fun e w' => e = .returned (.bool true) ∧ Junk w w' := by
  have HAT := Lib.hid hS
  have HAL := Lib.hid hA
  have HAD := Lib.hid hD
  clear hS hA hD
  obtain ⟨a, ha⟩ : ∃ a : Nat, lo % 60000 + 1 = (a : Int) := ⟨(lo % 60000 + 1).toNat, by omega⟩
  obtain ⟨b, hb⟩ : ∃ b : Nat, (a : Int) + size % 100 = (b : Int) := ⟨((a : Int) + size % 100).toNat, by omega⟩
  have a1 : 1 ≤ a := by omega
  have ab : a ≤ b := by omega
  have b9 : b ≤ 60101 := by omega
  have HR := Lib.hid (show rightB a b = true by simp [rightB]; omega)
  go_enter Try.func9, Try.ntmps9
  go_wp2_with (first
    | (go_at_call 18; refine (awake17_any _).mono ?_; rintro e w' ⟨rfl, ⟨osj, dj, rfl⟩⟩))
  go_loopw [9, 10] (fun v i wr => ∃ (k m : Nat) (S : List Ln) (ob : Option Addr) (cap : Nat), v = .slice ob m cap ∧ i = .int .i64 (k : Int) ∧ Junk w wr ∧ Own w.heap.size wr 39 5 ob cap m (lnsL S) ∧ m ≤ k ∧ k ≤ l ∧ k ≤ 100 ∧ Hid (natRight a b S = true)) (fun _ i _ => l + 1 - (intOf i).toNat)
  case atStart => exact ⟨0, 0, [], none, 0, rfl, rfl, by ((try simp only [World.junk_junk, Array.append_assoc]); (repeat (first | with_reducible exact Junk.refl _ | with_reducible exact Junk.app _ _ _ _ _ | with_reducible exact Junk.app2 _ _ _ _ _ _ | with_reducible exact Junk.app3 _ _ _ _ _ _ _ | with_reducible exact Junk.app4 _ _ _ _ _ _ _ _ | with_reducible exact Junk.app5 _ _ _ _ _ _ _ _ _ | with_reducible apply Junk.alloc | with_reducible apply Junk.junk | with_reducible apply Junk.drew | with_reducible apply Junk.drewN))), Own.nil _ _ _ _, by omega, by omega, by omega, Lib.hid (natRight_iff.2 ⟨HR.out, fun x hx => by simp at hx, List.Pairwise.nil⟩)⟩
  case round =>
    obtain ⟨k, m, S, ob, cap, rfl, rfl, ⟨os, d, rfl⟩, hown, hmk, hkl, hk9, hR⟩ := hrel
    have Hown := Lib.hid hown
    have HS := Lib.hid (show S.length = m by have := hown.len; rw [lnsL_len] at this; omega)
    clear hown
    by_cases h1 : k < l
    case neg =>
      have h1' : ¬ (k : Int) < (l : Int) := by omega
      go_wp2_with (first
        | (go_at_call 14; refine (right_any (a : Int) (b : Int) _).mono ?_; rintro e w' ⟨rfl, rfl⟩; rw [HR.out]))
      go_ret
      exact ⟨ret_bool rfl, by ((try simp only [World.junk_junk, Array.append_assoc]); (repeat (first | with_reducible exact Junk.refl _ | with_reducible exact Junk.app _ _ _ _ _ | with_reducible exact Junk.app2 _ _ _ _ _ _ | with_reducible exact Junk.app3 _ _ _ _ _ _ _ | with_reducible exact Junk.app4 _ _ _ _ _ _ _ _ | with_reducible exact Junk.app5 _ _ _ _ _ _ _ _ _ | with_reducible apply Junk.alloc | with_reducible apply Junk.junk | with_reducible apply Junk.drew | with_reducible apply Junk.drewN)))⟩
    have h1' : (k : Int) < (l : Int) := by omega
    by_cases h2 : k < 100
    case neg =>
      have h2' : ¬ (k : Int) < 100 := by omega
      go_wp2_with (first
        | (go_at_call 14; refine (right_any (a : Int) (b : Int) _).mono ?_; rintro e w' ⟨rfl, rfl⟩; rw [HR.out]))
      go_ret
      exact ⟨ret_bool rfl, by ((try simp only [World.junk_junk, Array.append_assoc]); (repeat (first | with_reducible exact Junk.refl _ | with_reducible exact Junk.app _ _ _ _ _ | with_reducible exact Junk.app2 _ _ _ _ _ _ | with_reducible exact Junk.app3 _ _ _ _ _ _ _ | with_reducible exact Junk.app4 _ _ _ _ _ _ _ _ | with_reducible exact Junk.app5 _ _ _ _ _ _ _ _ _ | with_reducible apply Junk.alloc | with_reducible apply Junk.junk | with_reducible apply Junk.drew | with_reducible apply Junk.drewN)))⟩
    have h2' : (k : Int) < 100 := by omega
    obtain ⟨x, hx⟩ : ∃ x, A[k]? = some x := ⟨_, List.getElem?_eq_getElem (by rw [HAL.out]; exact h1)⟩
    obtain ⟨bb, off, rfl, hbb, c0, c1, c2, c3, c4, c5, c6, c7⟩ := HAT.out k x hx
    have hxd := HAD.out x (List.mem_of_getElem? hx)
    clear hx
    obtain ⟨at_, ⟨ap, ai, an, ao, au⟩, ad, aw⟩ := x
    dsimp only at c0 c1 c2 c3 c4 c5 c6 c7 hxd
    cases at_ with
    | true =>
      have hnil := own_none2 Hown.out
      obtain ⟨n, hn⟩ : ∃ n, n = (tickL S aw).length := ⟨_, rfl⟩
      have hnm : n ≤ m := by rw [hn, ← HS.out]; exact List.length_filter_le _ _
      have tk := fun w1 h => tick_any aw ob m cap S w1 (by omega) HS.out h hnil
      have TK := Lib.hid (show ∀ w1, LsAt w1 ob S → Calls Try.prog 28 #[.slice ob m cap, .int .i64 aw] w1 fun e w' => ∃ ob2 cap2, e = .returned (.tuple #[.slice ob2 n cap2, .int .i64 ((m : Int) - (n : Int))]) ∧ Junk w1 w' ∧ Own w1.heap.size w' 39 5 ob2 cap2 n (lnsL (tickL S aw)) from fun w1 h => (tk w1 h).mono fun e w' ⟨o2, p2, h1, h2, h3⟩ => ⟨o2, p2, by rw [h1, ← hn, HS.out, show ((m - n : Nat) : Int) = (m : Int) - (n : Int) by omega], h2, by rw [← hn] at h3; exact h3⟩)
      have HrN := Lib.hid (tick_right aw hR.out)
      have HlenN := Lib.hid hn.symm
      clear tk hnil hn
      go_wp2_with (first
        | (go_at_call 28; refine (TK.out _ ((own_ls Hown.out).on (by ((try simp only [World.junk_junk, Array.append_assoc]); (repeat (first | with_reducible exact Junk.refl _ | with_reducible exact Junk.app _ _ _ _ _ | with_reducible exact Junk.app2 _ _ _ _ _ _ | with_reducible exact Junk.app3 _ _ _ _ _ _ _ | with_reducible exact Junk.app4 _ _ _ _ _ _ _ _ | with_reducible exact Junk.app5 _ _ _ _ _ _ _ _ _ | with_reducible apply Junk.alloc | with_reducible apply Junk.junk | with_reducible apply Junk.drew | with_reducible apply Junk.drewN)))))).mono ?_; rintro e w' ⟨obN, capN, rfl, ⟨osa, da, rfl⟩, hownN⟩; have HownN := Lib.hid hownN; have HcapN := Lib.hid hownN.capLe.1; clear hownN)
        | (go_at_call 19; refine (natRight_any (a : Int) (b : Int) _ _ _ _ _ (by omega) HcapN.out HlenN.out ((own_ls HownN.out).on (by ((try simp only [World.junk_junk, Array.append_assoc]); (repeat (first | with_reducible exact Junk.refl _ | with_reducible exact Junk.app _ _ _ _ _ | with_reducible exact Junk.app2 _ _ _ _ _ _ | with_reducible exact Junk.app3 _ _ _ _ _ _ _ | with_reducible exact Junk.app4 _ _ _ _ _ _ _ _ | with_reducible exact Junk.app5 _ _ _ _ _ _ _ _ _ | with_reducible apply Junk.alloc | with_reducible apply Junk.junk | with_reducible apply Junk.drew | with_reducible apply Junk.drewN)))))).mono ?_; rintro e w' ⟨rfl, ⟨osr, dr, rfl⟩⟩; rw [HrN.out]))
      exact ⟨⟨k + 1, n, tickL S aw, obN, capN, rfl, by go_num, by ((try simp only [World.junk_junk, Array.append_assoc]); (repeat (first | with_reducible exact Junk.refl _ | with_reducible exact Junk.app _ _ _ _ _ | with_reducible exact Junk.app2 _ _ _ _ _ _ | with_reducible exact Junk.app3 _ _ _ _ _ _ _ | with_reducible exact Junk.app4 _ _ _ _ _ _ _ _ | with_reducible exact Junk.app5 _ _ _ _ _ _ _ _ _ | with_reducible apply Junk.alloc | with_reducible apply Junk.junk | with_reducible apply Junk.drew | with_reducible apply Junk.drewN))), (HownN.out.on (by ((try simp only [World.junk_junk, Array.append_assoc]); (repeat (first | with_reducible exact Junk.refl _ | with_reducible exact Junk.app _ _ _ _ _ | with_reducible exact Junk.app2 _ _ _ _ _ _ | with_reducible exact Junk.app3 _ _ _ _ _ _ _ | with_reducible exact Junk.app4 _ _ _ _ _ _ _ _ | with_reducible exact Junk.app5 _ _ _ _ _ _ _ _ _ | with_reducible apply Junk.alloc | with_reducible apply Junk.junk | with_reducible apply Junk.drew | with_reducible apply Junk.drewN))))).lower (by simp; omega), by omega, by omega, by omega, HrN⟩, by simp [intOf]; omega⟩
    | false =>
      have hnil := own_none2 Hown.out
      have hok := ask_ok ⟨ap, ai, an, ao, au⟩ ad hR.out
      obtain ⟨⟨N, p, er⟩, hRR⟩ : ∃ R, R = askP a b S ⟨ap, ai, an, ao, au⟩ ad := ⟨_, rfl⟩
      obtain ⟨⟨wy, had⟩, hW⟩ : ∃ R, R = whoseP S ap ai an := ⟨_, rfl⟩
      rw [← hRR] at hok
      unfold AskOk at hok
      dsimp only at hok
      rw [← hW] at hok
      obtain ⟨n, hn⟩ : ∃ n, n = N.length := ⟨_, rfl⟩
      have ask := fun w1 h => ask_any a b ob m cap S ⟨ap, ai, an, ao, au⟩ ad w1 (by omega) Hown.out.capLe.1 HS.out h hnil hxd
      have whs := fun w1 h => whose_any ap ai an ob m cap S w1 (by omega) HS.out h
      rw [← hRR] at ask
      rw [← hW] at whs
      have HA := Lib.hid (show ∀ w1, LsAt w1 ob S → Calls Try.prog 20 #[.slice ob m cap, .int .i64 (a : Int), .int .i64 (b : Int), .agg #[.int .i64 ap, .int .u32 ai, .int .i64 an, .int .i64 ao, .int .i64 au], .int .u32 (ad : Int)] w1 fun e w' => ∃ ob2 cap2, e = .returned (.tuple #[.slice ob2 n cap2, .int .i64 p, .int .i64 er]) ∧ Junk w1 w' ∧ Own w1.heap.size w' 39 5 ob2 cap2 n (lnsL N) ∧ n ≤ cap2 from fun w1 h => (ask w1 h).mono fun e w' ⟨o2, p2, h1, h2, h3, h4⟩ => ⟨o2, p2, by rw [h1, hn], h2, by rw [hn]; exact h3, by rw [hn]; exact h4⟩)
      have HW := Lib.hid (show ∀ w1, LsAt w1 ob S → Calls Try.prog 26 #[.slice ob m cap, .int .i64 ap, .int .u32 ai, .int .i64 an] w1 fun e w' => e = .returned (.tuple #[.agg #[.int .i64 wy.proto, .int .u32 wy.inn, .int .i64 wy.inport, .int .i64 wy.port, .int .i64 wy.till], .bool had]) ∧ Junk w1 w' from whs)
      obtain ⟨hrn, hle, hcs⟩ := hok
      have hnm : n ≤ m + 1 := by rw [hn, ← HS.out]; exact hle
      have HrN := Lib.hid hrn
      have HlenN := Lib.hid hn.symm
      clear ask whs hnil hRR hrn hle hn
      rcases hcs with ⟨rfl, rfl, rfl⟩ | ⟨rfl, rfl, rfl, rfl, hcnt⟩ | ⟨rfl, y, hy, hy1, hy2, hy3, hp1, hp2, hhad⟩
      · obtain rfl : n = m := by rw [← HlenN.out, HS.out]
        clear hW
        go_wp2_with (first
          | (go_at_call 26; refine (HW.out _ ((own_ls Hown.out).on (by ((try simp only [World.junk_junk, Array.append_assoc]); (repeat (first | with_reducible exact Junk.refl _ | with_reducible exact Junk.app _ _ _ _ _ | with_reducible exact Junk.app2 _ _ _ _ _ _ | with_reducible exact Junk.app3 _ _ _ _ _ _ _ | with_reducible exact Junk.app4 _ _ _ _ _ _ _ _ | with_reducible exact Junk.app5 _ _ _ _ _ _ _ _ _ | with_reducible apply Junk.alloc | with_reducible apply Junk.junk | with_reducible apply Junk.drew | with_reducible apply Junk.drewN)))))).mono ?_; rintro e w' ⟨rfl, ⟨osw, dw, rfl⟩⟩)
          | (go_at_call 20; refine (HA.out _ ((own_ls Hown.out).on (by ((try simp only [World.junk_junk, Array.append_assoc]); (repeat (first | with_reducible exact Junk.refl _ | with_reducible exact Junk.app _ _ _ _ _ | with_reducible exact Junk.app2 _ _ _ _ _ _ | with_reducible exact Junk.app3 _ _ _ _ _ _ _ | with_reducible exact Junk.app4 _ _ _ _ _ _ _ _ | with_reducible exact Junk.app5 _ _ _ _ _ _ _ _ _ | with_reducible apply Junk.alloc | with_reducible apply Junk.junk | with_reducible apply Junk.drew | with_reducible apply Junk.drewN)))))).mono ?_; rintro e w' ⟨obN, capN, rfl, ⟨osa, da, rfl⟩, hownN, hcapN⟩; have HownN := Lib.hid hownN; have HcapN := Lib.hid hcapN; clear hownN hcapN)
          | (go_at_call 23; refine (rsameL_any _ _ _ _ _ _ N N _ (by omega) (by omega) HS.out HS.out ((own_ls HownN.out).on (by ((try simp only [World.junk_junk, Array.append_assoc]); (repeat (first | with_reducible exact Junk.refl _ | with_reducible exact Junk.app _ _ _ _ _ | with_reducible exact Junk.app2 _ _ _ _ _ _ | with_reducible exact Junk.app3 _ _ _ _ _ _ _ | with_reducible exact Junk.app4 _ _ _ _ _ _ _ _ | with_reducible exact Junk.app5 _ _ _ _ _ _ _ _ _ | with_reducible apply Junk.alloc | with_reducible apply Junk.junk | with_reducible apply Junk.drew | with_reducible apply Junk.drewN))))) ((own_ls Hown.out).on (by ((try simp only [World.junk_junk, Array.append_assoc]); (repeat (first | with_reducible exact Junk.refl _ | with_reducible exact Junk.app _ _ _ _ _ | with_reducible exact Junk.app2 _ _ _ _ _ _ | with_reducible exact Junk.app3 _ _ _ _ _ _ _ | with_reducible exact Junk.app4 _ _ _ _ _ _ _ _ | with_reducible exact Junk.app5 _ _ _ _ _ _ _ _ _ | with_reducible apply Junk.alloc | with_reducible apply Junk.junk | with_reducible apply Junk.drew | with_reducible apply Junk.drewN)))))).mono ?_; rintro e w' ⟨rfl, ⟨oss, ds, rfl⟩⟩; rw [decide_eq_true (rfl : N = N)])
          | (go_at_call 19; refine (natRight_any (a : Int) (b : Int) _ _ _ _ _ (by omega) HcapN.out HlenN.out ((own_ls HownN.out).on (by ((try simp only [World.junk_junk, Array.append_assoc]); (repeat (first | with_reducible exact Junk.refl _ | with_reducible exact Junk.app _ _ _ _ _ | with_reducible exact Junk.app2 _ _ _ _ _ _ | with_reducible exact Junk.app3 _ _ _ _ _ _ _ | with_reducible exact Junk.app4 _ _ _ _ _ _ _ _ | with_reducible exact Junk.app5 _ _ _ _ _ _ _ _ _ | with_reducible apply Junk.alloc | with_reducible apply Junk.junk | with_reducible apply Junk.drew | with_reducible apply Junk.drewN)))))).mono ?_; rintro e w' ⟨rfl, ⟨osr, dr, rfl⟩⟩; rw [HrN.out]))
        exact ⟨⟨k + 1, n, N, obN, capN, rfl, by go_num, by ((try simp only [World.junk_junk, Array.append_assoc]); (repeat (first | with_reducible exact Junk.refl _ | with_reducible exact Junk.app _ _ _ _ _ | with_reducible exact Junk.app2 _ _ _ _ _ _ | with_reducible exact Junk.app3 _ _ _ _ _ _ _ | with_reducible exact Junk.app4 _ _ _ _ _ _ _ _ | with_reducible exact Junk.app5 _ _ _ _ _ _ _ _ _ | with_reducible apply Junk.alloc | with_reducible apply Junk.junk | with_reducible apply Junk.drew | with_reducible apply Junk.drewN))), (HownN.out.on (by ((try simp only [World.junk_junk, Array.append_assoc]); (repeat (first | with_reducible exact Junk.refl _ | with_reducible exact Junk.app _ _ _ _ _ | with_reducible exact Junk.app2 _ _ _ _ _ _ | with_reducible exact Junk.app3 _ _ _ _ _ _ _ | with_reducible exact Junk.app4 _ _ _ _ _ _ _ _ | with_reducible exact Junk.app5 _ _ _ _ _ _ _ _ _ | with_reducible apply Junk.alloc | with_reducible apply Junk.junk | with_reducible apply Junk.drew | with_reducible apply Junk.drewN))))).lower (by simp; omega), by omega, by omega, by omega, HrN⟩, by simp [intOf]; omega⟩
      · obtain rfl : n = m := by rw [← HlenN.out, HS.out]
        have HC := Lib.hid hcnt
        have hspan : ((b + 1 - a : Nat) : Int) = (b : Int) - a + 1 := by omega
        clear hW hcnt
        go_wp2_with (first
          | (go_at_call 26; refine (HW.out _ ((own_ls Hown.out).on (by ((try simp only [World.junk_junk, Array.append_assoc]); (repeat (first | with_reducible exact Junk.refl _ | with_reducible exact Junk.app _ _ _ _ _ | with_reducible exact Junk.app2 _ _ _ _ _ _ | with_reducible exact Junk.app3 _ _ _ _ _ _ _ | with_reducible exact Junk.app4 _ _ _ _ _ _ _ _ | with_reducible exact Junk.app5 _ _ _ _ _ _ _ _ _ | with_reducible apply Junk.alloc | with_reducible apply Junk.junk | with_reducible apply Junk.drew | with_reducible apply Junk.drewN)))))).mono ?_; rintro e w' ⟨rfl, ⟨osw, dw, rfl⟩⟩)
          | (go_at_call 20; refine (HA.out _ ((own_ls Hown.out).on (by ((try simp only [World.junk_junk, Array.append_assoc]); (repeat (first | with_reducible exact Junk.refl _ | with_reducible exact Junk.app _ _ _ _ _ | with_reducible exact Junk.app2 _ _ _ _ _ _ | with_reducible exact Junk.app3 _ _ _ _ _ _ _ | with_reducible exact Junk.app4 _ _ _ _ _ _ _ _ | with_reducible exact Junk.app5 _ _ _ _ _ _ _ _ _ | with_reducible apply Junk.alloc | with_reducible apply Junk.junk | with_reducible apply Junk.drew | with_reducible apply Junk.drewN)))))).mono ?_; rintro e w' ⟨obN, capN, rfl, ⟨osa, da, rfl⟩, hownN, hcapN⟩; have HownN := Lib.hid hownN; have HcapN := Lib.hid hcapN; clear hownN hcapN)
          | (go_at_call 23; refine (rsameL_any _ _ _ _ _ _ N N _ (by omega) (by omega) HS.out HS.out ((own_ls HownN.out).on (by ((try simp only [World.junk_junk, Array.append_assoc]); (repeat (first | with_reducible exact Junk.refl _ | with_reducible exact Junk.app _ _ _ _ _ | with_reducible exact Junk.app2 _ _ _ _ _ _ | with_reducible exact Junk.app3 _ _ _ _ _ _ _ | with_reducible exact Junk.app4 _ _ _ _ _ _ _ _ | with_reducible exact Junk.app5 _ _ _ _ _ _ _ _ _ | with_reducible apply Junk.alloc | with_reducible apply Junk.junk | with_reducible apply Junk.drew | with_reducible apply Junk.drewN))))) ((own_ls Hown.out).on (by ((try simp only [World.junk_junk, Array.append_assoc]); (repeat (first | with_reducible exact Junk.refl _ | with_reducible exact Junk.app _ _ _ _ _ | with_reducible exact Junk.app2 _ _ _ _ _ _ | with_reducible exact Junk.app3 _ _ _ _ _ _ _ | with_reducible exact Junk.app4 _ _ _ _ _ _ _ _ | with_reducible exact Junk.app5 _ _ _ _ _ _ _ _ _ | with_reducible apply Junk.alloc | with_reducible apply Junk.junk | with_reducible apply Junk.drew | with_reducible apply Junk.drewN)))))).mono ?_; rintro e w' ⟨rfl, ⟨oss, ds, rfl⟩⟩; rw [decide_eq_true (rfl : N = N)])
          | (go_at_call 19; refine (natRight_any (a : Int) (b : Int) _ _ _ _ _ (by omega) HcapN.out HlenN.out ((own_ls HownN.out).on (by ((try simp only [World.junk_junk, Array.append_assoc]); (repeat (first | with_reducible exact Junk.refl _ | with_reducible exact Junk.app _ _ _ _ _ | with_reducible exact Junk.app2 _ _ _ _ _ _ | with_reducible exact Junk.app3 _ _ _ _ _ _ _ | with_reducible exact Junk.app4 _ _ _ _ _ _ _ _ | with_reducible exact Junk.app5 _ _ _ _ _ _ _ _ _ | with_reducible apply Junk.alloc | with_reducible apply Junk.junk | with_reducible apply Junk.drew | with_reducible apply Junk.drewN)))))).mono ?_; rintro e w' ⟨rfl, ⟨osr, dr, rfl⟩⟩; rw [HrN.out]))
        go_loopw [19, 20] (fun t i wr => ∃ j q : Nat, t = .int .i64 (q : Int) ∧ i = .int .i64 (j : Int) ∧ (∃ oz dz, wr = ((((w.junk os d).alloc (.cells #[.bool false, .int .i64 ap, .int .u32 ai, .int .i64 an, .int .i64 ao, .int .i64 au, .int .u32 (ad : Int), .int .i64 aw] 56)).junk osw dw).alloc (.cells #[.int .i64 wy.proto, .int .u32 wy.inn, .int .i64 wy.inport, .int .i64 wy.port, .int .i64 wy.till] 39)).junk (osa ++ oz) dz) ∧ j ≤ n ∧ q ≤ j ∧ Hid (q = (takenL (N.take j) ap).length)) (fun _ i _ => n + 1 - (intOf i).toNat)
        case atStart => exact ⟨0, 0, rfl, rfl, ⟨#[], da, by first | rfl | simp⟩, by omega, by omega, Lib.hid (by simp [takenL])⟩
        case round =>
          obtain ⟨j, q, rfl, rfl, ⟨oz, dz, rfl⟩, hj, hqj, hq⟩ := hrel
          by_cases hjn : j < n
          · have hjn' : (j : Int) < (n : Int) := by omega
            obtain ⟨z, hz⟩ : ∃ z, N[j]? = some z := ⟨_, List.getElem?_eq_getElem (by rw [HS.out]; exact hjn)⟩
            obtain ⟨bz, offz, rfl, hbz, z0, z1, z2, z3, z4⟩ := own_ls Hown.out j z hz
            have hbz' : bz < w.heap.size + os.size := by simpa using hbz
            have HZ := Lib.hid hz
            clear hz z1 z2 z3 z4
            cases hp : (z.proto == ap) with
            | true =>
              have HQ2 := Lib.hid (show q + 1 = (takenL (N.take (j + 1)) ap).length by rw [← takenL_yes HZ.out hp, List.length_append, ← hq.out]; rfl)
              go_wp2
              refine wp_region_junk (by kernel_rfl) (by kernel_rfl) ?_; (repeat (refine wpQuiet_step (fun K hK => ?_); (go_simp; try go_bits); first | (refine hK _ ?_; clear hK K) | (apply Exists.intro; refine ⟨fun _ => ?_, hK _ ?_⟩; (first | fail); clear hK K))); refine wpQuiet_nil ?_; rintro _ ⟨⟨osq, dq⟩, rfl⟩
              go_wp2
              exact ⟨⟨j + 1, q + 1, by go_num, by go_num, ⟨oz ++ osq, dq, by first | rfl | simp⟩, by omega, by omega, HQ2⟩, by simp [intOf]; omega⟩
            | false =>
              have HQ2 := Lib.hid (show q = (takenL (N.take (j + 1)) ap).length by rw [← takenL_no HZ.out hp]; exact hq.out)
              go_wp2
              refine wp_region_junk (by kernel_rfl) (by kernel_rfl) ?_; (repeat (refine wpQuiet_step (fun K hK => ?_); (go_simp; try go_bits); first | (refine hK _ ?_; clear hK K) | (apply Exists.intro; refine ⟨fun _ => ?_, hK _ ?_⟩; (first | fail); clear hK K))); refine wpQuiet_nil ?_; rintro _ ⟨⟨osq, dq⟩, rfl⟩
              go_wp2
              exact ⟨⟨j + 1, q, rfl, by go_num, ⟨oz ++ osq, dq, by first | rfl | simp⟩, by omega, by omega, HQ2⟩, by simp [intOf]; omega⟩
          · have hjn' : ¬ (j : Int) < (n : Int) := by omega
            obtain rfl : j = n := by omega
            have hq2 : q = b + 1 - a := by rw [hq.out, ← HC.out, ← HS.out, List.take_length]
            have hq3 : (q : Int) = (b : Int) - a + 1 := by omega
            have hq4 : (((q : Int)) != (b : Int) - (a : Int) + 1) = false := by simpa using hq3
            go_wp2_with (first
              | (go_at_call 26; refine (HW.out _ ((own_ls Hown.out).on (by ((try simp only [World.junk_junk, Array.append_assoc]); (repeat (first | with_reducible exact Junk.refl _ | with_reducible exact Junk.app _ _ _ _ _ | with_reducible exact Junk.app2 _ _ _ _ _ _ | with_reducible exact Junk.app3 _ _ _ _ _ _ _ | with_reducible exact Junk.app4 _ _ _ _ _ _ _ _ | with_reducible exact Junk.app5 _ _ _ _ _ _ _ _ _ | with_reducible apply Junk.alloc | with_reducible apply Junk.junk | with_reducible apply Junk.drew | with_reducible apply Junk.drewN)))))).mono ?_; rintro e w' ⟨rfl, ⟨osw, dw, rfl⟩⟩)
              | (go_at_call 20; refine (HA.out _ ((own_ls Hown.out).on (by ((try simp only [World.junk_junk, Array.append_assoc]); (repeat (first | with_reducible exact Junk.refl _ | with_reducible exact Junk.app _ _ _ _ _ | with_reducible exact Junk.app2 _ _ _ _ _ _ | with_reducible exact Junk.app3 _ _ _ _ _ _ _ | with_reducible exact Junk.app4 _ _ _ _ _ _ _ _ | with_reducible exact Junk.app5 _ _ _ _ _ _ _ _ _ | with_reducible apply Junk.alloc | with_reducible apply Junk.junk | with_reducible apply Junk.drew | with_reducible apply Junk.drewN)))))).mono ?_; rintro e w' ⟨obN, capN, rfl, ⟨osa, da, rfl⟩, hownN, hcapN⟩; have HownN := Lib.hid hownN; have HcapN := Lib.hid hcapN; clear hownN hcapN)
              | (go_at_call 23; refine (rsameL_any _ _ _ _ _ _ N N _ (by omega) (by omega) HS.out HS.out ((own_ls HownN.out).on (by ((try simp only [World.junk_junk, Array.append_assoc]); (repeat (first | with_reducible exact Junk.refl _ | with_reducible exact Junk.app _ _ _ _ _ | with_reducible exact Junk.app2 _ _ _ _ _ _ | with_reducible exact Junk.app3 _ _ _ _ _ _ _ | with_reducible exact Junk.app4 _ _ _ _ _ _ _ _ | with_reducible exact Junk.app5 _ _ _ _ _ _ _ _ _ | with_reducible apply Junk.alloc | with_reducible apply Junk.junk | with_reducible apply Junk.drew | with_reducible apply Junk.drewN))))) ((own_ls Hown.out).on (by ((try simp only [World.junk_junk, Array.append_assoc]); (repeat (first | with_reducible exact Junk.refl _ | with_reducible exact Junk.app _ _ _ _ _ | with_reducible exact Junk.app2 _ _ _ _ _ _ | with_reducible exact Junk.app3 _ _ _ _ _ _ _ | with_reducible exact Junk.app4 _ _ _ _ _ _ _ _ | with_reducible exact Junk.app5 _ _ _ _ _ _ _ _ _ | with_reducible apply Junk.alloc | with_reducible apply Junk.junk | with_reducible apply Junk.drew | with_reducible apply Junk.drewN)))))).mono ?_; rintro e w' ⟨rfl, ⟨oss, ds, rfl⟩⟩; rw [decide_eq_true (rfl : N = N)])
              | (go_at_call 19; refine (natRight_any (a : Int) (b : Int) _ _ _ _ _ (by omega) HcapN.out HlenN.out ((own_ls HownN.out).on (by ((try simp only [World.junk_junk, Array.append_assoc]); (repeat (first | with_reducible exact Junk.refl _ | with_reducible exact Junk.app _ _ _ _ _ | with_reducible exact Junk.app2 _ _ _ _ _ _ | with_reducible exact Junk.app3 _ _ _ _ _ _ _ | with_reducible exact Junk.app4 _ _ _ _ _ _ _ _ | with_reducible exact Junk.app5 _ _ _ _ _ _ _ _ _ | with_reducible apply Junk.alloc | with_reducible apply Junk.junk | with_reducible apply Junk.drew | with_reducible apply Junk.drewN)))))).mono ?_; rintro e w' ⟨rfl, ⟨osr, dr, rfl⟩⟩; rw [HrN.out]))
            exact ⟨⟨k + 1, j, N, obN, capN, rfl, by go_num, by ((try simp only [World.junk_junk, Array.append_assoc]); (repeat (first | with_reducible exact Junk.refl _ | with_reducible exact Junk.app _ _ _ _ _ | with_reducible exact Junk.app2 _ _ _ _ _ _ | with_reducible exact Junk.app3 _ _ _ _ _ _ _ | with_reducible exact Junk.app4 _ _ _ _ _ _ _ _ | with_reducible exact Junk.app5 _ _ _ _ _ _ _ _ _ | with_reducible apply Junk.alloc | with_reducible apply Junk.junk | with_reducible apply Junk.drew | with_reducible apply Junk.drewN))), (HownN.out.on (by ((try simp only [World.junk_junk, Array.append_assoc]); (repeat (first | with_reducible exact Junk.refl _ | with_reducible exact Junk.app _ _ _ _ _ | with_reducible exact Junk.app2 _ _ _ _ _ _ | with_reducible exact Junk.app3 _ _ _ _ _ _ _ | with_reducible exact Junk.app4 _ _ _ _ _ _ _ _ | with_reducible exact Junk.app5 _ _ _ _ _ _ _ _ _ | with_reducible apply Junk.alloc | with_reducible apply Junk.junk | with_reducible apply Junk.drew | with_reducible apply Junk.drewN))))).lower (by simp; omega), by omega, by omega, by omega, HrN⟩, by simp [intOf]; omega⟩
      · have HWH := Lib.hid (show ∀ w1 o c, LsAt w1 o N → Calls Try.prog 24 #[.slice o n c, .int .i64 ap, .int .i64 p] w1 fun e w' => e = .returned (.tuple #[.agg #[.int .i64 y.proto, .int .u32 y.inn, .int .i64 y.inport, .int .i64 y.port, .int .i64 y.till], .bool true]) ∧ Junk w1 w' from fun w1 o c h => by have := who_any ap p o n c N w1 (by omega) HlenN.out h; rw [hy] at this; exact this)
        clear hy
        have q1 : (y.inn != ai) = false := by simpa using hy1
        have q2 : (y.inport != an) = false := by simpa using hy2
        have q3 : ¬ y.till < au := by omega
        have q4 : ¬ p < (a : Int) := by omega
        have q5 : ¬ (b : Int) < p := by omega
        clear hW hy1 hy2
        obtain ⟨yp, yi, yn, yo, yt⟩ := y
        dsimp only at q1 q2 q3 hy3 hhad HWH
        cases had with
        | false =>
          clear hhad
          go_wp2_with (first
            | (go_at_call 26; refine (HW.out _ ((own_ls Hown.out).on (by ((try simp only [World.junk_junk, Array.append_assoc]); (repeat (first | with_reducible exact Junk.refl _ | with_reducible exact Junk.app _ _ _ _ _ | with_reducible exact Junk.app2 _ _ _ _ _ _ | with_reducible exact Junk.app3 _ _ _ _ _ _ _ | with_reducible exact Junk.app4 _ _ _ _ _ _ _ _ | with_reducible exact Junk.app5 _ _ _ _ _ _ _ _ _ | with_reducible apply Junk.alloc | with_reducible apply Junk.junk | with_reducible apply Junk.drew | with_reducible apply Junk.drewN)))))).mono ?_; rintro e w' ⟨rfl, ⟨osw, dw, rfl⟩⟩)
            | (go_at_call 20; refine (HA.out _ ((own_ls Hown.out).on (by ((try simp only [World.junk_junk, Array.append_assoc]); (repeat (first | with_reducible exact Junk.refl _ | with_reducible exact Junk.app _ _ _ _ _ | with_reducible exact Junk.app2 _ _ _ _ _ _ | with_reducible exact Junk.app3 _ _ _ _ _ _ _ | with_reducible exact Junk.app4 _ _ _ _ _ _ _ _ | with_reducible exact Junk.app5 _ _ _ _ _ _ _ _ _ | with_reducible apply Junk.alloc | with_reducible apply Junk.junk | with_reducible apply Junk.drew | with_reducible apply Junk.drewN)))))).mono ?_; rintro e w' ⟨obN, capN, rfl, ⟨osa, da, rfl⟩, hownN, hcapN⟩; have HownN := Lib.hid hownN; have HcapN := Lib.hid hcapN; clear hownN hcapN)
            | (go_at_call 24; refine (HWH.out _ _ _ ((own_ls HownN.out).on (by ((try simp only [World.junk_junk, Array.append_assoc]); (repeat (first | with_reducible exact Junk.refl _ | with_reducible exact Junk.app _ _ _ _ _ | with_reducible exact Junk.app2 _ _ _ _ _ _ | with_reducible exact Junk.app3 _ _ _ _ _ _ _ | with_reducible exact Junk.app4 _ _ _ _ _ _ _ _ | with_reducible exact Junk.app5 _ _ _ _ _ _ _ _ _ | with_reducible apply Junk.alloc | with_reducible apply Junk.junk | with_reducible apply Junk.drew | with_reducible apply Junk.drewN)))))).mono ?_; rintro e w' ⟨rfl, ⟨osh, dh, rfl⟩⟩)
            | (go_at_call 19; refine (natRight_any (a : Int) (b : Int) _ _ _ _ _ (by omega) HcapN.out HlenN.out ((own_ls HownN.out).on (by ((try simp only [World.junk_junk, Array.append_assoc]); (repeat (first | with_reducible exact Junk.refl _ | with_reducible exact Junk.app _ _ _ _ _ | with_reducible exact Junk.app2 _ _ _ _ _ _ | with_reducible exact Junk.app3 _ _ _ _ _ _ _ | with_reducible exact Junk.app4 _ _ _ _ _ _ _ _ | with_reducible exact Junk.app5 _ _ _ _ _ _ _ _ _ | with_reducible apply Junk.alloc | with_reducible apply Junk.junk | with_reducible apply Junk.drew | with_reducible apply Junk.drewN)))))).mono ?_; rintro e w' ⟨rfl, ⟨osr, dr, rfl⟩⟩; rw [HrN.out]))
          exact ⟨⟨k + 1, n, N, obN, capN, rfl, by go_num, by ((try simp only [World.junk_junk, Array.append_assoc]); (repeat (first | with_reducible exact Junk.refl _ | with_reducible exact Junk.app _ _ _ _ _ | with_reducible exact Junk.app2 _ _ _ _ _ _ | with_reducible exact Junk.app3 _ _ _ _ _ _ _ | with_reducible exact Junk.app4 _ _ _ _ _ _ _ _ | with_reducible exact Junk.app5 _ _ _ _ _ _ _ _ _ | with_reducible apply Junk.alloc | with_reducible apply Junk.junk | with_reducible apply Junk.drew | with_reducible apply Junk.drewN))), (HownN.out.on (by ((try simp only [World.junk_junk, Array.append_assoc]); (repeat (first | with_reducible exact Junk.refl _ | with_reducible exact Junk.app _ _ _ _ _ | with_reducible exact Junk.app2 _ _ _ _ _ _ | with_reducible exact Junk.app3 _ _ _ _ _ _ _ | with_reducible exact Junk.app4 _ _ _ _ _ _ _ _ | with_reducible exact Junk.app5 _ _ _ _ _ _ _ _ _ | with_reducible apply Junk.alloc | with_reducible apply Junk.junk | with_reducible apply Junk.drew | with_reducible apply Junk.drewN))))).lower (by simp; omega), by omega, by omega, by omega, HrN⟩, by simp [intOf]; omega⟩
        | true =>
          have hh2 : (p != wy.port) = false ∧ ¬ yt < wy.till := by
            rcases hhad with h | ⟨h3, h4⟩
            · cases h
            · exact ⟨by simpa using h3, by omega⟩
          obtain ⟨q6, q7⟩ := hh2
          clear hhad
          go_wp2_with (first
            | (go_at_call 26; refine (HW.out _ ((own_ls Hown.out).on (by ((try simp only [World.junk_junk, Array.append_assoc]); (repeat (first | with_reducible exact Junk.refl _ | with_reducible exact Junk.app _ _ _ _ _ | with_reducible exact Junk.app2 _ _ _ _ _ _ | with_reducible exact Junk.app3 _ _ _ _ _ _ _ | with_reducible exact Junk.app4 _ _ _ _ _ _ _ _ | with_reducible exact Junk.app5 _ _ _ _ _ _ _ _ _ | with_reducible apply Junk.alloc | with_reducible apply Junk.junk | with_reducible apply Junk.drew | with_reducible apply Junk.drewN)))))).mono ?_; rintro e w' ⟨rfl, ⟨osw, dw, rfl⟩⟩)
            | (go_at_call 20; refine (HA.out _ ((own_ls Hown.out).on (by ((try simp only [World.junk_junk, Array.append_assoc]); (repeat (first | with_reducible exact Junk.refl _ | with_reducible exact Junk.app _ _ _ _ _ | with_reducible exact Junk.app2 _ _ _ _ _ _ | with_reducible exact Junk.app3 _ _ _ _ _ _ _ | with_reducible exact Junk.app4 _ _ _ _ _ _ _ _ | with_reducible exact Junk.app5 _ _ _ _ _ _ _ _ _ | with_reducible apply Junk.alloc | with_reducible apply Junk.junk | with_reducible apply Junk.drew | with_reducible apply Junk.drewN)))))).mono ?_; rintro e w' ⟨obN, capN, rfl, ⟨osa, da, rfl⟩, hownN, hcapN⟩; have HownN := Lib.hid hownN; have HcapN := Lib.hid hcapN; clear hownN hcapN)
            | (go_at_call 24; refine (HWH.out _ _ _ ((own_ls HownN.out).on (by ((try simp only [World.junk_junk, Array.append_assoc]); (repeat (first | with_reducible exact Junk.refl _ | with_reducible exact Junk.app _ _ _ _ _ | with_reducible exact Junk.app2 _ _ _ _ _ _ | with_reducible exact Junk.app3 _ _ _ _ _ _ _ | with_reducible exact Junk.app4 _ _ _ _ _ _ _ _ | with_reducible exact Junk.app5 _ _ _ _ _ _ _ _ _ | with_reducible apply Junk.alloc | with_reducible apply Junk.junk | with_reducible apply Junk.drew | with_reducible apply Junk.drewN)))))).mono ?_; rintro e w' ⟨rfl, ⟨osh, dh, rfl⟩⟩)
            | (go_at_call 19; refine (natRight_any (a : Int) (b : Int) _ _ _ _ _ (by omega) HcapN.out HlenN.out ((own_ls HownN.out).on (by ((try simp only [World.junk_junk, Array.append_assoc]); (repeat (first | with_reducible exact Junk.refl _ | with_reducible exact Junk.app _ _ _ _ _ | with_reducible exact Junk.app2 _ _ _ _ _ _ | with_reducible exact Junk.app3 _ _ _ _ _ _ _ | with_reducible exact Junk.app4 _ _ _ _ _ _ _ _ | with_reducible exact Junk.app5 _ _ _ _ _ _ _ _ _ | with_reducible apply Junk.alloc | with_reducible apply Junk.junk | with_reducible apply Junk.drew | with_reducible apply Junk.drewN)))))).mono ?_; rintro e w' ⟨rfl, ⟨osr, dr, rfl⟩⟩; rw [HrN.out]))
          exact ⟨⟨k + 1, n, N, obN, capN, rfl, by go_num, by ((try simp only [World.junk_junk, Array.append_assoc]); (repeat (first | with_reducible exact Junk.refl _ | with_reducible exact Junk.app _ _ _ _ _ | with_reducible exact Junk.app2 _ _ _ _ _ _ | with_reducible exact Junk.app3 _ _ _ _ _ _ _ | with_reducible exact Junk.app4 _ _ _ _ _ _ _ _ | with_reducible exact Junk.app5 _ _ _ _ _ _ _ _ _ | with_reducible apply Junk.alloc | with_reducible apply Junk.junk | with_reducible apply Junk.drew | with_reducible apply Junk.drewN))), (HownN.out.on (by ((try simp only [World.junk_junk, Array.append_assoc]); (repeat (first | with_reducible exact Junk.refl _ | with_reducible exact Junk.app _ _ _ _ _ | with_reducible exact Junk.app2 _ _ _ _ _ _ | with_reducible exact Junk.app3 _ _ _ _ _ _ _ | with_reducible exact Junk.app4 _ _ _ _ _ _ _ _ | with_reducible exact Junk.app5 _ _ _ _ _ _ _ _ _ | with_reducible apply Junk.alloc | with_reducible apply Junk.junk | with_reducible apply Junk.drew | with_reducible apply Junk.drewN))))).lower (by simp; omega), by omega, by omega, by omega, HrN⟩, by simp [intOf]; omega⟩
end Go.Proofs.Ytambpmbgfjefcaa
