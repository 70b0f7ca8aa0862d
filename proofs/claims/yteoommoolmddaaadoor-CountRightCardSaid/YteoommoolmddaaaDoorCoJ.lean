/- count.Join of two right counts that have room together. -/
import Derived.Test.YteoommoolmddaaaDoorCoH
import Derived.Test.YteoommoolmddaaaDoorCoQ
set_option linter.unusedVariables false
set_option maxRecDepth 100000
set_option linter.unusedSimpArgs false
namespace Go.Proofs.YteoommoolmddaaaDoor
open Go.RowKit
theorem plus_len : ∀ {L M : List Tl} {t : Tl}, tlPlus L t = some M → M.length ≤ L.length + 1
  | [], M, t, h => by rw [tlPlus] at h; cases h; simp
  | x :: L, M, t, h => by
    rw [tlPlus] at h
    split at h
    · cases hp : tlPlus L t with
      | none => rw [hp] at h; cases h
      | some N =>
        rw [hp] at h
        cases h
        have := plus_len hp
        simp only [List.length_cons]
        omega
    · split at h
      · cases h; simp
      · split at h
        · cases h
        · cases h; simp
/-- One tally more of those that all have room. -/
theorem fold_step {A B X M : List Tl} {k : Nat} {x : Tl} (h : tlFold A (B.take k) = some X) (hx : B[k]? = some x) (hM : tlFold A B = some M) : ∃ N, tlPlus X x = some N ∧ tlFold A (B.take (k + 1)) = some N := by
  have hd : B.drop k = x :: B.drop (k + 1) := by
    obtain ⟨hk, rfl⟩ := List.getElem?_eq_some_iff.1 hx
    exact List.drop_eq_getElem_cons hk
  have h1 : tlFold X (x :: B.drop (k + 1)) = some M := by
    rw [← fold_app h, ← hd, List.take_append_drop]
    exact hM
  rw [tlFold] at h1
  cases hp : tlPlus X x with
  | none => rw [hp] at h1; cases h1
  | some N =>
    refine ⟨N, rfl, ?_⟩
    rw [take_one hx, fold_app h, tlFold, hp]
    rfl
set_option maxHeartbeats 2000000 in
theorem join_ok (oa : Option Addr) (l c : Nat) (A : List Tl) (ob : Option Addr) (m d : Nat) (B M : List Tl) (w : World) (hl : l ≤ 1000) (hm : m ≤ 1000) (hS : TsB w oa l c A) (hT : TsB w ob m d B) (hA : TlR A) (hB : TlR B) (hM : tlFold A B = some M) :
    Calls Tryd.prog 12 #[.slice oa l c, .slice ob m d] w fun e w' => ∃ oq cq, e = .returned (.tuple #[.slice oq M.length cq, .int .i64 0]) ∧ Junk w w' ∧ TsB w' oq M.length cq M := by
  have HS := Lib.hid hS
  have HT := Lib.hid hT
  have HLB := Lib.hid hT.len
  have HA := Lib.hid hA
  have HB := Lib.hid hB
  have HM := Lib.hid hM
  have HR1 := Lib.hid (fun w1 (h : TsB w1 oa l c A) => show Calls Tryd.prog 13 #[.slice oa l c] w1 fun e w' => e = .returned (.bool true) ∧ Junk w1 w' from by have := cright_any oa l c A w1 (by omega) h; rw [right_tlr.2 hA] at this; exact this)
  have HR2 := Lib.hid (fun w1 (h : TsB w1 ob m d B) => show Calls Tryd.prog 13 #[.slice ob m d] w1 fun e w' => e = .returned (.bool true) ∧ Junk w1 w' from by have := cright_any ob m d B w1 (by omega) h; rw [right_tlr.2 hB] at this; exact this)
  have HCL := Lib.hid (fun w1 (h : TsB w1 oa l c A) => cloneT_any oa l c A w1 (by omega) h)
  have HPL := Lib.hid (fun (oq : Option Addr) (q cq : Nat) (X : List Tl) (t : Tl) (N : List Tl) (w1 : World) (hq : q ≤ 1000000) (h : TsB w1 oq q cq X) (hX : TlR X) (ht : tlOk t = true) (hN : tlPlus X t = some N) => show Calls Tryd.prog 22 #[.slice oq q cq, t.val] w1 fun e w' => Junk w1 w' ∧ ∃ oz cz, e = .returned (.tuple #[.slice oz N.length cz, .bool true]) ∧ Own w1.heap.size w' 28 4 oz cz N.length (tlsL N) from by have := plus_any oq q cq X t w1 hq h hX ht; rw [hN] at this; exact this)
  clear hS hT hA hB hM
  go_enter Tryd.func12, Tryd.ntmps12
  go_wp2_with (first | (go_at_call 13; (with_reducible refine (HR1.out _ (HS.out.on (by (first | ((repeat (first | with_reducible exact Junk.refl _ | with_reducible exact Junk.app _ _ _ _ _ | with_reducible apply Junk.alloc | with_reducible apply Junk.junk | with_reducible apply Junk.drew | with_reducible apply Junk.drewN)); done) | ((try simp only [World.junk_junk, Array.append_assoc]); (repeat (first | with_reducible exact Junk.refl _ | with_reducible exact Junk.app _ _ _ _ _ | with_reducible exact Junk.app2 _ _ _ _ _ _ | with_reducible exact Junk.app3 _ _ _ _ _ _ _ | with_reducible exact Junk.app4 _ _ _ _ _ _ _ _ | with_reducible exact Junk.app5 _ _ _ _ _ _ _ _ _ | with_reducible apply Junk.alloc | with_reducible apply Junk.junk | with_reducible apply Junk.drew | with_reducible apply Junk.drewN))))))).mono ?_); rintro e w' ⟨rfl, ⟨osR, dR, rfl⟩⟩) | (go_at_call 13; (with_reducible refine (HR2.out _ (HT.out.on (by (first | ((repeat (first | with_reducible exact Junk.refl _ | with_reducible exact Junk.app _ _ _ _ _ | with_reducible apply Junk.alloc | with_reducible apply Junk.junk | with_reducible apply Junk.drew | with_reducible apply Junk.drewN)); done) | ((try simp only [World.junk_junk, Array.append_assoc]); (repeat (first | with_reducible exact Junk.refl _ | with_reducible exact Junk.app _ _ _ _ _ | with_reducible exact Junk.app2 _ _ _ _ _ _ | with_reducible exact Junk.app3 _ _ _ _ _ _ _ | with_reducible exact Junk.app4 _ _ _ _ _ _ _ _ | with_reducible exact Junk.app5 _ _ _ _ _ _ _ _ _ | with_reducible apply Junk.alloc | with_reducible apply Junk.junk | with_reducible apply Junk.drew | with_reducible apply Junk.drewN))))))).mono ?_); rintro e w' ⟨rfl, ⟨osR2, dR2, rfl⟩⟩) | (go_at_call 21; (with_reducible refine (HCL.out _ (HS.out.on (by (first | ((repeat (first | with_reducible exact Junk.refl _ | with_reducible exact Junk.app _ _ _ _ _ | with_reducible apply Junk.alloc | with_reducible apply Junk.junk | with_reducible apply Junk.drew | with_reducible apply Junk.drewN)); done) | ((try simp only [World.junk_junk, Array.append_assoc]); (repeat (first | with_reducible exact Junk.refl _ | with_reducible exact Junk.app _ _ _ _ _ | with_reducible exact Junk.app2 _ _ _ _ _ _ | with_reducible exact Junk.app3 _ _ _ _ _ _ _ | with_reducible exact Junk.app4 _ _ _ _ _ _ _ _ | with_reducible exact Junk.app5 _ _ _ _ _ _ _ _ _ | with_reducible apply Junk.alloc | with_reducible apply Junk.junk | with_reducible apply Junk.drew | with_reducible apply Junk.drewN))))))).mono ?_); rintro e w' ⟨oq, cq, rfl, ⟨osC, dC, rfl⟩, hown⟩; have HOWN := Lib.hid hown; clear hown))
  go_loopw [6, 22] (fun s i wr => ∃ (k q cq : Nat) (oq : Option Addr) (X : List Tl), i = .int .i64 (k : Int) ∧ s = .slice oq q cq ∧ Junk w wr ∧ k ≤ m ∧ q ≤ l + k ∧ Hid (TsB wr oq q cq X ∧ TlR X ∧ tlFold A (B.take k) = some X)) (fun _ i _ => m + 1 - (intOf i).toNat)
  case atStart => exact ⟨0, l, cq, oq, A, rfl, rfl, by (first | ((repeat (first | with_reducible exact Junk.refl _ | with_reducible exact Junk.app _ _ _ _ _ | with_reducible apply Junk.alloc | with_reducible apply Junk.junk | with_reducible apply Junk.drew | with_reducible apply Junk.drewN)); done) | ((try simp only [World.junk_junk, Array.append_assoc]); (repeat (first | with_reducible exact Junk.refl _ | with_reducible exact Junk.app _ _ _ _ _ | with_reducible exact Junk.app2 _ _ _ _ _ _ | with_reducible exact Junk.app3 _ _ _ _ _ _ _ | with_reducible exact Junk.app4 _ _ _ _ _ _ _ _ | with_reducible exact Junk.app5 _ _ _ _ _ _ _ _ _ | with_reducible apply Junk.alloc | with_reducible apply Junk.junk | with_reducible apply Junk.drew | with_reducible apply Junk.drewN)))), by omega, by omega, Lib.hid ⟨(own_tsb HOWN.out).on (by (first | ((repeat (first | with_reducible exact Junk.refl _ | with_reducible exact Junk.app _ _ _ _ _ | with_reducible apply Junk.alloc | with_reducible apply Junk.junk | with_reducible apply Junk.drew | with_reducible apply Junk.drewN)); done) | ((try simp only [World.junk_junk, Array.append_assoc]); (repeat (first | with_reducible exact Junk.refl _ | with_reducible exact Junk.app _ _ _ _ _ | with_reducible exact Junk.app2 _ _ _ _ _ _ | with_reducible exact Junk.app3 _ _ _ _ _ _ _ | with_reducible exact Junk.app4 _ _ _ _ _ _ _ _ | with_reducible exact Junk.app5 _ _ _ _ _ _ _ _ _ | with_reducible apply Junk.alloc | with_reducible apply Junk.junk | with_reducible apply Junk.drew | with_reducible apply Junk.drewN))))), HA.out, by rw [List.take_zero, tlFold]⟩⟩
  case round =>
    clear HOWN
    obtain ⟨k, q, cq, oq, X, rfl, rfl, ⟨os, dd, rfl⟩, hk, hq, hI⟩ := hrel
    by_cases hkl : k < m
    · have hk2 : (k : Int) < (m : Int) := by omega
      have pw := wrapk_i64 ((k : Int) + 1) (by omega) (by omega)
      obtain ⟨x, hx⟩ : ∃ x, B[k]? = some x := ⟨_, List.getElem?_eq_getElem (by rw [HLB.out]; exact hkl)⟩
      obtain ⟨N, hN1, hN2⟩ := fold_step hI.out.2.2 hx HM.out
      have hq2 : q ≤ 1000000 := by omega
      have hNl : N.length ≤ l + (k + 1) := by have := plus_len hN1; have := hI.out.1.len; omega
      have hxo := HB.out.ok x (List.mem_of_getElem? hx)
      have HNR := Lib.hid (plus_right hI.out.2.1 hxo hN1)
      have HXO := Lib.hid hxo
      have HP := Lib.hid (And.intro hN1 hN2)
      obtain ⟨bb, off, hob, hb, c0, c1, c2, c3⟩ := HT.out.at_ k x hx
      subst hob
      clear hx hxo hN1 hN2
      go_wp2_with (first | (go_at_call 22; (with_reducible refine (HPL.out oq q cq X x N _ hq2 (hI.out.1.on ?_) hI.out.2.1 HXO.out HP.out.1).mono ?_); (· (first | ((repeat (first | with_reducible exact Junk.refl _ | with_reducible exact Junk.app _ _ _ _ _ | with_reducible apply Junk.alloc | with_reducible apply Junk.junk | with_reducible apply Junk.drew | with_reducible apply Junk.drewN)); done) | ((try simp only [World.junk_junk, Array.append_assoc]); (repeat (first | with_reducible exact Junk.refl _ | with_reducible exact Junk.app _ _ _ _ _ | with_reducible exact Junk.app2 _ _ _ _ _ _ | with_reducible exact Junk.app3 _ _ _ _ _ _ _ | with_reducible exact Junk.app4 _ _ _ _ _ _ _ _ | with_reducible exact Junk.app5 _ _ _ _ _ _ _ _ _ | with_reducible apply Junk.alloc | with_reducible apply Junk.junk | with_reducible apply Junk.drew | with_reducible apply Junk.drewN))))); rintro e w' ⟨⟨osP, dP, rfl⟩, oz, cz, rfl, hown⟩; have HOWN := Lib.hid hown; clear hown))
      exact ⟨⟨k + 1, N.length, cz, oz, N, by go_num, rfl, by (first | ((repeat (first | with_reducible exact Junk.refl _ | with_reducible exact Junk.app _ _ _ _ _ | with_reducible apply Junk.alloc | with_reducible apply Junk.junk | with_reducible apply Junk.drew | with_reducible apply Junk.drewN)); done) | ((try simp only [World.junk_junk, Array.append_assoc]); (repeat (first | with_reducible exact Junk.refl _ | with_reducible exact Junk.app _ _ _ _ _ | with_reducible exact Junk.app2 _ _ _ _ _ _ | with_reducible exact Junk.app3 _ _ _ _ _ _ _ | with_reducible exact Junk.app4 _ _ _ _ _ _ _ _ | with_reducible exact Junk.app5 _ _ _ _ _ _ _ _ _ | with_reducible apply Junk.alloc | with_reducible apply Junk.junk | with_reducible apply Junk.drew | with_reducible apply Junk.drewN)))), by omega, hNl, Lib.hid ⟨(own_tsb HOWN.out).on (by (first | ((repeat (first | with_reducible exact Junk.refl _ | with_reducible exact Junk.app _ _ _ _ _ | with_reducible apply Junk.alloc | with_reducible apply Junk.junk | with_reducible apply Junk.drew | with_reducible apply Junk.drewN)); done) | ((try simp only [World.junk_junk, Array.append_assoc]); (repeat (first | with_reducible exact Junk.refl _ | with_reducible exact Junk.app _ _ _ _ _ | with_reducible exact Junk.app2 _ _ _ _ _ _ | with_reducible exact Junk.app3 _ _ _ _ _ _ _ | with_reducible exact Junk.app4 _ _ _ _ _ _ _ _ | with_reducible exact Junk.app5 _ _ _ _ _ _ _ _ _ | with_reducible apply Junk.alloc | with_reducible apply Junk.junk | with_reducible apply Junk.drew | with_reducible apply Junk.drewN))))), HNR.out, HP.out.2⟩⟩, by simp [intOf]; omega⟩
    · have hk2 : ¬ (k : Int) < (m : Int) := by omega
      obtain rfl : k = m := by omega
      have h2 := hI.out.2.2
      rw [List.take_of_length_le (by rw [HLB.out]; exact Nat.le_refl _), HM.out] at h2
      cases h2
      have h3 := hI.out.1.len
      subst h3
      go_wp2
      go_returns
      exact ⟨oq, cq, rfl, by (first | ((repeat (first | with_reducible exact Junk.refl _ | with_reducible exact Junk.app _ _ _ _ _ | with_reducible apply Junk.alloc | with_reducible apply Junk.junk | with_reducible apply Junk.drew | with_reducible apply Junk.drewN)); done) | ((try simp only [World.junk_junk, Array.append_assoc]); (repeat (first | with_reducible exact Junk.refl _ | with_reducible exact Junk.app _ _ _ _ _ | with_reducible exact Junk.app2 _ _ _ _ _ _ | with_reducible exact Junk.app3 _ _ _ _ _ _ _ | with_reducible exact Junk.app4 _ _ _ _ _ _ _ _ | with_reducible exact Junk.app5 _ _ _ _ _ _ _ _ _ | with_reducible apply Junk.alloc | with_reducible apply Junk.junk | with_reducible apply Junk.drew | with_reducible apply Junk.drewN)))), hI.out.1.on (by (first | ((repeat (first | with_reducible exact Junk.refl _ | with_reducible exact Junk.app _ _ _ _ _ | with_reducible apply Junk.alloc | with_reducible apply Junk.junk | with_reducible apply Junk.drew | with_reducible apply Junk.drewN)); done) | ((try simp only [World.junk_junk, Array.append_assoc]); (repeat (first | with_reducible exact Junk.refl _ | with_reducible exact Junk.app _ _ _ _ _ | with_reducible exact Junk.app2 _ _ _ _ _ _ | with_reducible exact Junk.app3 _ _ _ _ _ _ _ | with_reducible exact Junk.app4 _ _ _ _ _ _ _ _ | with_reducible exact Junk.app5 _ _ _ _ _ _ _ _ _ | with_reducible apply Junk.alloc | with_reducible apply Junk.junk | with_reducible apply Junk.drew | with_reducible apply Junk.drewN)))))⟩
end Go.Proofs.YteoommoolmddaaaDoor
