/- tcp.Size; the fixed answers of layer 4. -/
import Derived.Test.YtjmofjcloebgmaaTcpJ
import Derived.Test.YtjmofjcloebgmaaTcpH
import Derived.Test.YtjmofjcloebgmaaTcpD
import Derived.LoopN
set_option linter.unusedVariables false
set_option maxRecDepth 100000
set_option linter.unusedSimpArgs false
namespace Go.Proofs.Ytjmofjcloebgmaa
open Go.RowKit
def sizeI (t : Tc) : Int := (t.bl : Int) + (if bits .and .i64 t.flags 2 = 0 then 0 else 1) + (if bits .and .i64 t.flags 1 = 0 then 0 else 1)
set_option maxHeartbeats 1000000 in
theorem tsize_any (t : Tc) (N : Nat) (oo ob : Option Addr) (co cb : Nat) (w : World) (hb : t.bl ≤ 100000000) :
    Calls Try.prog 26 #[.agg #[.int .i64 t.sport, .int .i64 t.dport, .int .u32 t.seq, .int .u32 t.ack, .int .i64 t.flags, .int .i64 t.win, .int .i64 t.urg, .slice oo N co, .slice ob t.bl cb]] w fun e w' => e = .returned (.int .i64 (sizeI t)) ∧ Junk w w' := by
  obtain ⟨A, hA⟩ : ∃ A, bits .and .i64 t.flags 2 = A := ⟨_, rfl⟩
  obtain ⟨B, hB⟩ : ∃ B, bits .and .i64 t.flags 1 = B := ⟨_, rfl⟩
  obtain ⟨Z, hZ⟩ : ∃ Z, sizeI t = Z := ⟨_, rfl⟩
  have HZ := Lib.hid (show Z = (t.bl : Int) + (if A = 0 then 0 else 1) + (if B = 0 then 0 else 1) by rw [← hZ, ← hA, ← hB]; rfl)
  rw [hZ]
  clear hZ
  cases h1 : (A == 0) with
  | true =>
    have h1' : (A != 0) = false := by rw [bne, h1]; rfl
    cases h2 : (B == 0) with
    | true =>
      have h2' : (B != 0) = false := by rw [bne, h2]; rfl
      have HE := Lib.hid (show Z = t.bl by rw [HZ.out, if_pos (by simpa using h1), if_pos (by simpa using h2)]; omega)
      go_enter Try.func26, Try.ntmps26
      go_wp2
      refine wp_loop_rounds 3 ?_
      rw [rounds_succ]
      go_wp2
      rw [rounds_succ]
      go_wp2
      rw [rounds_succ]
      go_wp2
      go_ret
      exact ⟨by rw [HE.out] <;> rfl, by ((try simp only [World.junk_junk, Array.append_assoc]); (repeat (first | with_reducible exact Junk.refl _ | with_reducible exact Junk.app _ _ _ _ _ | with_reducible exact Junk.app2 _ _ _ _ _ _ | with_reducible exact Junk.app3 _ _ _ _ _ _ _ | with_reducible exact Junk.app4 _ _ _ _ _ _ _ _ | with_reducible exact Junk.app5 _ _ _ _ _ _ _ _ _ | with_reducible apply Junk.alloc | with_reducible apply Junk.junk | with_reducible apply Junk.drew | with_reducible apply Junk.drewN)))⟩
    | false =>
      have h2' : (B != 0) = true := by rw [bne, h2]; rfl
      have HE := Lib.hid (show Z = (t.bl : Int) + 1 by rw [HZ.out, if_pos (by simpa using h1), if_neg (by simpa using h2)]; omega)
      go_enter Try.func26, Try.ntmps26
      go_wp2
      refine wp_loop_rounds 3 ?_
      rw [rounds_succ]
      go_wp2
      rw [rounds_succ]
      go_wp2
      rw [rounds_succ]
      go_wp2
      go_ret
      exact ⟨by rw [HE.out] <;> rfl, by ((try simp only [World.junk_junk, Array.append_assoc]); (repeat (first | with_reducible exact Junk.refl _ | with_reducible exact Junk.app _ _ _ _ _ | with_reducible exact Junk.app2 _ _ _ _ _ _ | with_reducible exact Junk.app3 _ _ _ _ _ _ _ | with_reducible exact Junk.app4 _ _ _ _ _ _ _ _ | with_reducible exact Junk.app5 _ _ _ _ _ _ _ _ _ | with_reducible apply Junk.alloc | with_reducible apply Junk.junk | with_reducible apply Junk.drew | with_reducible apply Junk.drewN)))⟩
  | false =>
    have h1' : (A != 0) = true := by rw [bne, h1]; rfl
    cases h2 : (B == 0) with
    | true =>
      have h2' : (B != 0) = false := by rw [bne, h2]; rfl
      have HE := Lib.hid (show Z = (t.bl : Int) + 1 by rw [HZ.out, if_neg (by simpa using h1), if_pos (by simpa using h2)]; omega)
      go_enter Try.func26, Try.ntmps26
      go_wp2
      refine wp_loop_rounds 3 ?_
      rw [rounds_succ]
      go_wp2
      rw [rounds_succ]
      go_wp2
      rw [rounds_succ]
      go_wp2
      go_ret
      exact ⟨by rw [HE.out] <;> rfl, by ((try simp only [World.junk_junk, Array.append_assoc]); (repeat (first | with_reducible exact Junk.refl _ | with_reducible exact Junk.app _ _ _ _ _ | with_reducible exact Junk.app2 _ _ _ _ _ _ | with_reducible exact Junk.app3 _ _ _ _ _ _ _ | with_reducible exact Junk.app4 _ _ _ _ _ _ _ _ | with_reducible exact Junk.app5 _ _ _ _ _ _ _ _ _ | with_reducible apply Junk.alloc | with_reducible apply Junk.junk | with_reducible apply Junk.drew | with_reducible apply Junk.drewN)))⟩
    | false =>
      have h2' : (B != 0) = true := by rw [bne, h2]; rfl
      have HE := Lib.hid (show Z = (t.bl : Int) + 1 + 1 by rw [HZ.out, if_neg (by simpa using h1), if_neg (by simpa using h2)])
      go_enter Try.func26, Try.ntmps26
      go_wp2
      refine wp_loop_rounds 3 ?_
      rw [rounds_succ]
      go_wp2
      rw [rounds_succ]
      go_wp2
      rw [rounds_succ]
      go_wp2
      go_ret
      exact ⟨by rw [HE.out] <;> rfl, by ((try simp only [World.junk_junk, Array.append_assoc]); (repeat (first | with_reducible exact Junk.refl _ | with_reducible exact Junk.app _ _ _ _ _ | with_reducible exact Junk.app2 _ _ _ _ _ _ | with_reducible exact Junk.app3 _ _ _ _ _ _ _ | with_reducible exact Junk.app4 _ _ _ _ _ _ _ _ | with_reducible exact Junk.app5 _ _ _ _ _ _ _ _ _ | with_reducible apply Junk.alloc | with_reducible apply Junk.junk | with_reducible apply Junk.drew | with_reducible apply Junk.drewN)))⟩
theorem TcpM.ok {w w' : World} {E : Int} {t : Tc} {e : Ending} (h : TcpM w E t e w') (h0 : E = 0) : ∃ (F : List Ot) (oo : Option Addr) (co : Nat) (ob : Option Addr) (cb : Nat), e = .returned (.tuple #[.agg #[.int .i64 t.sport, .int .i64 t.dport, .int .u32 t.seq, .int .u32 t.ack, .int .i64 t.flags, .int .i64 t.win, .int .i64 t.urg, .slice oo F.length co, .slice ob t.bl cb], .int .i64 0]) ∧ Junk w w' ∧ F.map Ot.d = t.os ∧ TcAt w' F oo co t.bl t.body ob cb := by
  obtain ⟨hj, ⟨h1, _⟩ | ⟨_, F, oo, co, ob, cb, hF, hT, he⟩⟩ := h
  · exact absurd h0 h1
  · exact ⟨F, oo, co, ob, cb, he, hj, hF, hT⟩
theorem TcpM.bad {w w' : World} {E : Int} {t : Tc} {e : Ending} (h : TcpM w E t e w') (h0 : E ≠ 0) : e = .returned (.tuple #[.agg #[.int .i64 0, .int .i64 0, .int .u32 0, .int .u32 0, .int .i64 0, .int .i64 0, .int .i64 0, .slice none 0 0, .slice none 0 0], .int .i64 E]) ∧ Junk w w' := by
  obtain ⟨hj, ⟨_, he⟩ | ⟨h1, _⟩⟩ := h
  · exact ⟨he, hj⟩
  · exact absurd h1 h0
theorem TPutM.ok {w w' : World} {src dst : Int} {t : Tc} {e : Ending} (h : TPutM w src dst t e w') (h0 : tcMay t = true) : ∃ (ob : Option Addr) (cb : Nat), e = .returned (.tuple #[.slice ob (tcSz t + t.bl) cb, .int .i64 0]) ∧ Junk w w' ∧ Bts w' ob (tcSz t + t.bl) cb (segOf src dst t) ∧
    Own w.heap.size w' 5 1 ob cb (tcSz t + t.bl) (byL (tcSz t + t.bl) (segOf src dst t)) := by
  obtain ⟨ob, lb, cb, rfl, hj, hb, ⟨h1, rfl, ho⟩ | ⟨h1, _⟩⟩ := h
  · exact ⟨ob, cb, by simp [tcErr, h0], hj, hb, ho⟩
  · rw [h0] at h1; cases h1
theorem TPutM.bad {w w' : World} {src dst : Int} {t : Tc} {e : Ending} (h : TPutM w src dst t e w') (h0 : tcMay t = false) : e = .returned (.tuple #[.slice none 0 0, .int .i64 1]) ∧ Junk w w' := by
  obtain ⟨ob, lb, cb, rfl, hj, hb, ⟨h1, _⟩ | ⟨h1, rfl, rfl, rfl⟩⟩ := h
  · rw [h0] at h1; cases h1
  · exact ⟨by simp [tcErr, h0], hj⟩
def zeroTc : Tc := ⟨0, 0, 0, 0, 0, 0, 0, [], 0, fun _ => 0⟩
theorem zeroTc_at (w : World) : TcAt w [] none 0 0 (fun _ => 0) none 0 := ⟨fun i f hf => by simp at hf, fun _ => ⟨rfl, rfl⟩, Nat.le_refl _, ⟨fun i hi => by omega, fun i hi => by omega, fun _ => ⟨rfl, rfl⟩, Nat.le_refl _, Nat.zero_le _⟩⟩
theorem optP_len (xs : Nat → Int) (S : Nat) : ∀ n a acc Q, optP xs S n a acc = some Q → Q.length ≤ acc.length + n
  | 0, a, acc, Q, h => by rw [optP] at h; cases h; omega
  | n + 1, a, acc, Q, h => by
    rw [optP] at h
    split at h
    · cases h; omega
    · split at h
      · have := optP_len xs S n _ _ _ h; omega
      · split at h
        · cases h
        · split at h
          · have := optP_len xs S n _ _ _ h; simp at this; omega
          · cases h
theorem tcpTc_len {src dst : Int} {xs : Nat → Int} {l : Nat} (h : tcpErr src dst xs l = 0) (h12 : 0 ≤ xs 12 ∧ xs 12 ≤ 255) : (tcpTc xs l).os.length ≤ 1000 := by
  show ((tcpOpts xs).getD []).length ≤ 1000
  cases hq : tcpOpts xs with
  | none => simp
  | some Q =>
    have := optP_len _ _ _ _ _ _ hq
    have hs : tcpSize xs ≤ 60 := by unfold tcpSize; omega
    simp at this ⊢
    omega
theorem tcpErr_len {src dst : Int} {xs : Nat → Int} {l : Nat} (h : tcpErr src dst xs l = 0) : 20 ≤ l ∧ l ≤ 65535 := by
  unfold tcpErr at h
  split at h
  · cases h
  · split at h
    · cases h
    · omega
/-- The segment of the fixed answers. -/
def wTc : Tc := ⟨80, 0, 0, 0, 2, 0, 0, [⟨2, 2, fun i => if i = 0 then 5 else 180⟩, ⟨4, 0, fun _ => 0⟩], 0, fun _ => 0⟩
def wS : Nat → Int := segOf 1 2 wTc
theorem wTc_may : tcMay wTc = true := by decide +kernel
theorem wTc_sz : tcSz wTc = 28 := by decide +kernel
theorem wS_err : tcpErr 1 2 wS 28 = 0 := by decide +kernel
theorem wS_20 : wS 20 = 2 := by decide +kernel
theorem wS_24 : wS 24 = 4 := by decide +kernel
theorem wS_sport : (tcpTc wS 28).sport = 80 := by decide +kernel
theorem wS_len : (tcpTc wS 28).os.length = 2 := by decide +kernel
theorem wS_bl : (tcpTc wS 28).bl = 0 := by decide +kernel
theorem wS_size : sizeI (tcpTc wS 28) = 1 := by decide +kernel
theorem wTc_wf : TcWf wTc := ⟨by decide, by decide, fun f hf i hi => by
  simp only [wTc, List.mem_cons, List.not_mem_nil, or_false] at hf
  rcases hf with rfl | rfl
  · dsimp only; split <;> omega
  · simp at hi, fun i hi => by simp [wTc] at hi⟩
theorem w5_at (w : World) : TcAt ((w.alloc (.cells #[.int .u8 5, .int .u8 180] 5)).alloc (.cells #[.int .i64 2, .slice (some ⟨w.heap.size, 0, none⟩) 2 2, .int .i64 4, .slice none 0 0] 41)) [(⟨2, some ⟨w.heap.size, 0, none⟩, 2, 2, fun i => if i = 0 then 5 else 180⟩ : Ot), ⟨4, none, 0, 0, fun _ => 0⟩] (some ⟨w.heap.size + 1, 0, none⟩) 2 0 (fun _ => 0) none 0 := by
  have hb1 : Bts (w.alloc (.cells #[.int .u8 5, .int .u8 180] 5)) (some ⟨w.heap.size, 0, none⟩) 2 2 (fun i => if i = 0 then 5 else 180) := by
    refine ⟨fun i hi => ⟨w.heap.size, 0, rfl, by simp, ?_⟩, fun i hi => by (try dsimp only); split <;> omega, fun h => (by cases h), Nat.le_refl _, by decide⟩
    rw [World.cell?_alloc_new]
    rcases (show i = 0 ∨ i = 1 by omega) with rfl | rfl <;> simp
  have hb2 : Bts ((w.alloc (.cells #[.int .u8 5, .int .u8 180] 5)).alloc (.cells #[.int .i64 2, .slice (some ⟨w.heap.size, 0, none⟩) 2 2, .int .i64 4, .slice none 0 0] 41)) none 0 0 (fun _ => 0) := ⟨fun i hi => by omega, fun i hi => by omega, fun _ => ⟨rfl, rfl⟩, Nat.le_refl _, Nat.zero_le _⟩
  refine ⟨fun i f hf => ?_, fun h => (by cases h), Nat.le_refl _, hb2⟩
  have hs : w.heap.size + 1 = (w.alloc (.cells #[.int .u8 5, .int .u8 180] 5)).heap.size := by simp
  match i, hf with
  | 0, hf => cases hf; exact ⟨_, 0, rfl, by simp, by rw [hs, World.cell?_alloc_new]; rfl, by rw [hs, World.cell?_alloc_new]; rfl, hb1.on (by (repeat (first | with_reducible exact Junk.refl _ | with_reducible exact Junk.app _ _ _ _ _ | with_reducible apply Junk.alloc | with_reducible apply Junk.junk | with_reducible apply Junk.drew | with_reducible apply Junk.drewN)))⟩
  | 1, hf => cases hf; exact ⟨_, 0, rfl, by simp, by rw [hs, World.cell?_alloc_new]; rfl, by rw [hs, World.cell?_alloc_new]; rfl, hb2⟩
  | n + 2, hf => simp at hf
set_option maxHeartbeats 2000000 in
theorem awake04_any (w : World) : Calls Try.prog 13 #[] w fun e w' => e = .returned (.bool true) ∧ Junk w w' := by
  have H5 := Lib.hid (w5_at w)
  have e1 := wS_20
  have e2 := wS_24
  have e3 := wS_sport
  have e4 := wS_bl
  have e5 := wS_size
  go_enter Try.func13, Try.ntmps13
  go_wp2_with (first
    | (go_at_call 18; refine (tput_any 1 2 wTc [(⟨2, some ⟨w.heap.size, 0, none⟩, 2, 2, fun i => if i = 0 then 5 else 180⟩ : Ot), ⟨4, none, 0, 0, fun _ => 0⟩] 2 _ none 2 0 _ (by omega) (by omega) rfl rfl (by omega) H5.out (fun f hf => by simp only [List.mem_cons, List.not_mem_nil, or_false] at hf; rcases hf with rfl | rfl <;> dsimp only <;> omega) (by decide) wTc_wf).mono ?_; intro e w' hp; obtain ⟨ob, cb, rfl, ⟨osj, dj, rfl⟩, hb, _⟩ := hp.ok wTc_may; clear hp; rw [show tcSz wTc + wTc.bl = 28 from wTc_sz] at hb; rw [show tcSz wTc + wTc.bl = 28 from wTc_sz]; obtain ⟨g, off, rfl, hgl, hc0⟩ := hb.at_ 20 (by decide); obtain ⟨_, _, hg2, _, hc1⟩ := hb.at_ 24 (by decide); cases hg2; have hd0 := fun os d => (World.cell?_junk _ os d g _ hgl).trans hc0; have hd1 := fun os d => (World.cell?_junk _ os d g _ hgl).trans hc1; simp only [World.junk_junk, show segOf 1 2 wTc 20 = 2 from wS_20, show segOf 1 2 wTc 24 = 4 from wS_24] at hd0 hd1; have hgl2 : ∀ k, g < w.heap.size + 1 + 1 + (osj.size + k) := (fun k => by simp at hgl; omega); have Hb := Lib.hid hb; clear hb hc0 hc1 hgl)
    | (go_at_call 14; refine (tparse_any 1 2 _ 28 cb wS _ (by omega) (by omega) (by omega) (Hb.out.on (by ((try simp only [World.junk_junk, Array.append_assoc]); (repeat (first | with_reducible exact Junk.refl _ | with_reducible exact Junk.app _ _ _ _ _ | with_reducible exact Junk.app2 _ _ _ _ _ _ | with_reducible exact Junk.app3 _ _ _ _ _ _ _ | with_reducible exact Junk.app4 _ _ _ _ _ _ _ _ | with_reducible exact Junk.app5 _ _ _ _ _ _ _ _ _ | with_reducible apply Junk.alloc | with_reducible apply Junk.junk | with_reducible apply Junk.drew | with_reducible apply Junk.drewN)))))).mono ?_; intro e w' hp; obtain ⟨F, oo, co, ob2, cb2, rfl, ⟨osj2, dj2, rfl⟩, hF, _⟩ := hp.ok wS_err; clear hp; have hFl : F.length = 2 := (by rw [← wS_len, ← hF]; simp); rw [hFl]; clear hF)
    | (go_at_call 26; refine (tsize_any (tcpTc wS 28) 2 oo ob2 co cb2 _ (by rw [wS_bl]; omega)).mono ?_; rintro e w' ⟨rfl, ⟨osj, dj, rfl⟩⟩))
  go_ret
  exact ⟨ret_bool rfl, by ((try simp only [World.junk_junk, Array.append_assoc]); (repeat (first | with_reducible exact Junk.refl _ | with_reducible exact Junk.app _ _ _ _ _ | with_reducible exact Junk.app2 _ _ _ _ _ _ | with_reducible exact Junk.app3 _ _ _ _ _ _ _ | with_reducible exact Junk.app4 _ _ _ _ _ _ _ _ | with_reducible exact Junk.app5 _ _ _ _ _ _ _ _ _ | with_reducible apply Junk.alloc | with_reducible apply Junk.junk | with_reducible apply Junk.drew | with_reducible apply Junk.drewN)))⟩
end Go.Proofs.Ytjmofjcloebgmaa
