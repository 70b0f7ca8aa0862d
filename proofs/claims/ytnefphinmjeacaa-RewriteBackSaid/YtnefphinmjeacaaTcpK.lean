/- tcp.Size; the fixed answers of layer 4. -/
import Derived.Test.YtnefphinmjeacaaTcpJ
import Derived.Test.YtnefphinmjeacaaTcpH
import Derived.Test.YtnefphinmjeacaaTcpD
import Derived.LoopN
set_option linter.unusedVariables false
set_option maxRecDepth 100000
set_option linter.unusedSimpArgs false
namespace Go.Proofs.Ytnefphinmjeacaa
open Go.RowKit
def sizeI (t : Tc) : Int := (t.bl : Int) + (if bits .and .i64 t.flags 2 = 0 then 0 else 1) + (if bits .and .i64 t.flags 1 = 0 then 0 else 1)
theorem TcpM.ok {w w' : World} {E : Int} {t : Tc} {e : Ending} (h : TcpM w E t e w') (h0 : E = 0) : ∃ (F : List Ot) (oo : Option Addr) (co : Nat) (ob : Option Addr) (cb : Nat), e = .returned (.tuple #[.agg #[.int .i64 t.sport, .int .i64 t.dport, .int .u32 t.seq, .int .u32 t.ack, .int .i64 t.flags, .int .i64 t.win, .int .i64 t.urg, .slice oo F.length co, .slice ob t.bl cb], .int .i64 0]) ∧ Junk w w' ∧ F.map Ot.d = t.os ∧ TcAt w' F oo co t.bl t.body ob cb := by
  obtain ⟨hj, ⟨h1, _⟩ | ⟨_, F, oo, co, ob, cb, hF, hT, he⟩⟩ := h
  · exact absurd h0 h1
  · exact ⟨F, oo, co, ob, cb, he, hj, hF, hT⟩
theorem TcpM.bad {w w' : World} {E : Int} {t : Tc} {e : Ending} (h : TcpM w E t e w') (h0 : E ≠ 0) : e = .returned (.tuple #[.agg #[.int .i64 0, .int .i64 0, .int .u32 0, .int .u32 0, .int .i64 0, .int .i64 0, .int .i64 0, .slice none 0 0, .slice none 0 0], .int .i64 E]) ∧ Junk w w' := by
  obtain ⟨hj, ⟨_, he⟩ | ⟨h1, _⟩⟩ := h
  · exact ⟨he, hj⟩
  · exact absurd h1 h0
theorem TPutM.ok {w w' : World} {src dst : Int} {t : Tc} {e : Ending} (h : TPutM w src dst t e w') (h0 : tcMay t = true) : ∃ (ob : Option Addr) (cb : Nat), e = .returned (.tuple #[.slice ob (tcSz t + t.bl) cb, .int .i64 0]) ∧ Junk w w' ∧ Bts w' ob (tcSz t + t.bl) cb (segOf src dst t) ∧
    Own w.heap.size w' 5 1 ob cb (tcSz t + t.bl) (byL (tcSz t + t.bl) (segOf src dst t)) := by
  obtain ⟨ob, lb, cb, rfl, hj, hb, ⟨h1, rfl, ho⟩ | ⟨h1, _⟩⟩ := h
  · exact ⟨ob, cb, by simp [tcErr, h0], hj, hb, ho⟩
  · rw [h0] at h1; cases h1
theorem TPutM.bad {w w' : World} {src dst : Int} {t : Tc} {e : Ending} (h : TPutM w src dst t e w') (h0 : tcMay t = false) : e = .returned (.tuple #[.slice none 0 0, .int .i64 1]) ∧ Junk w w' := by
  obtain ⟨ob, lb, cb, rfl, hj, hb, ⟨h1, _⟩ | ⟨h1, rfl, rfl, rfl⟩⟩ := h
  · rw [h0] at h1; cases h1
  · exact ⟨by simp [tcErr, h0], hj⟩
def zeroTc : Tc := ⟨0, 0, 0, 0, 0, 0, 0, [], 0, fun _ => 0⟩
theorem zeroTc_at (w : World) : TcAt w [] none 0 0 (fun _ => 0) none 0 := ⟨fun i f hf => by simp at hf, fun _ => ⟨rfl, rfl⟩, Nat.le_refl _, ⟨fun i hi => by omega, fun i hi => by omega, fun _ => ⟨rfl, rfl⟩, Nat.le_refl _, Nat.zero_le _⟩⟩
theorem optP_len (xs : Nat → Int) (S : Nat) : ∀ n a acc Q, optP xs S n a acc = some Q → Q.length ≤ acc.length + n
  | 0, a, acc, Q, h => by rw [optP] at h; cases h; omega
  | n + 1, a, acc, Q, h => by
    rw [optP] at h
    split at h
    · cases h; omega
    · split at h
      · have := optP_len xs S n _ _ _ h; omega
      · split at h
        · cases h
        · split at h
          · have := optP_len xs S n _ _ _ h; simp at this; omega
          · cases h
theorem tcpTc_len {src dst : Int} {xs : Nat → Int} {l : Nat} (h : tcpErr src dst xs l = 0) (h12 : 0 ≤ xs 12 ∧ xs 12 ≤ 255) : (tcpTc xs l).os.length ≤ 1000 := by
  show ((tcpOpts xs).getD []).length ≤ 1000
  cases hq : tcpOpts xs with
  | none => simp
  | some Q =>
    have := optP_len _ _ _ _ _ _ hq
    have hs : tcpSize xs ≤ 60 := by unfold tcpSize; omega
    simp at this ⊢
    omega
theorem tcpErr_len {src dst : Int} {xs : Nat → Int} {l : Nat} (h : tcpErr src dst xs l = 0) : 20 ≤ l ∧ l ≤ 65535 := by
  unfold tcpErr at h
  split at h
  · cases h
  · split at h
    · cases h
    · omega
end Go.Proofs.Ytnefphinmjeacaa
