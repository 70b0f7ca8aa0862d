/- What a turn keeps of the packet that an error is about. -/
import Derived.Test.YtnefphinmjeacaaInF
set_option linter.unusedVariables false
set_option maxRecDepth 100000
set_option linter.unusedSimpArgs false
namespace Go.Proofs.Ytnefphinmjeacaa
open Go.RowKit
theorem about_ok {kind code rest : Int} {xs : Nat → Int} {l : Nat} {P : Ip} (hl : l ≤ 100000000) (h0 : aboutErr kind xs l = 0) (hP : aboutIp xs l = P) (oa : Option Addr) (c : Nat) (w : World) (hB : Bts w oa l c xs) :
    Calls Try.prog 17 #[.agg #[.int .i64 kind, .int .i64 code, .int .u32 rest, .slice oa l c]] w fun e w' => ∃ (oo ob : Option Addr) (oc bc : Nat), e = .returned (.tuple #[.agg #[.int .i64 P.tos, .int .i64 P.id, .bool P.df, .bool P.mf, .int .i64 P.off, .int .i64 P.ttl, .int .i64 P.proto, .int .u32 P.src, .int .u32 P.dst, .slice oo P.ol oc, .slice ob P.bl bc], .int .i64 0]) ∧ Junk w w' ∧ IpAt w' P oo oc ob bc :=
  (about_any kind code rest oa l c xs w hl hB).mono fun e w' hp => by
    obtain ⟨p, oo, ob, oc, bc, rfl, hj, hI, ⟨h1, rfl⟩ | ⟨h1, _⟩⟩ := hp
    · subst hP
      exact ⟨oo, ob, oc, bc, by rw [h0], hj, hI⟩
    · exact absurd h0 h1
theorem tn_keeps {kind : Int} {xs ys : Nat → Int} {l A P : Nat} {addr port : Int} (hA : (A = 12 ∧ P = 0) ∨ (A = 16 ∧ P = 2)) (h0 : nmErr kind xs l = 0)
    (h : Tn xs ys (ipSize xs) A (tnAt (aboutIp xs l) P) (aboutIp xs l).proto addr port) :
    aboutErr kind ys l = 0 ∧ SameHead (aboutIp xs l) (aboutIp ys l) ∧ (∀ i, 8 ≤ i → (aboutIp xs l).body i = (aboutIp ys l).body i ∨ ((aboutIp xs l).proto = 6 ∧ (i = 16 ∨ i = 17))) ∧
      (A = 12 → (aboutIp ys l).dst = (aboutIp xs l).dst) ∧ (A = 16 → (aboutIp ys l).src = (aboutIp xs l).src) ∧ 8 ≤ (aboutIp xs l).bl := by
  obtain ⟨hk, hW, hoff, hbl, hpr⟩ := nmErr_zero h0
  have hA' : A = 12 ∨ A = 16 := by omega
  obtain ⟨hWy, hs, ht⟩ := h.whole hA' rfl hW
  have hH := h.head hA' rfl hW
  have hS20 := hW.s20
  have hat : tnAt (aboutIp xs l) P ≤ 4 := by unfold tnAt; split <;> omega
  have hb : ∀ j, (aboutIp ys l).body j = ys (ipSize xs + j) := fun j => by unfold aboutIp; rw [hs]; rfl
  have hbx : ∀ j, (aboutIp xs l).body j = xs (ipSize xs + j) := fun j => rfl
  have ha : aboutErr kind ys l = 0 := by unfold aboutErr; rw [hk, if_neg (by decide)]; exact wholeErr_of hWy
  refine ⟨ha, hH, fun i hi => ?_, fun hA2 => ?_, fun hA2 => ?_, hbl⟩
  · rw [hb, hbx]
    by_cases h6 : (aboutIp xs l).proto = 6 ∧ (i = 16 ∨ i = 17)
    · exact .inr h6
    · left
      refine (h.high i (by omega) (by omega) (fun _ => by omega) (fun _ => by omega) (fun p1 p2 => ?_)).symm
      rcases hpr with q | q | q
      · omega
      · exact absurd q p2
      · exact absurd q.1 p1
  · show wd ys 16 * 65536 + wd ys 18 = wd xs 16 * 65536 + wd xs 18
    unfold wd
    rw [h.low 16 (by omega) (by omega) (by omega) (by omega), h.low 17 (by omega) (by omega) (by omega) (by omega), h.low 18 (by omega) (by omega) (by omega) (by omega), h.low 19 (by omega) (by omega) (by omega) (by omega)]
  · show wd ys 12 * 65536 + wd ys 14 = wd xs 12 * 65536 + wd xs 14
    unfold wd
    rw [h.low 12 (by omega) (by omega) (by omega) (by omega), h.low 13 (by omega) (by omega) (by omega) (by omega), h.low 14 (by omega) (by omega) (by omega) (by omega), h.low 15 (by omega) (by omega) (by omega) (by omega)]
end Go.Proofs.Ytnefphinmjeacaa
