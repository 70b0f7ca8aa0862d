/- What CutOnce and CutFits say of the pieces, without the program. -/
import Derived.Test.YtgjppmkadmfibaaCutC
set_option linter.unusedVariables false
set_option maxRecDepth 100000
set_option linter.unusedSimpArgs false
namespace Go.Proofs.Ytgjppmkadmfibaa
open Go.RowKit
theorem cells_at {w : World} {B : Nat} {e : TypeId} {g cap n : Nat} {L : List Fr} (h : Own B w e 11 (some ⟨g, 0, none⟩) cap n (cellsL L)) (i : Nat) (f : Fr) (hi : L[i]? = some f) :
    w.cell? ⟨g, i * 11, none⟩ = some (.int .i64 f.p.tos) ∧ w.cell? ⟨g, i * 11 + 1, none⟩ = some (.int .i64 f.p.id) ∧ w.cell? ⟨g, i * 11 + 2, none⟩ = some (.bool f.p.df) ∧ w.cell? ⟨g, i * 11 + 3, none⟩ = some (.bool f.p.mf) ∧ w.cell? ⟨g, i * 11 + 4, none⟩ = some (.int .i64 f.p.off) ∧ w.cell? ⟨g, i * 11 + 5, none⟩ = some (.int .i64 f.p.ttl) ∧ w.cell? ⟨g, i * 11 + 6, none⟩ = some (.int .i64 f.p.proto) ∧ w.cell? ⟨g, i * 11 + 7, none⟩ = some (.int .u32 f.p.src) ∧ w.cell? ⟨g, i * 11 + 8, none⟩ = some (.int .u32 f.p.dst) ∧ w.cell? ⟨g, i * 11 + 9, none⟩ = some (.slice f.oo f.p.ol f.oc) ∧ w.cell? ⟨g, i * 11 + 10, none⟩ = some (.slice f.ob f.p.bl f.bc) := by
  have hk : ∀ k v, k < 11 → f.cells[k]? = some v → w.cell? ⟨g, i * 11 + k, none⟩ = some v := fun k v hk hv => by
    obtain ⟨g', h1, _, _, h2, _⟩ := h.cells (i * 11 + k) v (by rw [cellsL_get L i f hi k hk]; exact hv)
    cases h1
    exact h2
  exact ⟨hk 0 _ (by decide) rfl, hk 1 _ (by decide) rfl, hk 2 _ (by decide) rfl, hk 3 _ (by decide) rfl, hk 4 _ (by decide) rfl, hk 5 _ (by decide) rfl, hk 6 _ (by decide) rfl, hk 7 _ (by decide) rfl, hk 8 _ (by decide) rfl, hk 9 _ (by decide) rfl, hk 10 _ (by decide) rfl⟩
structure CutOk (p : Ip) (mtu : Int) : Prop where
  may : MayP p
  lo : 28 ≤ mtu
  hi : mtu ≤ 65535
  way : 20 + (p.ol : Int) + p.bl ≤ mtu ∨ (¬ 20 + (p.ol : Int) + p.bl ≤ mtu ∧ 8 ≤ mtu - 20 - p.ol ∧ 8 ≤ cutZ p mtu ∧ cutZ p mtu % 8 = 0 ∧ 20 + (p.ol : Int) + cutZ p mtu ≤ mtu ∧ cutZ p mtu < p.bl)
theorem cutErr_zero {p : Ip} {mtu : Int} (h : cutErr p mtu = 0) : CutOk p mtu := by
  unfold cutErr at h
  split at h
  · rename_i h1
    refine ⟨may_iff.1 h1.1, h1.2.1, h1.2.2, ?_⟩
    split at h
    · rename_i h2; exact .inl h2
    · rename_i h2
      split at h
      · cases h
      · split at h
        · cases h
        · rename_i h3 h4
          refine .inr ⟨h2, by omega, ?_, ?_, ?_, ?_⟩ <;> unfold cutZ <;> omega
  · cases h
theorem cutErr_of {p : Ip} {mtu : Int} (h : MayP p) (h1 : 28 ≤ mtu) (h2 : mtu ≤ 65535) (h3 : 20 + (p.ol : Int) + p.bl ≤ mtu) : cutErr p mtu = 0 := by
  unfold cutErr
  rw [if_pos ⟨may_iff.2 h, h1, h2⟩, if_pos h3]
/-- A piece: where it begins, and ends. -/
structure PieceOf (p : Ip) (mtu : Int) (i : Nat) (q : Ip) (at_ te : Nat) : Prop where
  eq : q = pieceIp p at_ te
  le : at_ ≤ te
  tl : te ≤ p.bl
  a8 : at_ % 8 = 0
  z : i = 0 → at_ = 0
  fits : 20 + (p.ol : Int) + ((te - at_ : Nat) : Int) ≤ mtu
  mid : te < p.bl → (te - at_) % 8 = 0 ∧ 0 < te - at_
  last : te = p.bl → i + 1 = (cutL p mtu).length
  pos : 0 < p.bl → at_ < te
theorem cutL_one {p : Ip} {mtu : Int} (h : cutErr p mtu = 0) (hw : 20 + (p.ol : Int) + p.bl ≤ mtu) : cutL p mtu = [pieceIp p 0 p.bl] := by
  unfold cutL; rw [if_neg (by rw [h]; simp), if_pos hw]
theorem cutL_many {p : Ip} {mtu : Int} (h : cutErr p mtu = 0) (hw : ¬ 20 + (p.ol : Int) + p.bl ≤ mtu) : cutL p mtu = piecesL p (cutZ p mtu) ((p.bl + cutZ p mtu - 1) / cutZ p mtu) := by
  unfold cutL; rw [if_neg (by rw [h]; simp), if_neg hw]
theorem ceil_spec {b Z : Nat} (hz : 0 < Z) : b ≤ ((b + Z - 1) / Z) * Z ∧ ((b + Z - 1) / Z) * Z ≤ b + Z - 1 := by
  refine ⟨?_, Nat.div_mul_le_self _ _⟩
  have h := Nat.lt_div_mul_add (a := b + Z - 1) hz
  omega
theorem piece_of {p : Ip} {mtu : Int} (h : cutErr p mtu = 0) {i : Nat} {q : Ip} (hq : (cutL p mtu)[i]? = some q) : ∃ at_ te, PieceOf p mtu i q at_ te := by
  have K := cutErr_zero h
  rcases K.way with hw | ⟨hw, z1, z2, z3, z4, z5⟩
  · have hL := cutL_one h hw
    rw [hL] at hq
    have hi : i = 0 := by
      have := (List.getElem?_eq_some_iff.1 hq).1
      simp at this; exact this
    subst hi
    simp only [List.getElem?_cons_zero, Option.some.injEq] at hq
    exact ⟨0, p.bl, ⟨hq.symm, Nat.zero_le _, Nat.le_refl _, rfl, fun _ => rfl, by omega, fun h => by omega, fun _ => by rw [hL]; rfl, fun h => h⟩⟩
  · have hL := cutL_many h hw
    have hc := ceil_spec (b := p.bl) (Z := cutZ p mtu) (by omega)
    have hn : (cutL p mtu).length = (p.bl + cutZ p mtu - 1) / cutZ p mtu := by rw [hL]; simp [piecesL]
    rw [hL] at hq
    rw [← hn] at hc
    generalize hN : (p.bl + cutZ p mtu - 1) / cutZ p mtu = N at hq hn
    generalize cutZ p mtu = Z at *
    unfold piecesL at hq
    rw [List.getElem?_map] at hq
    have hi : i < N := by
      rcases Nat.lt_or_ge i N with h' | h'
      · exact h'
      · rw [List.getElem?_eq_none (by simpa using h')] at hq; cases hq
    rw [List.getElem?_range hi] at hq
    simp only [Option.map_some, Option.some.injEq] at hq
    rw [hn] at hc
    have h1 : (i + 1) * Z ≤ N * Z := Nat.mul_le_mul_right Z hi
    rw [Nat.succ_mul] at h1
    have h8 : (i * Z) % 8 = 0 := by rw [Nat.mul_mod, z3]; simp
    have hlast : p.bl ≤ i * Z + Z → i + 1 = N := by
      intro h2
      rcases Nat.lt_or_ge (i + 1) N with h' | h'
      · have h3 : (i + 1 + 1) * Z ≤ N * Z := Nat.mul_le_mul_right Z h'
        rw [Nat.succ_mul, Nat.succ_mul] at h3
        omega
      · omega
    have h0 : i = 0 → i * Z = 0 := fun h => by rw [h]; simp
    generalize i * Z = J at *
    generalize N * Z = M at *
    refine ⟨J, min (J + Z) p.bl, ⟨hq.symm, by omega, by omega, h8, h0, by omega, fun h => by omega, fun h => by rw [hn]; exact hlast (by omega), fun h => by omega⟩⟩
theorem PieceOf.may {p q : Ip} {mtu : Int} {i at_ te : Nat} (hp : MayP p) (h : PieceOf p mtu i q at_ te) : MayP q := by
  obtain ⟨rfl, h1, h2, h3, _, h4, h5, _, h6⟩ := h
  have hf := hp.fit
  have ho := hp.off
  have ho8 := hp.off8
  refine ⟨hp.tos, hp.ttl, hp.proto, hp.id, ?_, ?_, hp.ol, hp.ol4, ?_, ?_⟩
  · simp only [pieceIp]; omega
  · simp only [pieceIp]; omega
  · simp only [pieceIp]; omega
  · simp only [pieceIp, Bool.or_eq_true, decide_eq_true_eq]
    rintro (hm | hm)
    · obtain ⟨m1, m2⟩ := hp.mf hm
      have := h6 m2
      omega
    · exact h5 hm
theorem cut_again {p q : Ip} {mtu : Int} {i : Nat} (h : cutErr p mtu = 0) (hq : (cutL p mtu)[i]? = some q) : (cutL q mtu).length = 1 := by
  have K := cutErr_zero h
  obtain ⟨at_, te, hp⟩ := piece_of h hq
  have hm := hp.may K.may
  have hf : 20 + (q.ol : Int) + q.bl ≤ mtu := by have := hp.fits; rw [hp.eq]; exact this
  rw [cutL_one (cutErr_of hm K.lo K.hi hf) hf]
  rfl
theorem ceil_mono {b Z Y : Nat} (hz : 0 < Z) (h : Z ≤ Y) : (b + Y - 1) / Y ≤ (b + Z - 1) / Z := by
  obtain ⟨h1, _⟩ := ceil_spec (b := b) hz
  generalize (b + Z - 1) / Z = k at *
  have h2 : k * Z ≤ k * Y := Nat.mul_le_mul_left k h
  have h3 : (b + Y - 1) / Y < k + 1 := (Nat.div_lt_iff_lt_mul (by omega)).2 (by rw [Nat.succ_mul]; omega)
  omega
theorem ceil_pos {b Z : Nat} (hz : 0 < Z) (hb : 0 < b) : 0 < (b + Z - 1) / Z := by
  obtain ⟨h1, _⟩ := ceil_spec (b := b) hz
  rcases Nat.eq_zero_or_pos ((b + Z - 1) / Z) with h | h
  · rw [h] at h1; omega
  · exact h
theorem cutL_pos {p : Ip} {mtu : Int} (h : cutErr p mtu = 0) : 0 < (cutL p mtu).length := by
  rcases (cutErr_zero h).way with hw | ⟨hw, z1, z2, z3, z4, z5⟩
  · rw [cutL_one h hw]; simp
  · rw [cutL_many h hw]
    simp only [piecesL, List.length_map, List.length_range]
    exact ceil_pos (by omega) (by omega)
theorem cutL_bad {p : Ip} {mtu : Int} (h : cutErr p mtu ≠ 0) : (cutL p mtu).length = 0 := by unfold cutL; rw [if_pos h]; rfl
/-- A wider way: not more pieces. -/
theorem cutL_mono {p : Ip} {a b : Int} (ha : cutErr p a = 0) (hb : cutErr p b = 0) (h : a ≤ b) : (cutL p b).length ≤ (cutL p a).length := by
  have h0 := cutL_pos ha
  rcases (cutErr_zero hb).way with hw | ⟨hw, z1, z2, z3, z4, z5⟩
  · rw [cutL_one hb hw]; exact h0
  · rcases (cutErr_zero ha).way with hv | ⟨hv, y1, y2, y3, y4, y5⟩
    · omega
    · rw [cutL_many ha hv, cutL_many hb hw]
      simp only [piecesL, List.length_map, List.length_range]
      exact ceil_mono (by omega) (by unfold cutZ; omega)
/-- At most as many as its bytes, by eights, and one. -/
theorem cutL_few {p : Ip} {mtu : Int} : (cutL p mtu).length ≤ p.bl / 8 + 1 := by
  by_cases h : cutErr p mtu = 0
  · rcases (cutErr_zero h).way with hw | ⟨hw, z1, z2, z3, z4, z5⟩
    · rw [cutL_one h hw]; simp
    · rw [cutL_many h hw]
      simp only [piecesL, List.length_map, List.length_range]
      have := ceil_mono (b := p.bl) (Z := 8) (Y := cutZ p mtu) (by omega) z2
      omega
  · rw [cutL_bad h]; omega
end Go.Proofs.Ytgjppmkadmfibaa
