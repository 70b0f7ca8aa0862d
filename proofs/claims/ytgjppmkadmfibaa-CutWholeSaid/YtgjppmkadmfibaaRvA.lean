/- Pieces of pieces are pieces (plain). -/
import Derived.Test.YtgjppmkadmfibaaRuB
import Derived.Test.YtgjppmkadmfibaaCutP
set_option linter.unusedVariables false
set_option maxRecDepth 100000
set_option linter.unusedSimpArgs false
namespace Go.Proofs.Ytgjppmkadmfibaa
open Go.RowKit
theorem contig_range {Z b : Nat} (hZ : 0 < Z) : ∀ k, (0 < k → (k - 1) * Z < b) → contig 0 (min (k * Z) b) ((List.range k).map fun i => (⟨i * Z, min (i * Z + Z) b - i * Z, decide (min (i * Z + Z) b < b)⟩ : Pc))
  | 0, _ => by show 0 = min (0 * Z) b; rw [Nat.zero_mul]; omega
  | k + 1, h => by
    have h1 := h (by omega)
    rw [Nat.add_sub_cancel] at h1
    have h2 := contig_range (b := b) hZ k (fun hk => by
      have : (k - 1) * Z ≤ k * Z := Nat.mul_le_mul_right _ (by omega)
      omega)
    rw [Nat.min_eq_left (Nat.le_of_lt h1)] at h2
    rw [List.range_succ, List.map_append]
    have h3 := contig_snoc (p := ⟨k * Z, min (k * Z + Z) b - k * Z, decide (min (k * Z + Z) b < b)⟩) h2 rfl (by show 0 < min (k * Z + Z) b - k * Z; omega)
    rw [Nat.succ_mul]
    have h4 : k * Z + (min (k * Z + Z) b - k * Z) = min (k * Z + Z) b := by omega
    simp only [h4] at h3
    exact h3
theorem cut_pieces {Y : Ip} {mtu : Int} (h : cutErr Y mtu = 0) (hb : 0 < Y.bl) : ∃ C : List Pc, CutOf Y.bl C ∧ cutL Y mtu = C.map (fun c => pieceIp Y c.o (c.o + c.l)) := by
  rcases (cutErr_zero h).way with hw | ⟨hw, z1, z2, z3, z4, z5⟩
  · refine ⟨[⟨0, Y.bl, false⟩], ⟨⟨rfl, hb, by show 0 + Y.bl = Y.bl; omega⟩, fun p hp => ?_, fun p hp => ?_⟩, ?_⟩
    · rw [List.mem_singleton.1 hp]
      exact (decide_eq_false (show ¬ 0 + Y.bl < Y.bl by omega)).symm
    · rw [List.mem_singleton.1 hp]
      intro h; cases h
    · rw [cutL_one h hw]
      simp
  · rw [cutL_many h hw]
    obtain ⟨c1, c2⟩ := ceil_spec (b := Y.bl) (show 0 < cutZ Y mtu by omega)
    generalize (Y.bl + cutZ Y mtu - 1) / cutZ Y mtu = n at *
    generalize cutZ Y mtu = Z at *
    have hk : ∀ k, k < n → k * Z < Y.bl := fun k hk => by
      have h1 : (k + 1) * Z ≤ n * Z := Nat.mul_le_mul_right _ hk
      rw [Nat.succ_mul] at h1
      omega
    have h1 := contig_range (b := Y.bl) (show 0 < Z by omega) n (fun h0 => hk (n - 1) (by omega))
    rw [Nat.min_eq_right c1] at h1
    refine ⟨_, ⟨h1, fun p hp => ?_, fun p hp => ?_⟩, ?_⟩
    · obtain ⟨i, hi, rfl⟩ := List.mem_map.1 hp
      have h2 := hk i (List.mem_range.1 hi)
      show decide (min (i * Z + Z) Y.bl < Y.bl) = decide (i * Z + (min (i * Z + Z) Y.bl - i * Z) < Y.bl)
      rw [show i * Z + (min (i * Z + Z) Y.bl - i * Z) = min (i * Z + Z) Y.bl by omega]
    · obtain ⟨i, hi, rfl⟩ := List.mem_map.1 hp
      intro hm
      have h2 : min (i * Z + Z) Y.bl < Y.bl := of_decide_eq_true hm
      show (min (i * Z + Z) Y.bl - i * Z) % 8 = 0
      rw [show min (i * Z + Z) Y.bl - i * Z = Z by omega]
      exact z3
    · unfold piecesL
      rw [List.map_map]
      refine List.map_congr_left fun i hi => ?_
      have h2 := hk i (List.mem_range.1 hi)
      show pieceIp Y (i * Z) (min (i * Z + Z) Y.bl) = pieceIp Y (i * Z) (i * Z + (min (i * Z + Z) Y.bl - i * Z))
      rw [show i * Z + (min (i * Z + Z) Y.bl - i * Z) = min (i * Z + Z) Y.bl by omega]
theorem piece_pc {X : Ip} {p c : Pc} (hc : c.mf = decide (c.o + c.l < p.l)) : pieceIp (pcI X p) c.o (c.o + c.l) = pcI X ⟨p.o + c.o, c.l, p.mf || c.mf⟩ := by
  unfold pieceIp pcI
  simp only [Ip.mk.injEq, hc, Nat.add_sub_cancel_left, Int.natCast_add, true_and, and_true]
  funext k
  rw [Nat.add_assoc]
theorem piece_x {X : Ip} {c : Pc} (hm : X.mf = false) (ho : X.off = 0) (hc : c.mf = decide (c.o + c.l < X.bl)) : pieceIp X c.o (c.o + c.l) = pcI X c := by
  unfold pieceIp pcI
  simp only [Ip.mk.injEq, hm, ho, hc, Nat.add_sub_cancel_left, Bool.false_or, Int.zero_add, true_and, and_true]
def subC (p : Pc) (C : List Pc) : List Pc := C.map fun c => ⟨p.o + c.o, c.l, p.mf || c.mf⟩
theorem contig_shift {p : Pc} {e : Nat} : ∀ {a : Nat} {C : List Pc}, contig a e C → contig (p.o + a) (p.o + e) (subC p C)
  | a, [], h => by have h' : a = e := h; show p.o + a = p.o + e; omega
  | a, c :: C, ⟨h1, h2, h3⟩ => ⟨by show p.o + c.o = p.o + a; omega, h2, by
    have := contig_shift (p := p) h3
    show contig (p.o + a + c.l) (p.o + e) _
    rwa [Nat.add_assoc]⟩
theorem contig_app {b n : Nat} {B : List Pc} (hB : contig b n B) : ∀ {a : Nat} {A : List Pc}, contig a b A → contig a n (A ++ B)
  | a, [], h => by have h' : a = b := h; rw [h']; exact hB
  | a, c :: A, ⟨h1, h2, h3⟩ => ⟨h1, h2, contig_app hB h3⟩
theorem join_cuts {X : Ip} {n : Nat} {narrow : Int} : ∀ {a : Nat} {P : List Pc}, contig a n P → (∀ p ∈ P, p.mf = decide (p.o + p.l < n)) → (∀ p ∈ P, p.mf = true → p.l % 8 = 0) → (∀ p ∈ P, cutErr (pcI X p) narrow = 0) →
    ∃ R, contig a n R ∧ (∀ p ∈ R, p.mf = decide (p.o + p.l < n)) ∧ (∀ p ∈ R, p.mf = true → p.l % 8 = 0) ∧ (P.map (pcI X)).flatMap (fun Y => cutL Y narrow) = R.map (pcI X)
  | a, [], h, _, _, _ => ⟨[], h, (fun p hp => by cases hp), (fun p hp => by cases hp), rfl⟩
  | a, p :: P, ⟨h1, h2, h3⟩, hm, h8, he => by
    obtain ⟨R, r1, r2, r3, r4⟩ := join_cuts h3 (fun x hx => hm x (List.mem_cons_of_mem _ hx)) (fun x hx => h8 x (List.mem_cons_of_mem _ hx)) (fun x hx => he x (List.mem_cons_of_mem _ hx))
    obtain ⟨C, hC, hL⟩ := cut_pieces (he p (List.mem_cons_self ..)) h2
    have hpl : p.o + p.l ≤ n := by have := (contig_le h3).1; omega
    have hpm := hm p (List.mem_cons_self ..)
    have hs : contig a (a + p.l) (subC p C) := by
      have h4 := contig_shift (p := p) hC.ctg
      have h5 : (pcI X p).bl = p.l := rfl
      rw [h5, Nat.add_zero, h1] at h4
      exact h4
    refine ⟨subC p C ++ R, contig_app r1 hs, fun x hx => ?_, fun x hx => ?_, ?_⟩
    · rcases List.mem_append.1 hx with h | h
      · obtain ⟨c, hc, rfl⟩ := List.mem_map.1 h
        have h6 : c.mf = decide (c.o + c.l < p.l) := hC.mf c hc
        have h7 : c.o + c.l ≤ p.l := ((contig_le hC.ctg).2 c hc).2.1
        show (p.mf || c.mf) = decide (p.o + c.o + c.l < n)
        rw [hpm, h6, Bool.eq_iff_iff, Bool.or_eq_true, decide_eq_true_eq, decide_eq_true_eq, decide_eq_true_eq]
        omega
      · exact r2 x h
    · rcases List.mem_append.1 hx with h | h
      · obtain ⟨c, hc, rfl⟩ := List.mem_map.1 h
        intro hxm
        have h6 : c.mf = decide (c.o + c.l < p.l) := hC.mf c hc
        have h7 : c.o + c.l ≤ p.l := ((contig_le hC.ctg).2 c hc).2.1
        show c.l % 8 = 0
        cases hcm : c.mf with
        | true => exact hC.m8 c hc hcm
        | false =>
          have hxm2 : (p.mf || c.mf) = true := hxm
          rw [hcm, Bool.or_false] at hxm2
          have h9 := h8 p (List.mem_cons_self ..) hxm2
          have h10 := hC.o8 c hc
          rw [hcm] at h6
          have h11 : ¬ c.o + c.l < p.l := of_decide_eq_false h6.symm
          omega
      · exact r3 x h
    · rw [List.map_cons, List.flatMap_cons, r4, hL, List.map_append]
      congr 1
      unfold subC
      rw [List.map_map]
      refine List.map_congr_left fun c hc => ?_
      exact piece_pc (hC.mf c hc)
theorem cuts_go {X : Ip} {n : Nat} {mtu narrow : Int} (hm : X.mf = false) (ho : X.off = 0) (hn : X.bl = n) (h1 : cutErr X mtu = 0) (h2 : ∀ Y ∈ cutL X mtu, cutErr Y narrow = 0) : ∃ R, (cutL X mtu).flatMap (fun Y => cutL Y narrow) = R.map (pcI X) ∧ GoW X n R [] := by
  rcases Nat.eq_zero_or_pos n with h0 | h0
  · have hL : cutL X mtu = [pieceIp X 0 0] := by
      rcases (cutErr_zero h1).way with hw | ⟨hw, z1, z2, z3, z4, z5⟩
      · rw [cutL_one h1 hw, hn, h0]
      · omega
    rw [hL] at h2 ⊢
    have e2 := h2 _ (List.mem_singleton.2 rfl)
    have hb : (pieceIp X 0 0).bl = 0 := rfl
    have hL2 : cutL (pieceIp X 0 0) narrow = [pieceIp (pieceIp X 0 0) 0 0] := by
      rcases (cutErr_zero e2).way with hw | ⟨hw, z1, z2, z3, z4, z5⟩
      · rw [cutL_one e2 hw, hb]
      · omega
    refine ⟨[⟨0, 0, false⟩], ?_, .inr ⟨rfl, .inr (by rw [h0])⟩⟩
    rw [List.flatMap_cons, List.flatMap_nil, hL2]
    simp [pieceIp, pcI, hm, ho]
    omega
  · obtain ⟨C, hC, hL⟩ := cut_pieces h1 (by omega)
    rw [hn] at hC
    have hL2 : cutL X mtu = C.map (pcI X) := by
      rw [hL]
      exact List.map_congr_left fun c hc => piece_x hm ho (by rw [hn]; exact hC.mf c hc)
    rw [hL2] at h2 ⊢
    obtain ⟨R, r1, r2, r3, r4⟩ := join_cuts (X := X) (narrow := narrow) hC.ctg hC.mf hC.m8 (fun p hp => h2 _ (List.mem_map.2 ⟨p, hp, rfl⟩))
    have hR : CutOf n R := ⟨r1, r2, r3⟩
    refine ⟨R, r4, ?_⟩
    by_cases h3 : 2 ≤ R.length
    · exact gw_start hR h3
    · match hRR : R, r1 with
      | [], r1 => have h' : 0 = n := r1; omega
      | [r], ⟨q1, q2, q3⟩ =>
        have q4 : 0 + r.l = n := q3
        have q5 := r2 r (by rw [hRR] at *; exact List.mem_singleton.2 rfl)
        refine .inr ⟨rfl, .inr ?_⟩
        obtain ⟨o, l, mf⟩ := r
        simp only at q1 q4 q5
        rw [decide_eq_false (show ¬ o + l < n by omega)] at q5
        rw [q1, q5, show l = n by omega]
      | x :: y :: R', _ => exact absurd (by simp) h3
end Go.Proofs.Ytgjppmkadmfibaa
