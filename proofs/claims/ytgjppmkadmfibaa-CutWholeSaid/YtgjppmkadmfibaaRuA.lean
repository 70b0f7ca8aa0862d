/- Pieces of a packet, in any order, are put together (plain). -/
import Derived.Test.YtgjppmkadmfibaaRtL
set_option linter.unusedVariables false
set_option maxRecDepth 100000
set_option linter.unusedSimpArgs false
namespace Go.Proofs.Ytgjppmkadmfibaa
open Go.RowKit
/-- A piece: where it begins, how long it is, and whether more follow. -/
structure Pc where
  o : Nat
  l : Nat
  mf : Bool
def pcI (X : Ip) (p : Pc) : Ip := { X with mf := p.mf, off := (p.o : Int), bl := p.l, body := fun i => X.body (p.o + i) }
def pcO (X : Ip) (p : Pc) : Od := ⟨(p.o : Int), p.l, fun i => X.body (p.o + i)⟩
/-- Pieces that follow each other from a to n. -/
def contig : Nat → Nat → List Pc → Prop
  | a, n, [] => a = n
  | a, n, p :: P => p.o = a ∧ 0 < p.l ∧ contig (a + p.l) n P
/-- A packet of n bytes is cut. -/
structure CutOf (n : Nat) (P : List Pc) : Prop where
  ctg : contig 0 n P
  mf : ∀ p ∈ P, p.mf = decide (p.o + p.l < n)
  m8 : ∀ p ∈ P, p.mf = true → p.l % 8 = 0
theorem contig_le {n : Nat} : ∀ {a : Nat} {P : List Pc}, contig a n P → a ≤ n ∧ ∀ p ∈ P, a ≤ p.o ∧ p.o + p.l ≤ n ∧ 0 < p.l
  | a, [], h => ⟨Nat.le_of_eq h, fun p hp => by cases hp⟩
  | a, q :: P, ⟨h1, h2, h3⟩ => by
    obtain ⟨h4, h5⟩ := contig_le h3
    refine ⟨by omega, fun p hp => ?_⟩
    rcases List.mem_cons.1 hp with rfl | hp
    · omega
    · have := h5 p hp; omega
theorem contig_pw {n : Nat} : ∀ {a : Nat} {P : List Pc}, contig a n P → P.Pairwise (fun p q => p.o + p.l ≤ q.o)
  | _, [], _ => List.Pairwise.nil
  | a, q :: P, ⟨h1, _, h3⟩ => List.pairwise_cons.2 ⟨fun p hp => by have := (contig_le h3).2 p hp; omega, contig_pw h3⟩
def lenP (P : List Pc) : Nat := (P.map (·.l)).sum
theorem contig_len {n : Nat} : ∀ {a : Nat} {P : List Pc}, contig a n P → a + lenP P = n
  | a, [], h => by have h' : a = n := h; simpa [lenP] using h'
  | a, q :: P, ⟨h1, _, h3⟩ => by
    have := contig_len h3
    unfold lenP at *
    rw [List.map_cons, List.sum_cons]
    omega
theorem contig_last {n : Nat} : ∀ {a : Nat} {P : List Pc}, contig a n P → P ≠ [] → ∃ p ∈ P, p.o + p.l = n
  | a, [], _, hn => absurd rfl hn
  | a, [q], ⟨h1, _, h3⟩, _ => ⟨q, List.mem_cons_self .., by have h4 : a + q.l = n := h3; omega⟩
  | a, q :: r :: P, ⟨h1, _, h3⟩, _ => by
    obtain ⟨p, hp, h⟩ := contig_last h3 (by simp)
    exact ⟨p, List.mem_cons_of_mem _ hp, h⟩
theorem contig_gap {X : Ip} {n : Nat} : ∀ {a : Nat} {P : List Pc}, contig a n P → gapGo (a : Int) (P.map (pcO X)) = true
  | _, [], _ => rfl
  | a, q :: P, ⟨h1, _, h3⟩ => by
    have h4 := contig_gap (X := X) h3
    rw [List.map_cons]
    unfold gapGo
    rw [Bool.and_eq_true]
    refine ⟨?_, ?_⟩
    · show ((q.o : Int) == (a : Int)) = true
      rw [h1]; simp
    · show gapGo ((a : Int) + (q.l : Int)) _ = true
      rw [← Int.natCast_add]; exact h4
theorem contig_cat {X : Ip} {n : Nat} : ∀ {a : Nat} {P : List Pc}, contig a n P → ∀ j, a + j < n → catF (P.map (pcO X)) j = X.body (a + j)
  | a, [], h, j, hj => by have h' : a = n := h; omega
  | a, q :: P, ⟨h1, _, h3⟩, j, hj => by
    rw [List.map_cons]
    unfold catF
    show (if j < q.l then X.body (q.o + j) else catF (P.map (pcO X)) (j - q.l)) = _
    split
    · rw [h1]
    · rw [contig_cat h3 (j - q.l) (by omega)]
      congr 1; omega
theorem CutOf.o8 {n : Nat} {P : List Pc} (h : CutOf n P) : ∀ p ∈ P, p.o % 8 = 0 := by
  have key : ∀ (P : List Pc) (a : Nat), contig a n P → a % 8 = 0 → (∀ p ∈ P, p.mf = decide (p.o + p.l < n)) → (∀ p ∈ P, p.mf = true → p.l % 8 = 0) → ∀ p ∈ P, p.o % 8 = 0 := by
    intro P
    induction P with
    | nil => intro a _ _ _ _ p hp; cases hp
    | cons q P ih =>
      intro a hc h8 hm h8' p hp
      obtain ⟨h1, h2, h3⟩ := hc
      rcases List.mem_cons.1 hp with rfl | hp'
      · rw [h1]; exact h8
      · have hlt : q.o + q.l < n := by
          have := (contig_le h3).2 p hp'
          omega
        have h4 := h8' q (List.mem_cons_self ..) (by rw [hm q (List.mem_cons_self ..)]; exact decide_eq_true hlt)
        exact ih (a + q.l) h3 (by omega) (fun x hx => hm x (List.mem_cons_of_mem _ hx)) (fun x hx => h8' x (List.mem_cons_of_mem _ hx)) p hp'
  exact key P 0 h.ctg rfl h.mf h.m8
theorem CutOf.piece {n : Nat} {P : List Pc} (h : CutOf n P) (h2 : 2 ≤ P.length) : ∀ p ∈ P, p.mf = true ∨ 0 < p.o := fun p hp => by
  cases hm : p.mf with
  | true => exact .inl rfl
  | false =>
    right
    have h3 := h.mf p hp
    rw [hm] at h3
    have h4 : ¬ p.o + p.l < n := of_decide_eq_false h3.symm
    cases P with
    | nil => cases hp
    | cons q P =>
      cases P with
      | nil => simp at h2
      | cons r P =>
        obtain ⟨c1, c2, c3, c4, c5⟩ := h.ctg
        have h5 := (contig_le c5).1
        rcases List.mem_cons.1 hp with rfl | hp
        · omega
        · have h6 := (contig_le (show contig (0 + q.l) n (r :: P) from ⟨c3, c4, c5⟩)).2 p hp
          omega
/-- Two pieces apart from each other. -/
def ApP (p q : Pc) : Prop := p.o + p.l ≤ q.o ∨ q.o + q.l ≤ p.o
theorem ApP.symm {p q : Pc} (h : ApP p q) : ApP q p := h.elim .inr .inl
theorem CutOf.ap {n : Nat} {P T : List Pc} (h : CutOf n P) (hT : T.Perm P) : T.Pairwise ApP :=
  (List.Perm.pairwise_iff (fun h => ApP.symm h) hT).2 ((contig_pw h.ctg).imp fun h => .inl h)
theorem lenP_perm {P T : List Pc} (h : T.Perm P) : lenP T = lenP P := by
  unfold lenP
  exact (h.map _).sum_nat
theorem lenP_app (A B : List Pc) : lenP (A ++ B) = lenP A + lenP B := by unfold lenP; rw [List.map_append, List.sum_append]
theorem heldO_perm {F G : List Od} (h : F.Perm G) : heldO F = heldO G := by
  unfold heldO
  exact (h.map _).sum_nat
theorem heldO_pc (X : Ip) (T : List Pc) : heldO (T.map (pcO X)) = lenP T := by
  unfold heldO lenP
  rw [List.map_map]
  rfl
theorem insOd_perm (r : Od) : ∀ F : List Od, (insOd F r).Perm (r :: F)
  | [] => List.Perm.refl _
  | f :: F => by
    unfold insOd
    split
    · exact ((insOd_perm r F).cons f).trans (List.Perm.swap ..)
    · exact List.Perm.refl _
theorem insOd_sorted {r : Od} : ∀ {F : List Od}, F.Pairwise (fun f g => f.k < g.k) → (∀ f ∈ F, f.k ≠ r.k) → (insOd F r).Pairwise (fun f g => f.k < g.k)
  | [], _, _ => List.pairwise_singleton _ _
  | f :: F, h, hne => by
    obtain ⟨h1, h2⟩ := List.pairwise_cons.1 h
    unfold insOd
    split
    · rename_i hlt
      refine List.pairwise_cons.2 ⟨fun g hg => ?_, insOd_sorted h2 fun g hg => hne g (List.mem_cons_of_mem _ hg)⟩
      rcases List.mem_cons.1 ((insOd_perm r F).subset hg) with rfl | hg
      · exact hlt
      · exact h1 g hg
    · rename_i hge
      have h3 := hne f (List.mem_cons_self ..)
      refine List.pairwise_cons.2 ⟨fun g hg => ?_, h⟩
      rcases List.mem_cons.1 hg with rfl | hg
      · omega
      · have := h1 g hg; omega
/-- What the buffer of X is behind the pieces T. -/
structure WhB (X : Ip) (n : Nat) (T : List Pc) (b : Bq) : Prop where
  src : b.src = X.src
  dst : b.dst = X.dst
  id : b.id = X.id
  proto : b.proto = X.proto
  runs : b.runs.Perm (T.map (pcO X))
  sorted : b.runs.Pairwise (fun f g => f.k < g.k)
  total : b.total = if T.any (fun p => !p.mf) then (n : Int) else -1
  head : T.any (fun p => p.o == 0) = true → b.head = headI X
theorem WhB.new (X : Ip) (n : Nat) (now : Int) (p : Pc) : WhB X n [] (newQ (pcI X p) now) := ⟨rfl, rfl, rfl, rfl, List.Perm.refl _, List.Pairwise.nil, rfl, fun h => by simp at h⟩
section
variable {X : Ip} {n : Nat} {P T R : List Pc} {b : Bq} {p : Pc}
theorem CutOf.info (hP : CutOf n P) (hpm : (p :: T ++ R).Perm P) : p ∈ P ∧ p.o + p.l ≤ n ∧ 0 < p.l ∧ (∀ q ∈ T, ApP p q ∧ q.o + q.l ≤ n ∧ 0 < q.l ∧ q ∈ P) ∧ lenP T + p.l + lenP R = n := by
  have hpp : p ∈ P := hpm.subset (by simp)
  have h1 := (contig_le hP.ctg).2 p hpp
  have h2 := hP.ap hpm
  rw [List.cons_append, List.pairwise_cons] at h2
  refine ⟨hpp, h1.2.1, h1.2.2, fun q hq => ?_, ?_⟩
  · have hqp : q ∈ P := hpm.subset (by simp [hq])
    have h3 := (contig_le hP.ctg).2 q hqp
    exact ⟨h2.1 q (List.mem_append_left _ hq), h3.2.1, h3.2.2, hqp⟩
  · have h3 := contig_len hP.ctg
    rw [← lenP_perm hpm, List.cons_append] at h3
    have h4 : lenP (p :: (T ++ R)) = p.l + lenP (T ++ R) := by unfold lenP; rw [List.map_cons, List.sum_cons]
    rw [h4, lenP_app] at h3
    omega
theorem WhB.mem (h : WhB X n T b) {f : Od} (hf : f ∈ b.runs) : ∃ q ∈ T, pcO X q = f := List.mem_map.1 (h.runs.subset hf)
theorem last_one (hP : CutOf n P) (hpm : (p :: T ++ R).Perm P) (ha : T.any (fun p => !p.mf) = true) : p.mf = true := by
  obtain ⟨hpp, h1, h2, h3, _⟩ := hP.info hpm
  obtain ⟨q, hq, hqm⟩ := List.any_eq_true.1 ha
  obtain ⟨h4, h5, h6, h7⟩ := h3 q hq
  have h8 := hP.mf q h7
  have h9 : q.mf = false := by simpa using hqm
  rw [h9] at h8
  have h10 : ¬ q.o + q.l < n := of_decide_eq_false h8.symm
  rw [hP.mf p hpp]
  refine decide_eq_true ?_
  rcases h4 with h4 | h4 <;> omega
theorem WhB.noClash (hP : CutOf n P) (hpm : (p :: T ++ R).Perm P) (h : WhB X n T b) : clashB b (pcI X p) = false := by
  obtain ⟨hpp, h1, h2, h3, _⟩ := hP.info hpm
  unfold clashB
  rw [Bool.or_eq_false_iff]
  constructor
  · rw [h.total]
    cases ha : T.any (fun p => !p.mf) with
    | false => simp
    | true =>
      have hm := last_one hP hpm ha
      simp only [if_true]
      show (decide (0 ≤ (n : Int)) && (!p.mf || decide ((n : Int) < (p.o : Int) + (p.l : Int)))) = false
      rw [hm, decide_eq_false (show ¬ (n : Int) < (p.o : Int) + (p.l : Int) by omega)]
      simp
  · cases hy : b.runs.any (clashR (pcI X p).off ((pcI X p).off + (pcI X p).bl) (pcI X p).mf) with
    | false => rfl
    | true =>
      obtain ⟨f, hf, hc⟩ := List.any_eq_true.1 hy
      obtain ⟨q, hq, rfl⟩ := h.mem hf
      obtain ⟨h4, h5, h6, h7⟩ := h3 q hq
      unfold clashR at hc
      rw [Bool.or_eq_true, Bool.and_eq_true, Bool.and_eq_true, decide_eq_true_eq, decide_eq_true_eq, decide_eq_true_eq] at hc
      have hc2 : ((p.o : Int) < (q.o : Int) + (q.l : Int) ∧ (q.o : Int) < (p.o : Int) + (p.l : Int)) ∨ (!p.mf) = true ∧ (p.o : Int) + (p.l : Int) < (q.o : Int) + (q.l : Int) := hc
      rcases hc2 with ⟨c1, c2⟩ | ⟨c1, c2⟩
      · rcases h4 with h4 | h4 <;> omega
      · have h8 := hP.mf p hpp
        have h9 : p.mf = false := by simpa using c1
        rw [h9] at h8
        have h10 : ¬ p.o + p.l < n := of_decide_eq_false h8.symm
        omega
theorem WhB.held (h : WhB X n T b) : heldO b.runs = lenP T := by rw [heldO_perm h.runs, heldO_pc]
theorem WhB.add (hP : CutOf n P) (hpm : (p :: T ++ R).Perm P) (h : WhB X n T b) : WhB X n (p :: T) (addQ b (pcI X p)) := by
  obtain ⟨hpp, h1, h2, h3, _⟩ := hP.info hpm
  refine ⟨h.src, h.dst, h.id, h.proto, ?_, ?_, ?_, ?_⟩
  · exact (insOd_perm (pcO X p) b.runs).trans ((h.runs.cons _))
  · refine insOd_sorted h.sorted fun f hf => ?_
    obtain ⟨q, hq, rfl⟩ := h.mem hf
    obtain ⟨h4, h5, h6, h7⟩ := h3 q hq
    show (q.o : Int) ≠ (p.o : Int)
    rcases h4 with h4 | h4 <;> omega
  · show (if p.mf then b.total else (p.o : Int) + (p.l : Int)) = _
    rw [List.any_cons]
    cases hm : p.mf with
    | true => simp only [if_true, Bool.not_true, Bool.false_or]; exact h.total
    | false =>
      have h8 := hP.mf p hpp
      rw [hm] at h8
      have h10 : ¬ p.o + p.l < n := of_decide_eq_false h8.symm
      simp only [Bool.not_false, Bool.true_or, if_true, Bool.false_eq_true, if_false]
      omega
  · intro ha
    rw [List.any_cons] at ha
    show (if (pcI X p).off = 0 then headI (pcI X p) else b.head) = _
    by_cases ho : p.o = 0
    · rw [if_pos (show (pcI X p).off = 0 from by show (p.o : Int) = 0; omega)]
      rfl
    · rw [if_neg (show ¬ (pcI X p).off = 0 from by show ¬ (p.o : Int) = 0; omega)]
      have h5 : (p.o == 0) = false := by simpa using ho
      rw [h5, Bool.false_or] at ha
      exact h.head ha
/-- What X must be. -/
structure WhX (X : Ip) (n : Nat) : Prop where
  may : mayB X = true
  mf : X.mf = false
  off : X.off = 0
  bl : X.bl = n
theorem pcI_may (hX : WhX X n) (hP : CutOf n P) (hn : n ≤ 65000) (hp : p ∈ P) : mayB (pcI X p) = true := by
  have hm := may_iff.1 hX.may
  have h1 := (contig_le hP.ctg).2 p hp
  have h2 := hP.o8 p hp
  refine may_iff.2 ⟨hm.tos, hm.ttl, hm.proto, hm.id, ?_, ?_, hm.ol, hm.ol4, ?_, ?_⟩
  · show 0 ≤ (p.o : Int) ∧ (p.o : Int) ≤ 65528
    omega
  · show (p.o : Int) % 8 = 0
    omega
  · have h3 := hm.fit
    have h4 := hX.off
    have h5 := hX.bl
    show 20 + (X.ol : Int) + (p.o : Int) + (p.l : Int) ≤ 65535
    omega
  · intro h
    exact ⟨hP.m8 p hp h, h1.2.2⟩
/-- The last piece: the packet is whole. -/
theorem WhB.whole (hX : WhX X n) (hP : CutOf n P) (hpm : T.Perm P) (hne : P ≠ []) (h : WhB X n T b) : gapGo 0 b.runs = true ∧ (heldO b.runs : Int) = b.total ∧ mayB (outI b) = true ∧ sameIp (outI b) X = true := by
  have hr : b.runs = P.map (pcO X) := by
    refine List.Perm.eq_of_pairwise (le := fun f g : Od => f.k < g.k) (fun f g _ _ h1 h2 => by omega) h.sorted ?_ (h.runs.trans (hpm.map _))
    rw [List.pairwise_map]
    refine ((contig_pw hP.ctg).imp_of_mem fun {a b} ha hb hab => ?_)
    have := (contig_le hP.ctg).2 a ha
    show (a.o : Int) < (b.o : Int)
    omega
  have hh : heldO b.runs = n := by rw [hr, heldO_pc]; have := contig_len hP.ctg; omega
  have ht : b.total = n := by
    obtain ⟨q, hq, hqn⟩ := contig_last hP.ctg hne
    rw [h.total, if_pos]
    refine List.any_eq_true.2 ⟨q, hpm.symm.subset hq, ?_⟩
    rw [hP.mf q hq, decide_eq_false (by omega)]; rfl
  have hd : b.head = headI X := by
    refine h.head ?_
    cases hPc : P with
    | nil => exact absurd hPc hne
    | cons q P' =>
      have hc := hP.ctg
      rw [hPc] at hc hpm
      exact List.any_eq_true.2 ⟨q, hpm.symm.subset (List.mem_cons_self ..), by rw [hc.1]; rfl⟩
  have ho : outI b = { headI X with bl := n, body := catF (P.map (pcO X)) } := by
    unfold outI
    rw [hd, hh, hr]
  refine ⟨by rw [hr]; exact contig_gap hP.ctg, by rw [hh, ht], ?_, ?_⟩
  · have hm := may_iff.1 hX.may
    rw [ho]
    refine may_iff.2 ⟨hm.tos, hm.ttl, hm.proto, hm.id, (show 0 ≤ (0 : Int) ∧ (0 : Int) ≤ 65528 from by decide), rfl, hm.ol, hm.ol4, ?_, fun h => by cases h⟩
    have h3 := hm.fit
    have h4 := hX.off
    have h5 := hX.bl
    show 20 + (X.ol : Int) + 0 + (n : Int) ≤ 65535
    omega
  · rw [ho]
    unfold sameIp headSame sameN
    have e1 := hX.mf
    have e2 := hX.off
    have e3 := hX.bl
    simp only [headI, e1, e2, e3, beq_self_eq_true, Bool.and_self, Bool.true_and, true_and, decide_eq_true_eq, Bool.and_eq_true]
    refine ⟨fun _ _ => trivial, fun i hi => ?_⟩
    rw [contig_cat hP.ctg i (by omega), Nat.zero_add]
/-- Not the last piece: something is missing. -/
theorem WhB.part (hP : CutOf n P) (hpm : (T ++ R).Perm P) (hR : R ≠ []) (h : WhB X n T b) : ((heldO b.runs : Int) == b.total) = false := by
  have h1 := contig_len hP.ctg
  rw [← lenP_perm hpm, lenP_app] at h1
  have h2 : 0 < lenP R := by
    cases R with
    | nil => exact absurd rfl hR
    | cons q R =>
      have := (contig_le hP.ctg).2 q (hpm.subset (by simp))
      unfold lenP
      rw [List.map_cons, List.sum_cons]
      omega
  rw [h.held, h.total]
  have : ((lenP T : Int)) ≠ (if T.any (fun p => !p.mf) then (n : Int) else -1) := by split <;> omega
  simpa using this
/-- The state of a pool behind some of the pieces. -/
def WhQ (X : Ip) (n : Nat) (P R : List Pc) (Q : List Bq) : Prop := ∃ T, (T ++ R).Perm P ∧ ((T = [] ∧ Q = []) ∨ (T ≠ [] ∧ ∃ b, Q = [b] ∧ WhB X n T b))
theorem WhQ.start (X : Ip) (n : Nat) (P : List Pc) : WhQ X n P P [] := ⟨[], List.Perm.refl _, .inl ⟨rfl, rfl⟩⟩
theorem end_step {R : List Pc} {b : Bq} (hX : WhX X n) (hP : CutOf n P) (hpm : (T ++ R).Perm P) (hne : P ≠ []) (h : WhB X n T b) : (R = [] → ∃ y, endQ [b] 0 b = ([], y, true, 0) ∧ sameIp y X = true) ∧ (R ≠ [] → endQ [b] 0 b = ([b], zeroIp, false, 0)) := by
  constructor
  · intro hR
    subst hR
    rw [List.append_nil] at hpm
    obtain ⟨h1, h2, h3, h4⟩ := h.whole hX hP hpm hne
    refine ⟨outI b, ?_, h4⟩
    unfold endQ
    rw [h1, h2, if_pos (by simp), if_pos h3]
    rfl
  · intro hR
    unfold endQ
    rw [h.part hP hpm hR, Bool.and_false]
    rfl
/-- A piece more. -/
theorem whQ_take {room life now : Int} {Q : List Bq} {k : Nat} (hX : WhX X n) (hP : CutOf n P) (hn : n ≤ 65000) (hroom : (n : Int) ≤ room) (hr : rightQ room life now Q = true) (h2 : 2 ≤ P.length) (h : WhQ X n P R Q) (hk : R[k]? = some p) :
    (R.eraseIdx k = [] → ∃ y, takeQ room life now Q (pcI X p) = ([], y, true, 0) ∧ sameIp y X = true) ∧
    (R.eraseIdx k ≠ [] → ∃ Q2, takeQ room life now Q (pcI X p) = (Q2, zeroIp, false, 0) ∧ WhQ X n P (R.eraseIdx k) Q2) := by
  obtain ⟨T, hpm, hQ⟩ := h
  have hne : P ≠ [] := fun h => by rw [h] at h2; simp at h2
  have hkl := (List.getElem?_eq_some_iff.1 hk).1
  have hRp : R.Perm (p :: R.eraseIdx k) := by
    have h3 : R = R.take k ++ p :: R.drop (k + 1) := by
      have h4 : R.drop k = p :: R.drop (k + 1) := by
        rw [List.drop_eq_getElem_cons hkl]
        rw [List.getElem?_eq_getElem hkl] at hk
        rw [Option.some.inj hk]
      rw [← h4, List.take_append_drop]
    have h5 : R.eraseIdx k = R.take k ++ R.drop (k + 1) := List.eraseIdx_eq_take_drop_succ ..
    rw [h5]
    exact (List.Perm.of_eq h3).trans List.perm_middle
  have hpm2 : (p :: T ++ R.eraseIdx k).Perm P := by
    refine List.Perm.trans ?_ hpm
    rw [List.cons_append]
    exact (List.perm_middle.symm).trans ((hRp.symm).append_left T)
  obtain ⟨hpp, h3, h4, h5, h6⟩ := hP.info hpm2
  have hpi : pieceB (pcI X p) = true := by
    unfold pieceB
    show (p.mf || ((p.o : Int) != 0)) = true
    rcases hP.piece h2 p hpp with h | h
    · rw [h]; rfl
    · rw [Bool.or_eq_true]
      right
      simp; omega
  have hmy := pcI_may hX hP hn hpp
  have hgood : (rightQ room life now Q && (mayB (pcI X p) && decide (0 < (pcI X p).bl))) = true := by
    rw [hr, hmy, decide_eq_true (show 0 < (pcI X p).bl from h4)]; rfl
  unfold takeQ
  rw [hpi, hgood]
  simp only [Bool.not_true, Bool.false_eq_true, if_false]
  rcases hQ with ⟨rfl, rfl⟩ | ⟨-, b, rfl, hb⟩
  · have hb2 := (WhB.new X n now p).add hP hpm2
    have he := end_step hX hP hpm2 hne hb2
    have hf : ¬ (([] : List Bq).length = 64 ∨ room < ((heldQ [] : Nat) : Int) + (pcI X p).bl) := by
      have : (pcI X p).bl = p.l := rfl
      rw [this]
      simp [heldQ]
      omega
    simp only [List.findIdx?_nil]
    rw [if_neg hf]
    exact ⟨he.1, fun hR => ⟨_, he.2 hR, p :: [], hpm2, .inr ⟨List.cons_ne_nil _ _, _, rfl, hb2⟩⟩⟩
  · have hb2 := hb.add hP hpm2
    have he := end_step hX hP hpm2 hne hb2
    have hmi : mineP (pcI X p) b = true := mineB_iff.2 (by unfold nmQ; rw [hb.src, hb.dst, hb.id, hb.proto]; rfl)
    have hfi : [b].findIdx? (mineP (pcI X p)) = some 0 := by simp [hmi]
    have hcl := hb.noClash hP hpm2
    have hf : ¬ room < ((heldQ [b] : Nat) : Int) + (pcI X p).bl := by
      have e1 : (pcI X p).bl = p.l := rfl
      have e2 : heldQ [b] = lenP T := by unfold heldQ; simp; exact hb.held
      rw [e1, e2]
      omega
    rw [hfi]
    simp only [List.getElem?_cons_zero]
    rw [if_neg (by rw [hcl]; simp), if_neg hf]
    exact ⟨he.1, fun hR => ⟨_, he.2 hR, p :: T, hpm2, .inr ⟨List.cons_ne_nil _ _, _, rfl, hb2⟩⟩⟩
/-- A packet that was not cut at all. -/
theorem take_all {room life now : Int} {Q : List Bq} {Y : Ip} (h : pieceB Y = false) : takeQ room life now Q Y = (Q, Y, true, 0) := by
  unfold takeQ
  rw [h]; rfl
/-- What is left, and what the pool holds: pieces of X, or X as it is. -/
def GoW (X : Ip) (n : Nat) (R : List Pc) (Q : List Bq) : Prop := (∃ P, CutOf n P ∧ 2 ≤ P.length ∧ R ≠ [] ∧ WhQ X n P R Q) ∨ (Q = [] ∧ (R = [] ∨ R = [⟨0, n, false⟩]))
theorem gw_done {Q : List Bq} (h : GoW X n [] Q) : Q = [] := by
  rcases h with ⟨P, _, _, h, _⟩ | h
  · exact absurd rfl h
  · exact h.1
theorem gw_start (hP : CutOf n P) (h2 : 2 ≤ P.length) : GoW X n P [] := .inl ⟨P, hP, h2, fun h => (by rw [h] at h2; simp at h2), WhQ.start X n P⟩
theorem gw_len {Q : List Bq} (h : GoW X n R Q) (hp : p ∈ R) : p.l ≤ n := by
  rcases h with ⟨P, hP, _, _, T, hpm, _⟩ | ⟨_, rfl | rfl⟩
  · have := (contig_le hP.ctg).2 p (hpm.subset (List.mem_append_right _ hp))
    omega
  · cases hp
  · rw [List.mem_singleton.1 hp]
    exact Nat.le_refl _
theorem gw_take {room life now : Int} {Q : List Bq} {k : Nat} (hX : WhX X n) (hn : n ≤ 65000) (hroom : (n : Int) ≤ room) (hr : rightQ room life now Q = true) (h : GoW X n R Q) (hk : R[k]? = some p) :
    (R.eraseIdx k = [] → ∃ y, takeQ room life now Q (pcI X p) = ([], y, true, 0) ∧ sameIp y X = true) ∧
    (R.eraseIdx k ≠ [] → ∃ Q2, takeQ room life now Q (pcI X p) = (Q2, zeroIp, false, 0) ∧ GoW X n (R.eraseIdx k) Q2) := by
  rcases h with ⟨P, hP, h2, hR, hW⟩ | ⟨rfl, rfl | rfl⟩
  · obtain ⟨h3, h4⟩ := whQ_take (life := life) hX hP hn hroom hr h2 hW hk
    refine ⟨h3, fun hne => ?_⟩
    obtain ⟨Q2, h5, h6⟩ := h4 hne
    exact ⟨Q2, h5, .inl ⟨P, hP, h2, hne, h6⟩⟩
  · simp at hk
  · have hk0 : k = 0 := by
      have := (List.getElem?_eq_some_iff.1 hk).1
      simp at this; exact this
    subst hk0
    have hp : p = ⟨0, n, false⟩ := by simpa using hk.symm
    subst hp
    refine ⟨fun _ => ⟨pcI X ⟨0, n, false⟩, take_all (by unfold pieceB pcI; rfl), ?_⟩, fun h => absurd rfl h⟩
    have e1 := hX.mf
    have e2 := hX.off
    have e3 := hX.bl
    unfold sameIp headSame sameN pcI
    simp [e1, e2, e3]
end
end Go.Proofs.Ytgjppmkadmfibaa
