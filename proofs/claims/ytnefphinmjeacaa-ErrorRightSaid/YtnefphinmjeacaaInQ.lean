/- Plain facts on a turn: the head's sum fits again, the names are the asked ones, the rest is as it was. -/
import Derived.Test.YtnefphinmjeacaaInP
import Derived.Test.YtnefphinmjeacaaSumPlain
set_option linter.unusedVariables false
set_option maxRecDepth 100000
set_option linter.unusedSimpArgs false
namespace Go.Proofs.Ytnefphinmjeacaa
open Go.RowKit
theorem w2_ne {xs : Nat → Int} {i k : Nat} {v : Int} (h1 : k ≠ i) (h2 : k ≠ i + 1) : w2 xs i v k = xs k := by
  unfold w2; rw [upd_other _ _ _ _ h2, upd_other _ _ _ _ h1]
theorem w2_hi {xs : Nat → Int} {i : Nat} {v : Int} : w2 xs i v i = v / 256 := by
  unfold w2; rw [upd_other _ _ _ _ (by omega), upd_same]
theorem w2_lo {xs : Nat → Int} {i : Nat} {v : Int} : w2 xs i v (i + 1) = v % 256 := by
  unfold w2; rw [upd_same]
theorem w2_congr {xs ys : Nat → Int} {i k : Nat} {v : Int} (h : xs k = ys k) : w2 xs i v k = w2 ys i v k := by
  unfold w2 upd; rw [h]
theorem wd_w2_ne {xs : Nat → Int} {i j : Nat} {v : Int} (h : j + 1 < i ∨ i + 1 < j) : wd (w2 xs i v) j = wd xs j := by
  unfold wd; rw [w2_ne (by omega) (by omega), w2_ne (by omega) (by omega)]
theorem rawN_w2 (xs : Nat → Int) (i : Nat) (v : Int) (n : Nat) (he : i % 2 = 0) (hn : i + 2 ≤ n) : rawN (w2 xs i v) n = rawN xs n + v - wd xs i := by
  unfold w2 wd
  rw [rawN_upd, rawN_upd, upd_other _ _ _ _ (by omega), if_pos (show i + 1 < n by omega), if_neg (show ¬ (i + 1) % 2 = 0 by omega), if_pos (show i < n by omega), if_pos he]
  omega
theorem rawN_pos {xs : Nat → Int} {n : Nat} (hn : 0 < n) (h0 : 0 < xs 0) (hx : ∀ i, i < n → 0 ≤ xs i ∧ xs i ≤ 255) : 0 < rawN xs n := by
  have h1 := rawN_upd xs 0 0 n
  rw [if_pos hn, if_pos rfl] at h1
  have h2 := rawN_bd (upd xs 0 0) n (fun i hi => by unfold upd; split; omega; exact hx i hi)
  omega
theorem mendI_mod {c o n : Int} (hc : 0 ≤ c ∧ c ≤ 65535) (ho : 0 ≤ o ∧ o ≤ 65535) (hn : 0 ≤ n ∧ n ≤ 65535) : (mendI c o n - (c + o - n)) % 65535 = 0 := by
  unfold mendI foldI
  split <;> omega
theorem wholeErr_of {xs : Nat → Int} {l : Nat} (h : WholeOk xs l) : wholeErr xs l = 0 := by
  have := h.l20
  unfold wholeErr
  rw [if_neg (by omega), if_neg (by simp only [Decidable.not_not]; exact ⟨h.ver, h.s20, h.sl⟩), if_neg (by simp only [Decidable.not_not]; exact h.st), if_neg (by simp only [Decidable.not_not]; exact h.sum), if_neg h.told]
/-- The turned bytes, place by place. -/
structure Tn (xs ys : Nat → Int) (S A at_ : Nat) (pr addr port : Int) : Prop where
  low : ∀ i, i < S → i ≠ 10 → i ≠ 11 → (i < A ∨ A + 4 ≤ i) → ys i = xs i
  hi : wd ys A = addr / 65536
  lo : wd ys (A + 2) = addr % 65536
  port : wd ys (S + at_) = port
  high : ∀ j, j ≠ at_ → j ≠ at_ + 1 → (pr = 1 → j ≠ 2 ∧ j ≠ 3) → (pr = 17 → j ≠ 6 ∧ j ≠ 7) → (pr ≠ 1 → pr ≠ 17 → j ≠ 16 ∧ j ≠ 17) → ys (S + j) = xs (S + j)
  sum : sumN ys S = 65535
theorem tn2_at {xs : Nat → Int} {l A P : Nat} {addr port : Int} {k : Nat} (h1 : (aboutIp xs l).proto = 1 → k ≠ ipSize xs + 2 ∧ k ≠ ipSize xs + 3) (h2 : (aboutIp xs l).proto = 17 → k ≠ ipSize xs + 6 ∧ k ≠ ipSize xs + 7)
    (h3 : (aboutIp xs l).proto ≠ 1 → (aboutIp xs l).proto ≠ 17 → k ≠ ipSize xs + 16 ∧ k ≠ ipSize xs + 17) : tn2 xs l A P addr port k = tn1 xs A addr k := by
  unfold tn2
  by_cases p1 : (aboutIp xs l).proto = 1
  · have := h1 p1
    rw [if_pos p1, w2_ne (by omega) (by omega)]
  · rw [if_neg p1]
    by_cases p2 : (aboutIp xs l).proto = 17
    · have := h2 p2
      rw [if_pos p2]
      split
      · rfl
      · rw [w2_ne (by omega) (by omega)]
    · have := h3 p1 p2
      rw [if_neg p2]
      split
      · rw [w2_ne (by omega) (by omega)]
      · rfl
theorem tn_of {kind : Int} {xs : Nat → Int} {l A P : Nat} {addr port : Int} (hA : (A = 12 ∧ P = 0) ∨ (A = 16 ∧ P = 2)) (h0 : nmErr kind xs l = 0) (hx : ∀ i, i < l → 0 ≤ xs i ∧ xs i ≤ 255) (hy : ∀ i, i < l → 0 ≤ tnB xs l A P addr port i ∧ tnB xs l A P addr port i ≤ 255)
    (haddr : 0 ≤ addr ∧ addr ≤ 4294967295) : Tn xs (tnB xs l A P addr port) (ipSize xs) A (tnAt (aboutIp xs l) P) (aboutIp xs l).proto addr port := by
  obtain ⟨hk, hW, hoff, hbl, hpr⟩ := nmErr_zero h0
  have hS20 := hW.s20
  have hSl := hW.sl
  have hat : tnAt (aboutIp xs l) P ≤ 4 := by unfold tnAt; split <;> omega
  obtain ⟨T, hT⟩ : ∃ T, tnAt (aboutIp xs l) P = T := ⟨_, rfl⟩
  have e1 : ∀ i, i < ipSize xs → tnB xs l A P addr port i = w2 (w2 (tn1 xs A addr) A (addr / 65536)) (A + 2) (addr % 65536) i := fun i hi => by
    unfold tnB
    refine w2_congr (w2_congr ?_)
    rw [w2_ne (by omega) (by omega)]
    exact tn2_at (fun _ => by omega) (fun _ => by omega) (fun _ _ => by omega)
  have hlow : ∀ i, i < ipSize xs → i ≠ 10 → i ≠ 11 → (i < A ∨ A + 4 ≤ i) → tnB xs l A P addr port i = xs i := fun i hi h1 h2 h3 => by
    rw [e1 i hi, w2_ne (by omega) (by omega), w2_ne (by omega) (by omega)]
    unfold tn1
    rw [w2_ne (by omega) (by omega)]
  refine ⟨hlow, ?_, ?_, ?_, ?_, ?_⟩
  · unfold tnB
    rw [wd_w2_ne (by omega), wd_w2]
  · unfold tnB
    rw [wd_w2]
  · unfold tnB
    rw [wd_w2_ne (by omega), wd_w2_ne (by omega), wd_w2]
  · intro j h1 h2 h3 h4 h5
    unfold tnB
    rw [hT] at h1 h2 ⊢
    rw [w2_ne (by omega) (by omega), w2_ne (by omega) (by omega), w2_ne (by omega) (by omega), tn2_at (fun h => by have := h3 h; omega) (fun h => by have := h4 h; omega) (fun h h' => by have := h5 h h'; omega)]
    unfold tn1
    rw [w2_ne (by omega) (by omega)]
  · have c10 := wd_bd (hx 10 (by omega)) (hx 11 (by omega))
    have cA := wd_bd (i := A) (hx A (by omega)) (hx (A + 1) (by omega))
    have cB := wd_bd (i := A + 2) (hx (A + 2) (by omega)) (hx (A + 2 + 1) (by omega))
    obtain ⟨M1, hM1⟩ : ∃ m, mendI (wd xs 10) (wd xs A) (addr / 65536) = m := ⟨_, rfl⟩
    obtain ⟨M2, hM2⟩ : ∃ m, mendI M1 (wd xs (A + 2)) (addr % 65536) = m := ⟨_, rfl⟩
    have b1 := mendI_bd (c := wd xs 10) (o := wd xs A) (n := addr / 65536) c10 cA (by omega)
    have b2 := mendI_mod (c := wd xs 10) (o := wd xs A) (n := addr / 65536) c10 cA (by omega)
    rw [hM1] at b1 b2
    have b3 := mendI_mod (c := M1) (o := wd xs (A + 2)) (n := addr % 65536) b1 cB (by omega)
    rw [hM2] at b3
    have eM : mendW (wd xs 10) (tnNm xs A addr) 2 = M2 := by
      show mendI (mendI (wd xs 10) (wd xs A) (addr / 65536)) (wd xs (A + 2)) (addr % 65536) = M2
      rw [hM1, hM2]
    have hr : rawN (tnB xs l A P addr port) (ipSize xs) = rawN xs (ipSize xs) + (M2 - wd xs 10) + (addr / 65536 - wd xs A) + (addr % 65536 - wd xs (A + 2)) := by
      rw [rawN_congr _ e1, rawN_w2 _ _ _ _ (by omega) (by omega), rawN_w2 _ _ _ _ (by omega) (by omega), wd_w2_ne (by omega)]
      unfold tn1
      rw [eM, rawN_w2 _ _ _ _ (by omega) (by omega), wd_w2_ne (by omega), wd_w2_ne (by omega)]
      omega
    have hs := hW.sum
    unfold sumN at hs ⊢
    have p1 := rawN_bd xs (ipSize xs) (fun i hi => hx i (by omega))
    rw [foldI_iff p1.1] at hs
    have h00 : tnB xs l A P addr port 0 = xs 0 := hlow 0 (by omega) (by omega) (by omega) (by omega)
    have hv := hW.ver
    have p2 := rawN_pos (xs := tnB xs l A P addr port) (n := ipSize xs) (by omega) (by rw [h00]; omega) (fun i hi => hy i (by omega))
    rw [foldI_iff (by omega)]
    refine ⟨p2, ?_⟩
    rw [hr]
    omega
/-- Behind a turn the packet is whole again; its fields. -/
theorem Tn.whole {xs ys : Nat → Int} {S A T l : Nat} {pr addr port : Int} (h : Tn xs ys S A T pr addr port) (hA : A = 12 ∨ A = 16) (hS : ipSize xs = S) (hW : WholeOk xs l) :
    WholeOk ys l ∧ ipSize ys = S ∧ ipTotal ys = ipTotal xs := by
  have hS20 := hW.s20
  have y0 := h.low 0 (by omega) (by omega) (by omega) (by omega)
  have y2 := h.low 2 (by omega) (by omega) (by omega) (by omega)
  have y3 := h.low 3 (by omega) (by omega) (by omega) (by omega)
  have hs : ipSize ys = S := by rw [← hS]; unfold ipSize; rw [y0]
  have ht : ipTotal ys = ipTotal xs := by unfold ipTotal; rw [y2, y3]
  refine ⟨⟨hW.l20, by rw [y0]; exact hW.ver, by rw [hs, ← hS]; exact hW.s20, by rw [hs, ← hS]; exact hW.sl, by rw [hs, ht, ← hS]; exact hW.st, by rw [hs]; exact h.sum, by rw [hs, ht, ← hS]; exact hW.told⟩, hs, ht⟩
structure SameHead (p q : Ip) : Prop where
  tos : q.tos = p.tos
  id : q.id = p.id
  df : q.df = p.df
  mf : q.mf = p.mf
  off : q.off = p.off
  ttl : q.ttl = p.ttl
  proto : q.proto = p.proto
  ol : q.ol = p.ol
  bl : q.bl = p.bl
  opts : ∀ i, i < p.ol → q.opts i = p.opts i
theorem Tn.head {xs ys : Nat → Int} {S A T l : Nat} {pr addr port : Int} (h : Tn xs ys S A T pr addr port) (hA : A = 12 ∨ A = 16) (hS : ipSize xs = S) (hW : WholeOk xs l) : SameHead (aboutIp xs l) (aboutIp ys l) := by
  obtain ⟨_, hs, ht⟩ := h.whole hA hS hW
  have hS20 := hW.s20
  have y := fun i (hi : i < 10) => h.low i (by omega) (by omega) (by omega) (by omega)
  have y1 := y 1 (by omega); have y4 := y 4 (by omega); have y5 := y 5 (by omega); have y6 := y 6 (by omega); have y7 := y 7 (by omega); have y8 := y 8 (by omega); have y9 := y 9 (by omega)
  have hf : ipFlags ys = ipFlags xs := by unfold ipFlags; rw [y6, y7]
  unfold aboutIp
  rw [hs, ht, hS]
  refine ⟨y1, ?_, ?_, ?_, ?_, y8, y9, rfl, rfl, fun i hi => h.low (20 + i) (by simp only [mkIp] at hi; omega) (by omega) (by omega) (by omega)⟩
  · simp only [mkIp]; rw [y4, y5]
  · simp only [mkIp]; rw [hf]
  · simp only [mkIp]; rw [hf]
  · simp only [mkIp]; rw [hf]
/-- The names behind a turn. -/
theorem tn_names {kind : Int} {xs ys : Nat → Int} {l A P : Nat} {addr port : Int} (hA : (A = 12 ∧ P = 0) ∨ (A = 16 ∧ P = 2)) (h0 : nmErr kind xs l = 0) (hx : ∀ i, i < l → 0 ≤ xs i ∧ xs i ≤ 255)
    (h : Tn xs ys (ipSize xs) A (tnAt (aboutIp xs l) P) (aboutIp xs l).proto addr port) (haddr : 0 ≤ addr ∧ addr ≤ 4294967295) :
    nmErr kind ys l = 0 ∧ nmTup ys l = if A = 12 then ⟨(nmTup xs l).proto, addr, port, (nmTup xs l).dst, if (nmTup xs l).proto = 1 then port else (nmTup xs l).dport⟩
      else ⟨(nmTup xs l).proto, (nmTup xs l).src, if (nmTup xs l).proto = 1 then port else (nmTup xs l).sport, addr, port⟩ := by
  obtain ⟨hk, hW, hoff, hbl, hpr⟩ := nmErr_zero h0
  have hA' : A = 12 ∨ A = 16 := by omega
  obtain ⟨hWy, hs, ht⟩ := h.whole hA' rfl hW
  have hH := h.head hA' rfl hW
  have hS20 := hW.s20
  have hb : ∀ j, (aboutIp ys l).body j = ys (ipSize xs + j) := fun j => by unfold aboutIp; rw [hs]; rfl
  have hbx : ∀ j, (aboutIp xs l).body j = xs (ipSize xs + j) := fun j => rfl
  have hsrc : ∀ zs : Nat → Int, (aboutIp zs l).src = wd zs 12 * 65536 + wd zs 14 := fun zs => rfl
  have hdst : ∀ zs : Nat → Int, (aboutIp zs l).dst = wd zs 16 * 65536 + wd zs 18 := fun zs => rfl
  have hP : (nmTup xs l).proto = (aboutIp xs l).proto := rfl
  constructor
  · have ha : aboutErr kind ys l = 0 := by unfold aboutErr; rw [hk, if_neg (by decide)]; exact wholeErr_of hWy
    unfold nmErr
    rw [if_neg (by rw [ha]; simp), if_neg (by rw [hH.off, hoff]; simp), if_neg (by rw [hH.bl]; omega), hH.proto]
    rcases hpr with h6 | h17 | ⟨h1, h2⟩
    · rw [if_pos (.inl h6)]
    · rw [if_pos (.inr h17)]
    · rw [if_neg (by rw [h1]; decide), if_pos]
      refine ⟨h1, ?_⟩
      have hat : tnAt (aboutIp xs l) P = 4 := by unfold tnAt; rw [if_pos h1]
      rw [hb, h.high 0 (by omega) (by omega) (fun _ => by omega) (fun _ => by omega) (fun _ _ => by omega), ← hbx]
      exact h2
  · have hwb : ∀ j, wd (aboutIp ys l).body j = wd ys (ipSize xs + j) := fun j => by unfold wd; rw [hb, hb]; rfl
    have hwbx : ∀ j, wd (aboutIp xs l).body j = wd xs (ipSize xs + j) := fun j => rfl
    have hsame : ∀ j, j ≠ tnAt (aboutIp xs l) P → j ≠ tnAt (aboutIp xs l) P + 1 → j + 1 ≠ tnAt (aboutIp xs l) P → j < 4 → (aboutIp xs l).proto ≠ 1 → wd ys (ipSize xs + j) = wd xs (ipSize xs + j) := fun j q1 q2 q3 q4 q5 => by
      unfold wd
      rw [h.high j q1 q2 (fun e => absurd e q5) (fun _ => by omega) (fun _ _ => by omega), show ipSize xs + j + 1 = ipSize xs + (j + 1) by omega, h.high (j + 1) q3 (by omega) (fun e => absurd e q5) (fun _ => by omega) (fun _ _ => by omega)]
    rw [hP]
    unfold nmTup nmPort
    rw [hH.proto]
    simp only
    rcases hA with ⟨rfl, rfl⟩ | ⟨rfl, rfl⟩
    · rw [if_pos rfl, hsrc, h.hi, h.lo, hdst, hdst]
      have w16 : wd ys 16 = wd xs 16 := by unfold wd; rw [h.low 16 (by omega) (by omega) (by omega) (by omega), h.low 17 (by omega) (by omega) (by omega) (by omega)]
      have w18 : wd ys 18 = wd xs 18 := by unfold wd; rw [h.low 18 (by omega) (by omega) (by omega) (by omega), h.low 19 (by omega) (by omega) (by omega) (by omega)]
      rw [w16, w18, hwb, hwb, hwb]
      have hp := h.port
      by_cases h1 : (aboutIp xs l).proto = 1
      · have hat : tnAt (aboutIp xs l) 0 = 4 := by unfold tnAt; rw [if_pos h1]
        rw [hat] at hp
        rw [if_pos h1, if_pos h1, if_pos h1, hp]
        congr 1
        omega
      · have hat : tnAt (aboutIp xs l) 0 = 0 := by unfold tnAt; rw [if_neg h1]
        rw [hat] at hp
        rw [if_neg h1, if_neg h1, if_neg h1, if_neg h1, hp, hsame 2 (by omega) (by omega) (by omega) (by omega) h1, hwbx]
        congr 1
        omega
    · rw [if_neg (show ¬ (16 : Nat) = 12 by decide), hdst, h.hi, h.lo, hsrc, hsrc]
      have w12 : wd ys 12 = wd xs 12 := by unfold wd; rw [h.low 12 (by omega) (by omega) (by omega) (by omega), h.low 13 (by omega) (by omega) (by omega) (by omega)]
      have w14 : wd ys 14 = wd xs 14 := by unfold wd; rw [h.low 14 (by omega) (by omega) (by omega) (by omega), h.low 15 (by omega) (by omega) (by omega) (by omega)]
      rw [w12, w14, hwb, hwb, hwb]
      have hp := h.port
      by_cases h1 : (aboutIp xs l).proto = 1
      · have hat : tnAt (aboutIp xs l) 2 = 4 := by unfold tnAt; rw [if_pos h1]
        rw [hat] at hp
        rw [if_pos h1, if_pos h1, if_pos h1, hp]
        congr 1
        omega
      · have hat : tnAt (aboutIp xs l) 2 = 2 := by unfold tnAt; rw [if_neg h1]
        rw [hat] at hp
        rw [if_neg h1, if_neg h1, if_neg h1, if_neg h1, hp, hsame 0 (by omega) (by omega) (by omega) (by omega) h1, hwbx]
        congr 1
        omega
end Go.Proofs.Ytnefphinmjeacaa
