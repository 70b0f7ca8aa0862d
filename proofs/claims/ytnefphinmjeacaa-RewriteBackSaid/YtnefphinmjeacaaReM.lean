/- What the laws of layer 25 need of a turned packet, in letters. -/
import Derived.Test.YtnefphinmjeacaaInP
import Derived.Test.YtnefphinmjeacaaSumPlain
import Derived.Test.YtnefphinmjeacaaReI
import Derived.Test.YtnefphinmjeacaaReH
import Derived.Test.YtnefphinmjeacaaReG
import Derived.Test.YtnefphinmjeacaaTupE
import Derived.Test.YtnefphinmjeacaaOwn2
import Derived.Test.YtnefphinmjeacaaMix
import Derived.Test.YtnefphinmjeacaaUdpA
import Derived.Test.YtnefphinmjeacaaIcmpPut
import Derived.Test.YtnefphinmjeacaaBytesEq
import Derived.Test.YtnefphinmjeacaaTcpH
import Derived.Test.YtnefphinmjeacaaTupP
import Derived.Test.YtnefphinmjeacaaBits
import Derived.Test.YtnefphinmjeacaaIpSame
set_option linter.unusedVariables false
set_option maxRecDepth 100000
set_option linter.unusedSimpArgs false
namespace Go.Proofs.Ytnefphinmjeacaa
open Go.RowKit
theorem w2_ne {xs : Nat → Int} {i k : Nat} {v : Int} (h1 : k ≠ i) (h2 : k ≠ i + 1) : w2 xs i v k = xs k := by
  unfold w2; rw [upd_other _ _ _ _ h2, upd_other _ _ _ _ h1]
theorem w2_hi {xs : Nat → Int} {i : Nat} {v : Int} : w2 xs i v i = v / 256 := by
  unfold w2; rw [upd_other _ _ _ _ (by omega), upd_same]
theorem w2_lo {xs : Nat → Int} {i : Nat} {v : Int} : w2 xs i v (i + 1) = v % 256 := by
  unfold w2; rw [upd_same]
theorem w2_congr {xs ys : Nat → Int} {i k : Nat} {v : Int} (h : xs k = ys k) : w2 xs i v k = w2 ys i v k := by
  unfold w2 upd; rw [h]
theorem wd_w2_ne {xs : Nat → Int} {i j : Nat} {v : Int} (h : j + 1 < i ∨ i + 1 < j) : wd (w2 xs i v) j = wd xs j := by
  unfold wd; rw [w2_ne (by omega) (by omega), w2_ne (by omega) (by omega)]
theorem rawN_w2 (xs : Nat → Int) (i : Nat) (v : Int) (n : Nat) (he : i % 2 = 0) (hn : i + 2 ≤ n) : rawN (w2 xs i v) n = rawN xs n + v - wd xs i := by
  unfold w2 wd
  rw [rawN_upd, rawN_upd, upd_other _ _ _ _ (by omega), if_pos (show i + 1 < n by omega), if_neg (show ¬ (i + 1) % 2 = 0 by omega), if_pos (show i < n by omega), if_pos he]
  omega
theorem rawN_pos {xs : Nat → Int} {n : Nat} (hn : 0 < n) (h0 : 0 < xs 0) (hx : ∀ i, i < n → 0 ≤ xs i ∧ xs i ≤ 255) : 0 < rawN xs n := by
  have h1 := rawN_upd xs 0 0 n
  rw [if_pos hn, if_pos rfl] at h1
  have h2 := rawN_bd (upd xs 0 0) n (fun i hi => by unfold upd; split; omega; exact hx i hi)
  omega
theorem mendI_mod {c o n : Int} (hc : 0 ≤ c ∧ c ≤ 65535) (ho : 0 ≤ o ∧ o ≤ 65535) (hn : 0 ≤ n ∧ n ≤ 65535) : (mendI c o n - (c + o - n)) % 65535 = 0 := by
  unfold mendI foldI
  split <;> omega
theorem wholeErr_of {xs : Nat → Int} {l : Nat} (h : WholeOk xs l) : wholeErr xs l = 0 := by
  have := h.l20
  unfold wholeErr
  rw [if_neg (by omega), if_neg (by simp only [Decidable.not_not]; exact ⟨h.ver, h.s20, h.sl⟩), if_neg (by simp only [Decidable.not_not]; exact h.st), if_neg (by simp only [Decidable.not_not]; exact h.sum), if_neg h.told]
/-- The turned bytes, place by place. -/
structure Tn (xs ys : Nat → Int) (S A at_ : Nat) (pr addr port : Int) : Prop where
  low : ∀ i, i < S → i ≠ 10 → i ≠ 11 → (i < A ∨ A + 4 ≤ i) → ys i = xs i
  hi : wd ys A = addr / 65536
  lo : wd ys (A + 2) = addr % 65536
  port : wd ys (S + at_) = port
  high : ∀ j, j ≠ at_ → j ≠ at_ + 1 → (pr = 1 → j ≠ 2 ∧ j ≠ 3) → (pr = 17 → j ≠ 6 ∧ j ≠ 7) → (pr ≠ 1 → pr ≠ 17 → j ≠ 16 ∧ j ≠ 17) → ys (S + j) = xs (S + j)
  sum : sumN ys S = 65535
theorem tn2_at {xs : Nat → Int} {l A P : Nat} {addr port : Int} {k : Nat} (h1 : (aboutIp xs l).proto = 1 → k ≠ ipSize xs + 2 ∧ k ≠ ipSize xs + 3) (h2 : (aboutIp xs l).proto = 17 → k ≠ ipSize xs + 6 ∧ k ≠ ipSize xs + 7)
    (h3 : (aboutIp xs l).proto ≠ 1 → (aboutIp xs l).proto ≠ 17 → k ≠ ipSize xs + 16 ∧ k ≠ ipSize xs + 17) : tn2 xs l A P addr port k = tn1 xs A addr k := by
  unfold tn2
  by_cases p1 : (aboutIp xs l).proto = 1
  · have := h1 p1
    rw [if_pos p1, w2_ne (by omega) (by omega)]
  · rw [if_neg p1]
    by_cases p2 : (aboutIp xs l).proto = 17
    · have := h2 p2
      rw [if_pos p2]
      split
      · rfl
      · rw [w2_ne (by omega) (by omega)]
    · have := h3 p1 p2
      rw [if_neg p2]
      split
      · rw [w2_ne (by omega) (by omega)]
      · rfl
theorem tn_of {kind : Int} {xs : Nat → Int} {l A P : Nat} {addr port : Int} (hA : (A = 12 ∧ P = 0) ∨ (A = 16 ∧ P = 2)) (h0 : nmErr kind xs l = 0) (hx : ∀ i, i < l → 0 ≤ xs i ∧ xs i ≤ 255) (hy : ∀ i, i < l → 0 ≤ tnB xs l A P addr port i ∧ tnB xs l A P addr port i ≤ 255)
    (haddr : 0 ≤ addr ∧ addr ≤ 4294967295) : Tn xs (tnB xs l A P addr port) (ipSize xs) A (tnAt (aboutIp xs l) P) (aboutIp xs l).proto addr port := by
  obtain ⟨hk, hW, hoff, hbl, hpr⟩ := nmErr_zero h0
  have hS20 := hW.s20
  have hSl := hW.sl
  have hat : tnAt (aboutIp xs l) P ≤ 4 := by unfold tnAt; split <;> omega
  obtain ⟨T, hT⟩ : ∃ T, tnAt (aboutIp xs l) P = T := ⟨_, rfl⟩
  have e1 : ∀ i, i < ipSize xs → tnB xs l A P addr port i = w2 (w2 (tn1 xs A addr) A (addr / 65536)) (A + 2) (addr % 65536) i := fun i hi => by
    unfold tnB
    refine w2_congr (w2_congr ?_)
    rw [w2_ne (by omega) (by omega)]
    exact tn2_at (fun _ => by omega) (fun _ => by omega) (fun _ _ => by omega)
  have hlow : ∀ i, i < ipSize xs → i ≠ 10 → i ≠ 11 → (i < A ∨ A + 4 ≤ i) → tnB xs l A P addr port i = xs i := fun i hi h1 h2 h3 => by
    rw [e1 i hi, w2_ne (by omega) (by omega), w2_ne (by omega) (by omega)]
    unfold tn1
    rw [w2_ne (by omega) (by omega)]
  refine ⟨hlow, ?_, ?_, ?_, ?_, ?_⟩
  · unfold tnB
    rw [wd_w2_ne (by omega), wd_w2]
  · unfold tnB
    rw [wd_w2]
  · unfold tnB
    rw [wd_w2_ne (by omega), wd_w2_ne (by omega), wd_w2]
  · intro j h1 h2 h3 h4 h5
    unfold tnB
    rw [hT] at h1 h2 ⊢
    rw [w2_ne (by omega) (by omega), w2_ne (by omega) (by omega), w2_ne (by omega) (by omega), tn2_at (fun h => by have := h3 h; omega) (fun h => by have := h4 h; omega) (fun h h' => by have := h5 h h'; omega)]
    unfold tn1
    rw [w2_ne (by omega) (by omega)]
  · have c10 := wd_bd (hx 10 (by omega)) (hx 11 (by omega))
    have cA := wd_bd (i := A) (hx A (by omega)) (hx (A + 1) (by omega))
    have cB := wd_bd (i := A + 2) (hx (A + 2) (by omega)) (hx (A + 2 + 1) (by omega))
    obtain ⟨M1, hM1⟩ : ∃ m, mendI (wd xs 10) (wd xs A) (addr / 65536) = m := ⟨_, rfl⟩
    obtain ⟨M2, hM2⟩ : ∃ m, mendI M1 (wd xs (A + 2)) (addr % 65536) = m := ⟨_, rfl⟩
    have b1 := mendI_bd (c := wd xs 10) (o := wd xs A) (n := addr / 65536) c10 cA (by omega)
    have b2 := mendI_mod (c := wd xs 10) (o := wd xs A) (n := addr / 65536) c10 cA (by omega)
    rw [hM1] at b1 b2
    have b3 := mendI_mod (c := M1) (o := wd xs (A + 2)) (n := addr % 65536) b1 cB (by omega)
    rw [hM2] at b3
    have eM : mendW (wd xs 10) (tnNm xs A addr) 2 = M2 := by
      show mendI (mendI (wd xs 10) (wd xs A) (addr / 65536)) (wd xs (A + 2)) (addr % 65536) = M2
      rw [hM1, hM2]
    have hr : rawN (tnB xs l A P addr port) (ipSize xs) = rawN xs (ipSize xs) + (M2 - wd xs 10) + (addr / 65536 - wd xs A) + (addr % 65536 - wd xs (A + 2)) := by
      rw [rawN_congr _ e1, rawN_w2 _ _ _ _ (by omega) (by omega), rawN_w2 _ _ _ _ (by omega) (by omega), wd_w2_ne (by omega)]
      unfold tn1
      rw [eM, rawN_w2 _ _ _ _ (by omega) (by omega), wd_w2_ne (by omega), wd_w2_ne (by omega)]
      omega
    have hs := hW.sum
    unfold sumN at hs ⊢
    have p1 := rawN_bd xs (ipSize xs) (fun i hi => hx i (by omega))
    rw [foldI_iff p1.1] at hs
    have h00 : tnB xs l A P addr port 0 = xs 0 := hlow 0 (by omega) (by omega) (by omega) (by omega)
    have hv := hW.ver
    have p2 := rawN_pos (xs := tnB xs l A P addr port) (n := ipSize xs) (by omega) (by rw [h00]; omega) (fun i hi => hy i (by omega))
    rw [foldI_iff (by omega)]
    refine ⟨p2, ?_⟩
    rw [hr]
    omega
/-- Behind a turn the packet is whole again; its fields. -/
theorem Tn.whole {xs ys : Nat → Int} {S A T l : Nat} {pr addr port : Int} (h : Tn xs ys S A T pr addr port) (hA : A = 12 ∨ A = 16) (hS : ipSize xs = S) (hW : WholeOk xs l) :
    WholeOk ys l ∧ ipSize ys = S ∧ ipTotal ys = ipTotal xs := by
  have hS20 := hW.s20
  have y0 := h.low 0 (by omega) (by omega) (by omega) (by omega)
  have y2 := h.low 2 (by omega) (by omega) (by omega) (by omega)
  have y3 := h.low 3 (by omega) (by omega) (by omega) (by omega)
  have hs : ipSize ys = S := by rw [← hS]; unfold ipSize; rw [y0]
  have ht : ipTotal ys = ipTotal xs := by unfold ipTotal; rw [y2, y3]
  refine ⟨⟨hW.l20, by rw [y0]; exact hW.ver, by rw [hs, ← hS]; exact hW.s20, by rw [hs, ← hS]; exact hW.sl, by rw [hs, ht, ← hS]; exact hW.st, by rw [hs]; exact h.sum, by rw [hs, ht, ← hS]; exact hW.told⟩, hs, ht⟩
structure SameHead (p q : Ip) : Prop where
  tos : q.tos = p.tos
  id : q.id = p.id
  df : q.df = p.df
  mf : q.mf = p.mf
  off : q.off = p.off
  ttl : q.ttl = p.ttl
  proto : q.proto = p.proto
  ol : q.ol = p.ol
  bl : q.bl = p.bl
  opts : ∀ i, i < p.ol → q.opts i = p.opts i
theorem Tn.head {xs ys : Nat → Int} {S A T l : Nat} {pr addr port : Int} (h : Tn xs ys S A T pr addr port) (hA : A = 12 ∨ A = 16) (hS : ipSize xs = S) (hW : WholeOk xs l) : SameHead (aboutIp xs l) (aboutIp ys l) := by
  obtain ⟨_, hs, ht⟩ := h.whole hA hS hW
  have hS20 := hW.s20
  have y := fun i (hi : i < 10) => h.low i (by omega) (by omega) (by omega) (by omega)
  have y1 := y 1 (by omega); have y4 := y 4 (by omega); have y5 := y 5 (by omega); have y6 := y 6 (by omega); have y7 := y 7 (by omega); have y8 := y 8 (by omega); have y9 := y 9 (by omega)
  have hf : ipFlags ys = ipFlags xs := by unfold ipFlags; rw [y6, y7]
  unfold aboutIp
  rw [hs, ht, hS]
  refine ⟨y1, ?_, ?_, ?_, ?_, y8, y9, rfl, rfl, fun i hi => h.low (20 + i) (by simp only [mkIp] at hi; omega) (by omega) (by omega) (by omega)⟩
  · simp only [mkIp]; rw [y4, y5]
  · simp only [mkIp]; rw [hf]
  · simp only [mkIp]; rw [hf]
  · simp only [mkIp]; rw [hf]
/-- The names behind a turn. -/
theorem tn_names {kind : Int} {xs ys : Nat → Int} {l A P : Nat} {addr port : Int} (hA : (A = 12 ∧ P = 0) ∨ (A = 16 ∧ P = 2)) (h0 : nmErr kind xs l = 0) (hx : ∀ i, i < l → 0 ≤ xs i ∧ xs i ≤ 255)
    (h : Tn xs ys (ipSize xs) A (tnAt (aboutIp xs l) P) (aboutIp xs l).proto addr port) (haddr : 0 ≤ addr ∧ addr ≤ 4294967295) :
    nmErr kind ys l = 0 ∧ nmTup ys l = if A = 12 then ⟨(nmTup xs l).proto, addr, port, (nmTup xs l).dst, if (nmTup xs l).proto = 1 then port else (nmTup xs l).dport⟩
      else ⟨(nmTup xs l).proto, (nmTup xs l).src, if (nmTup xs l).proto = 1 then port else (nmTup xs l).sport, addr, port⟩ := by
  obtain ⟨hk, hW, hoff, hbl, hpr⟩ := nmErr_zero h0
  have hA' : A = 12 ∨ A = 16 := by omega
  obtain ⟨hWy, hs, ht⟩ := h.whole hA' rfl hW
  have hH := h.head hA' rfl hW
  have hS20 := hW.s20
  have hb : ∀ j, (aboutIp ys l).body j = ys (ipSize xs + j) := fun j => by unfold aboutIp; rw [hs]; rfl
  have hbx : ∀ j, (aboutIp xs l).body j = xs (ipSize xs + j) := fun j => rfl
  have hsrc : ∀ zs : Nat → Int, (aboutIp zs l).src = wd zs 12 * 65536 + wd zs 14 := fun zs => rfl
  have hdst : ∀ zs : Nat → Int, (aboutIp zs l).dst = wd zs 16 * 65536 + wd zs 18 := fun zs => rfl
  have hP : (nmTup xs l).proto = (aboutIp xs l).proto := rfl
  constructor
  · have ha : aboutErr kind ys l = 0 := by unfold aboutErr; rw [hk, if_neg (by decide)]; exact wholeErr_of hWy
    unfold nmErr
    rw [if_neg (by rw [ha]; simp), if_neg (by rw [hH.off, hoff]; simp), if_neg (by rw [hH.bl]; omega), hH.proto]
    rcases hpr with h6 | h17 | ⟨h1, h2⟩
    · rw [if_pos (.inl h6)]
    · rw [if_pos (.inr h17)]
    · rw [if_neg (by rw [h1]; decide), if_pos]
      refine ⟨h1, ?_⟩
      have hat : tnAt (aboutIp xs l) P = 4 := by unfold tnAt; rw [if_pos h1]
      rw [hb, h.high 0 (by omega) (by omega) (fun _ => by omega) (fun _ => by omega) (fun _ _ => by omega), ← hbx]
      exact h2
  · have hwb : ∀ j, wd (aboutIp ys l).body j = wd ys (ipSize xs + j) := fun j => by unfold wd; rw [hb, hb]; rfl
    have hwbx : ∀ j, wd (aboutIp xs l).body j = wd xs (ipSize xs + j) := fun j => rfl
    have hsame : ∀ j, j ≠ tnAt (aboutIp xs l) P → j ≠ tnAt (aboutIp xs l) P + 1 → j + 1 ≠ tnAt (aboutIp xs l) P → j < 4 → (aboutIp xs l).proto ≠ 1 → wd ys (ipSize xs + j) = wd xs (ipSize xs + j) := fun j q1 q2 q3 q4 q5 => by
      unfold wd
      rw [h.high j q1 q2 (fun e => absurd e q5) (fun _ => by omega) (fun _ _ => by omega), show ipSize xs + j + 1 = ipSize xs + (j + 1) by omega, h.high (j + 1) q3 (by omega) (fun e => absurd e q5) (fun _ => by omega) (fun _ _ => by omega)]
    rw [hP]
    unfold nmTup nmPort
    rw [hH.proto]
    simp only
    rcases hA with ⟨rfl, rfl⟩ | ⟨rfl, rfl⟩
    · rw [if_pos rfl, hsrc, h.hi, h.lo, hdst, hdst]
      have w16 : wd ys 16 = wd xs 16 := by unfold wd; rw [h.low 16 (by omega) (by omega) (by omega) (by omega), h.low 17 (by omega) (by omega) (by omega) (by omega)]
      have w18 : wd ys 18 = wd xs 18 := by unfold wd; rw [h.low 18 (by omega) (by omega) (by omega) (by omega), h.low 19 (by omega) (by omega) (by omega) (by omega)]
      rw [w16, w18, hwb, hwb, hwb]
      have hp := h.port
      by_cases h1 : (aboutIp xs l).proto = 1
      · have hat : tnAt (aboutIp xs l) 0 = 4 := by unfold tnAt; rw [if_pos h1]
        rw [hat] at hp
        rw [if_pos h1, if_pos h1, if_pos h1, hp]
        congr 1
        omega
      · have hat : tnAt (aboutIp xs l) 0 = 0 := by unfold tnAt; rw [if_neg h1]
        rw [hat] at hp
        rw [if_neg h1, if_neg h1, if_neg h1, if_neg h1, hp, hsame 2 (by omega) (by omega) (by omega) (by omega) h1, hwbx]
        congr 1
        omega
    · rw [if_neg (show ¬ (16 : Nat) = 12 by decide), hdst, h.hi, h.lo, hsrc, hsrc]
      have w12 : wd ys 12 = wd xs 12 := by unfold wd; rw [h.low 12 (by omega) (by omega) (by omega) (by omega), h.low 13 (by omega) (by omega) (by omega) (by omega)]
      have w14 : wd ys 14 = wd xs 14 := by unfold wd; rw [h.low 14 (by omega) (by omega) (by omega) (by omega), h.low 15 (by omega) (by omega) (by omega) (by omega)]
      rw [w12, w14, hwb, hwb, hwb]
      have hp := h.port
      by_cases h1 : (aboutIp xs l).proto = 1
      · have hat : tnAt (aboutIp xs l) 2 = 4 := by unfold tnAt; rw [if_pos h1]
        rw [hat] at hp
        rw [if_pos h1, if_pos h1, if_pos h1, hp]
        congr 1
        omega
      · have hat : tnAt (aboutIp xs l) 2 = 2 := by unfold tnAt; rw [if_neg h1]
        rw [hat] at hp
        rw [if_neg h1, if_neg h1, if_neg h1, if_neg h1, hp, hsame 0 (by omega) (by omega) (by omega) (by omega) h1, hwbx]
        congr 1
        omega
end Go.Proofs.Ytnefphinmjeacaa
set_option linter.unusedVariables false
set_option maxRecDepth 100000
set_option linter.unusedSimpArgs false
namespace Go.Proofs.Ytnefphinmjeacaa
open Go.RowKit
theorem of_zero25 {m : Bool} {off pr src dst : Int} {xs : Nat → Int} {l : Nat} (h : ofErr m off pr src dst xs l = 0) :
    off = 0 ∧ 8 ≤ l ∧ (pr = 6 ∨ pr = 17 ∨ (pr = 1 ∧ (asksB (xs 0) || answersB (xs 0)) = true)) := by
  unfold ofErr prErr at h
  split at h
  · cases h
  · rename_i h1
    have ho : off = 0 := by
      cases m with
      | true => simp at h1
      | false => simpa using h1
    refine ⟨ho, ?_⟩
    split at h
    · unfold tcpErr at h
      split at h
      · cases h
      · split at h
        · cases h
        · exact ⟨by omega, .inl ‹_›⟩
    · split at h
      · unfold udpErr at h
        split at h
        · cases h
        · exact ⟨by omega, .inr (.inl ‹_›)⟩
      · split at h
        · rename_i p1
          split at h
          · rename_i h3; exact absurd h h3
          · rename_i h3
            have h3' : pErr xs l = 0 := Decidable.of_not_not h3
            split at h
            · rename_i h4
              refine ⟨?_, .inr (.inr ⟨p1, h4⟩)⟩
              unfold pErr at h3'
              split at h3'
              · cases h3'
              · omega
            · cases h
        · cases h
/-- A store to a block that holds no byte leaves bytes as they were. -/
theorem bts_over25 {V : World} {cur cur' : Array Value} {t : TypeId} {os : Array Obj} {d : Nat} {oa : Option Addr} {l c : Nat} {xs : Nat → Int}
    (h : Bts ((V.alloc (.cells cur t)).junk os d) oa l c xs) (hn : ∀ (i : Nat) (v : Int), cur[i]? ≠ some (.int .u8 v)) : Bts ((V.alloc (.cells cur' t)).junk os d) oa l c xs := by
  refine ⟨fun i hi => ?_, h.byte, h.nil, h.le, h.cap⟩
  obtain ⟨b, off, he, hlt, hc⟩ := h.at_ i hi
  by_cases hb : b = V.heap.size
  · subst hb
    rw [World.cell?_junk _ _ _ _ _ (by simp), World.cell?_alloc_new] at hc
    exact absurd hc (hn _ _)
  · refine ⟨b, off, he, by simpa using hlt, ?_⟩
    rw [← hc]
    apply World.cell?_of_block
    simp only [World.junk, World.alloc]
    rcases Nat.lt_or_gt_of_ne hb with h1 | h1
    · rw [Array.getElem?_append_left (by simp; omega), Array.getElem?_append_left (by simp; omega), Array.getElem?_push, Array.getElem?_push, if_neg hb, if_neg hb]
    · rw [Array.getElem?_append_right (by simp; omega), Array.getElem?_append_right (by simp; omega)]
      simp
theorem tup_ext25 {t : Tup} {a b c d e : Int} (h1 : t.proto = a) (h2 : t.src = b) (h3 : t.sport = c) (h4 : t.dst = d) (h5 : t.dport = e) : t = ⟨a, b, c, d, e⟩ := by
  obtain ⟨_, _, _, _, _⟩ := t
  cases h1; cases h2; cases h3; cases h4; cases h5; rfl
theorem wd_w2_same (xs : Nat → Int) (i : Nat) (v : Int) : wd (w2 xs i v) i = v := by
  unfold wd; rw [w2_hi, w2_lo]; omega
/-- The turned body. -/
def rwB (pr : Int) (xs : Nat → Int) (own addr port : Int) (P : Nat) : Nat → Int :=
  if pr = 1 then rwFin (rwPlain pr xs) (rwSum pr) (w2 (bmI (rwPlain pr xs) (rwSum pr) xs (wd xs 4) port) 4 port)
  else rwFin (rwPlain pr xs) (rwSum pr) (bmI (rwPlain pr xs) (rwSum pr) (bmI (rwPlain pr xs) (rwSum pr) (w2 (bmI (rwPlain pr xs) (rwSum pr) xs (wd xs P) port) P port) (own / 65536) (addr / 65536)) (own % 65536) (addr % 65536))
def rwAt (pr : Int) (P : Nat) : Nat := if pr = 1 then 4 else P
/-- The words of an address. -/
def adW (a : Int) : Int := a / 65536 + a % 65536
structure RwB (xs ys : Nat → Int) (k a : Nat) (port D : Int) (pl : Bool) : Prop where
  same : ∀ i, i ≠ a → i ≠ a + 1 → (pl = false → i ≠ k ∧ i ≠ k + 1) → ys i = xs i
  prt : wd ys a = port
  sum : pl = false → 0 < wd ys k ∧ (wd ys k - (wd xs k + wd xs a - port + D)) % 65535 = 0
theorem rwSum_cases (pr : Int) : (pr = 1 ∧ rwSum pr = 2) ∨ (pr = 17 ∧ rwSum pr = 6) ∨ (pr ≠ 1 ∧ pr ≠ 17 ∧ rwSum pr = 16) := by
  unfold rwSum
  by_cases h17 : pr = 17
  · subst h17; exact .inr (.inl ⟨rfl, rfl⟩)
  · by_cases h1 : pr = 1
    · subst h1; exact .inl ⟨rfl, rfl⟩
    · rw [if_neg h17, if_neg h1]; exact .inr (.inr ⟨h1, h17, rfl⟩)
theorem rwPlain_17 {pr : Int} {xs : Nat → Int} (h : rwPlain pr xs = true) : pr = 17 ∧ wd xs 6 = 0 := by simpa [rwPlain] using h
theorem rwPlain_not {pr : Int} {xs : Nat → Int} (h : pr ≠ 17) : rwPlain pr xs = false := by simp [rwPlain, h]
theorem rwFin_false (k : Nat) (xs : Nat → Int) : rwFin false k xs = w2 xs k (if wd xs k = 0 then 65535 else wd xs k) ∨ (rwFin false k xs = xs ∧ wd xs k ≠ 0) := by
  unfold rwFin
  rw [if_neg (by decide)]
  split
  · exact .inl rfl
  · exact .inr ⟨rfl, ‹_›⟩
theorem rwFin_at {k i : Nat} {xs : Nat → Int} (h1 : i ≠ k) (h2 : i ≠ k + 1) : rwFin false k xs i = xs i := by
  rcases rwFin_false k xs with h | ⟨h, _⟩
  · rw [h, w2_ne h1 h2]
  · rw [h]
theorem rwFin_sum {k : Nat} {xs : Nat → Int} (hb : 0 ≤ wd xs k) : 0 < wd (rwFin false k xs) k ∧ (wd (rwFin false k xs) k - wd xs k) % 65535 = 0 := by
  rcases rwFin_false k xs with h | ⟨h, h0⟩
  · rw [h, wd_w2_same]
    split <;> omega
  · rw [h]; omega
theorem bmI_at {k i : Nat} {xs : Nat → Int} {o n : Int} (h1 : i ≠ k) (h2 : i ≠ k + 1) : bmI false k xs o n i = xs i := by
  unfold bmI; rw [if_neg (by decide), w2_ne h1 h2]
theorem bmI_sum (k : Nat) (xs : Nat → Int) (o n : Int) : wd (bmI false k xs o n) k = mendI (wd xs k) o n := by
  unfold bmI; rw [if_neg (by decide), wd_w2_same]
theorem bmI_true (k : Nat) (xs : Nat → Int) (o n : Int) : bmI true k xs o n = xs := rfl
theorem wd_at {xs ys : Nat → Int} {i : Nat} (h1 : ys i = xs i) (h2 : ys (i + 1) = xs (i + 1)) : wd ys i = wd xs i := by unfold wd; rw [h1, h2]
theorem rwB_plain {pr : Int} {xs : Nat → Int} {own addr port : Int} {P l : Nat} (hP : P = 0 ∨ P = 2) (hx : ∀ i, i < l → 0 ≤ xs i ∧ xs i ≤ 255) (hl8 : 8 ≤ l) (hkl : rwSum pr + 2 ≤ l)
    (ho : 0 ≤ own ∧ own ≤ 4294967295) (ha : 0 ≤ addr ∧ addr ≤ 4294967295) (hp : 0 ≤ port ∧ port ≤ 65535) :
    RwB xs (rwB pr xs own addr port P) (rwSum pr) (rwAt pr P) port (if pr = 1 then 0 else adW own - adW addr) (rwPlain pr xs) := by
  have hk : wd xs (rwSum pr) = wd xs (rwSum pr) := rfl
  have hkb := wd_bd (hx (rwSum pr) (by omega)) (hx (rwSum pr + 1) (by omega))
  have h4b := wd_bd (hx 4 (by omega)) (hx 5 (by omega))
  have hPb := wd_bd (hx P (by omega)) (hx (P + 1) (by omega))
  cases hpl : rwPlain pr xs with
  | true =>
    obtain ⟨h17, h0⟩ := rwPlain_17 hpl
    subst h17
    unfold rwB rwAt
    rw [hpl, if_neg (by decide), if_neg (by decide)]
    simp only [bmI_true, rwFin, if_true]
    exact ⟨fun i h1 h2 _ => w2_ne h1 h2, wd_w2_same _ _ _, fun h => by cases h⟩
  | false =>
    by_cases h1 : pr = 1
    · subst h1
      have hs : rwSum 1 = 2 := rfl
      rw [hs] at hkb
      unfold rwB rwAt
      rw [hpl, if_pos rfl, if_pos rfl, if_pos rfl, hs]
      obtain ⟨X1, hX1⟩ : ∃ X, bmI false 2 xs (wd xs 4) port = X := ⟨_, rfl⟩
      have e1 : wd X1 2 = mendI (wd xs 2) (wd xs 4) port := by rw [← hX1]; exact bmI_sum _ _ _ _
      have m1 := mendI_bd hkb h4b hp
      have m2 := mendI_mod hkb h4b hp
      have e2 : wd (w2 X1 4 port) 2 = wd X1 2 := wd_w2_ne (by omega)
      have f1 := rwFin_sum (k := 2) (xs := w2 X1 4 port) (by rw [e2, e1]; exact m1.1)
      rw [hX1]
      refine ⟨fun i q1 q2 q3 => ?_, ?_, fun _ => ?_⟩
      · obtain ⟨q3, q4⟩ := q3 rfl
        rw [rwFin_at q3 q4, w2_ne q1 q2, ← hX1, bmI_at q3 q4]
      · rw [wd_at (rwFin_at (by omega) (by omega)) (rwFin_at (by omega) (by omega)), wd_w2_same]
      · rw [e2, e1] at f1
        omega
    · have hs : rwSum pr = 6 ∨ rwSum pr = 16 := by rcases rwSum_cases pr with h | h | h <;> omega
      unfold rwB rwAt
      rw [hpl, if_neg h1, if_neg h1, if_neg h1]
      obtain ⟨k, hk⟩ : ∃ k, rwSum pr = k := ⟨_, rfl⟩
      rw [hk] at hs hkb ⊢
      obtain ⟨X1, hX1⟩ : ∃ X, bmI false k xs (wd xs P) port = X := ⟨_, rfl⟩
      have e1 : wd X1 k = mendI (wd xs k) (wd xs P) port := by rw [← hX1]; exact bmI_sum _ _ _ _
      have m1 := mendI_bd hkb hPb hp
      have n1 := mendI_mod hkb hPb hp
      rw [hX1]
      obtain ⟨X2, hX2⟩ : ∃ X, w2 X1 P port = X := ⟨_, rfl⟩
      have e2 : wd X2 k = wd X1 k := by rw [← hX2]; exact wd_w2_ne (by omega)
      rw [hX2]
      have b2 : 0 ≤ wd X2 k ∧ wd X2 k ≤ 65535 := by rw [e2, e1]; exact m1
      obtain ⟨X3, hX3⟩ : ∃ X, bmI false k X2 (own / 65536) (addr / 65536) = X := ⟨_, rfl⟩
      have e3 : wd X3 k = mendI (wd X2 k) (own / 65536) (addr / 65536) := by rw [← hX3]; exact bmI_sum _ _ _ _
      have m3 := mendI_bd (c := wd X2 k) (o := own / 65536) (n := addr / 65536) b2 (by omega) (by omega)
      have n3 := mendI_mod (c := wd X2 k) (o := own / 65536) (n := addr / 65536) b2 (by omega) (by omega)
      rw [hX3]
      have b3 : 0 ≤ wd X3 k ∧ wd X3 k ≤ 65535 := by rw [e3]; exact m3
      obtain ⟨X4, hX4⟩ : ∃ X, bmI false k X3 (own % 65536) (addr % 65536) = X := ⟨_, rfl⟩
      have e4 : wd X4 k = mendI (wd X3 k) (own % 65536) (addr % 65536) := by rw [← hX4]; exact bmI_sum _ _ _ _
      have m4 := mendI_bd (c := wd X3 k) (o := own % 65536) (n := addr % 65536) b3 (by omega) (by omega)
      have n4 := mendI_mod (c := wd X3 k) (o := own % 65536) (n := addr % 65536) b3 (by omega) (by omega)
      rw [hX4]
      have f4 := rwFin_sum (k := k) (xs := X4) (by rw [e4]; exact m4.1)
      have at4 : ∀ i, i ≠ k → i ≠ k + 1 → rwFin false k X4 i = X2 i := fun i q1 q2 => by
        rw [rwFin_at q1 q2, ← hX4, bmI_at q1 q2, ← hX3, bmI_at q1 q2]
      refine ⟨fun i q1 q2 q3 => ?_, ?_, fun _ => ?_⟩
      · obtain ⟨q3, q4⟩ := q3 rfl
        rw [at4 i q3 q4, ← hX2, w2_ne q1 q2, ← hX1, bmI_at q3 q4]
      · rw [wd_at (at4 P (by omega) (by omega)) (at4 (P + 1) (by omega) (by omega)), ← hX2, wd_w2_same]
      · rw [← e1, ← e2] at n1
        rw [← e3] at n3
        rw [← e4] at n4
        unfold adW
        omega
theorem rawN_two {xs ys : Nat → Int} {a k n : Nat} (hak : a + 1 < k ∨ k + 1 < a) (ea : a % 2 = 0) (ek : k % 2 = 0) (han : a + 2 ≤ n) (hkn : k + 2 ≤ n)
    (h : ∀ i, i ≠ a → i ≠ a + 1 → i ≠ k → i ≠ k + 1 → ys i = xs i) (hy : ∀ i, i < n → 0 ≤ ys i ∧ ys i ≤ 255) :
    rawN ys n = rawN xs n + (wd ys a - wd xs a) + (wd ys k - wd xs k) := by
  have e : rawN ys n = rawN (w2 (w2 xs a (wd ys a)) k (wd ys k)) n := rawN_congr n fun i hi => by
    have hya := hy a (by omega); have hya1 := hy (a + 1) (by omega); have hyk := hy k (by omega); have hyk1 := hy (k + 1) (by omega)
    by_cases h1 : i = k
    · subst h1; rw [w2_hi]; unfold wd; omega
    · by_cases h2 : i = k + 1
      · subst h2; rw [w2_lo]; unfold wd; omega
      · rw [w2_ne h1 h2]
        by_cases h3 : i = a
        · subst h3; rw [w2_hi]; unfold wd; omega
        · by_cases h4 : i = a + 1
          · subst h4; rw [w2_lo]; unfold wd; omega
          · rw [w2_ne h3 h4]; exact h i h3 h4 h1 h2
  rw [e, rawN_w2 _ _ _ _ ek hkn, rawN_w2 _ _ _ _ ea han, wd_w2_ne (by omega)]
  omega
theorem rawN_one {xs ys : Nat → Int} {a n : Nat} (ea : a % 2 = 0) (han : a + 2 ≤ n)
    (h : ∀ i, i ≠ a → i ≠ a + 1 → ys i = xs i) (hy : ∀ i, i < n → 0 ≤ ys i ∧ ys i ≤ 255) :
    rawN ys n = rawN xs n + (wd ys a - wd xs a) := by
  have e : rawN ys n = rawN (w2 xs a (wd ys a)) n := rawN_congr n fun i hi => by
    have hya := hy a (by omega); have hya1 := hy (a + 1) (by omega)
    by_cases h3 : i = a
    · subst h3; rw [w2_hi]; unfold wd; omega
    · by_cases h4 : i = a + 1
      · subst h4; rw [w2_lo]; unfold wd; omega
      · rw [w2_ne h3 h4]; exact h i h3 h4
  rw [e, rawN_w2 _ _ _ _ ea han]
  omega
/-- A word of a row is no more than the row's sum. -/
theorem rawN_word {xs : Nat → Int} {k n : Nat} (ek : k % 2 = 0) (hkn : k + 2 ≤ n) (hx : ∀ i, i < n → 0 ≤ xs i ∧ xs i ≤ 255) : wd xs k ≤ rawN xs n := by
  have h1 := rawN_w2 xs k 0 n ek hkn
  have h2 := (rawN_bd (w2 xs k 0) n (fun i hi => by
    by_cases h1 : i = k
    · subst h1; rw [w2_hi]; omega
    · by_cases h2 : i = k + 1
      · subst h2; rw [w2_lo]; omega
      · rw [w2_ne h1 h2]; exact hx i hi)).1
  omega
theorem of_len {m : Bool} {off pr src dst : Int} {xs : Nat → Int} {l : Nat} (h : ofErr m off pr src dst xs l = 0) : rwSum pr + 2 ≤ l := by
  obtain ⟨_, h8, hpr⟩ := of_zero25 h
  rcases hpr with h6 | h17 | ⟨h1, _⟩
  · subst h6
    have hs : rwSum 6 = 16 := rfl
    unfold ofErr prErr at h
    split at h
    · cases h
    · rw [if_pos rfl] at h
      unfold tcpErr at h
      split at h
      · cases h
      · split at h
        · cases h
        · omega
  · subst h17
    have hs : rwSum 17 = 6 := rfl
    omega
  · subst h1
    have hs : rwSum 1 = 2 := rfl
    omega
/-- A turned packet has a tuple. -/
theorem of_turned {m : Bool} {off pr src dst src' dst' port D : Int} {xs ys : Nat → Int} {l P : Nat} (h0 : ofErr m off pr src dst xs l = 0) (hP : P = 0 ∨ P = 2) (hx : ∀ i, i < l → 0 ≤ xs i ∧ xs i ≤ 255) (hy : ∀ i, i < l → 0 ≤ ys i ∧ ys i ≤ 255)
    (hR : RwB xs ys (rwSum pr) (rwAt pr P) port (if pr = 1 then 0 else D) (rwPlain pr xs)) (hD : D = adW src + adW dst - adW src' - adW dst') (hs : 0 ≤ src' ∧ src' ≤ 4294967295) (hd : 0 ≤ dst' ∧ dst' ≤ 4294967295) (hs0 : 0 ≤ src) (hd0 : 0 ≤ dst) : ofErr m off pr src' dst' ys l = 0 := by
  obtain ⟨hoff, h8, hpr⟩ := of_zero25 h0
  have hkl := of_len h0
  have hps : ∀ (pr n s d : Int), pseudoN s d pr n = adW s + adW d + pr + n := fun pr n s d => by unfold pseudoN adW; omega
  unfold ofErr at h0 ⊢
  split at h0
  · cases h0
  · rename_i hm
    rw [if_neg hm]
    rcases hpr with h6 | h17 | ⟨h1, ha⟩
    · subst h6
      have hks : rwSum 6 = 16 := rfl
      have hpl : rwPlain 6 xs = false := rwPlain_not (by decide)
      have hat : rwAt 6 P = P := by unfold rwAt; rw [if_neg (by decide)]
      rw [hks, hpl, hat, if_neg (by decide)] at hR
      obtain ⟨r1, r2, r3⟩ := hR
      obtain ⟨r3, r4⟩ := r3 rfl
      have r1 : ∀ i, i ≠ P → i ≠ P + 1 → i ≠ 16 → i ≠ 16 + 1 → ys i = xs i := fun i q1 q2 q3 q4 => r1 i q1 q2 (fun _ => ⟨q3, q4⟩)
      unfold prErr at h0 ⊢
      rw [if_pos rfl] at h0 ⊢
      have e12 : ys 12 = xs 12 := r1 12 (by omega) (by omega) (by omega) (by omega)
      have eS : tcpSize ys = tcpSize xs := by unfold tcpSize; rw [e12]
      have eO : tcpOpts ys = tcpOpts xs := by
        unfold tcpOpts
        rw [eS, show (fun i => ys (20 + i)) = fun i => xs (20 + i) from funext fun i => r1 _ (by omega) (by omega) (by omega) (by omega)]
      unfold tcpErr at h0 ⊢
      rw [eS, eO]
      split at h0
      · cases h0
      · rename_i g1
        rw [if_neg g1]
        split at h0
        · cases h0
        · rename_i g2
          rw [if_neg g2]
          split at h0
          · cases h0
          · rename_i g3
            rw [if_neg g3]
            split at h0
            · cases h0
            · rename_i g4
              have g4' : tsumN src dst xs l = 65535 := Decidable.of_not_not g4
              rw [if_neg]
              · exact h0
              · simp only [Decidable.not_not]
                have hr := rawN_two (a := P) (k := 16) (n := l) (by omega) (by omega) (by omega) (by omega) (by omega) r1 hy
                have hb := rawN_bd xs l hx
                have hb2 := rawN_bd ys l hy
                have hw := rawN_word (k := 16) (n := l) (by omega) (by omega) hy
                unfold tsumN at g4' ⊢
                have a1 : ∀ a : Int, 0 ≤ a → 0 ≤ adW a := fun a h => by unfold adW; omega
                have q1 := a1 src' hs.1
                have q2 := a1 dst' hd.1
                rw [hps] at g4' ⊢
                have hnn : 0 ≤ adW src + adW dst + 6 + (l : Int) + rawN xs l := by
                  have q3 := a1 src hs0
                  have q4 := a1 dst hd0
                  omega
                rw [foldI_iff hnn] at g4'
                rw [foldI_iff (by omega)]
                refine ⟨by omega, ?_⟩
                subst hD
                obtain ⟨_, g5⟩ := g4'
                rw [hr, r2]
                omega
    · subst h17
      have hks : rwSum 17 = 6 := rfl
      have hat : rwAt 17 P = P := by unfold rwAt; rw [if_neg (by decide)]
      rw [hks, hat, if_neg (by decide)] at hR
      obtain ⟨r1, r2, r3⟩ := hR
      unfold prErr at h0 ⊢
      rw [if_neg (by decide), if_pos rfl] at h0 ⊢
      have e4 : ys 4 = xs 4 := r1 4 (by omega) (by omega) (fun _ => by omega)
      have e5 : ys 5 = xs 5 := r1 5 (by omega) (by omega) (fun _ => by omega)
      have eS : uSize ys = uSize xs := by unfold uSize; rw [e4, e5]
      unfold udpErr at h0 ⊢
      rw [eS]
      split at h0
      · cases h0
      · rename_i g1
        rw [if_neg g1]
        split at h0
        · cases h0
        · rename_i g2
          rw [if_neg g2]
          split at h0
          · cases h0
          · rename_i g3
            rw [if_neg]
            cases hpl : rwPlain 17 xs with
            | true =>
              obtain ⟨_, hz⟩ := rwPlain_17 hpl
              have e6 : ys 6 = xs 6 := r1 6 (by omega) (by omega) (fun h => by rw [hpl] at h; cases h)
              have e7 : ys 7 = xs 7 := r1 7 (by omega) (by omega) (fun h => by rw [hpl] at h; cases h)
              intro hc
              refine hc.1 ?_
              unfold uChk
              rw [e6, e7]
              exact hz
            | false =>
              obtain ⟨r3, r4⟩ := r3 hpl
              rw [hpl] at r1
              have r1 : ∀ i, i ≠ P → i ≠ P + 1 → i ≠ 6 → i ≠ 6 + 1 → ys i = xs i := fun i q1 q2 q3 q4 => r1 i q1 q2 (fun _ => ⟨q3, q4⟩)
              have hz : uChk xs ≠ 0 := by
                intro hz
                have : rwPlain 17 xs = true := by unfold rwPlain; rw [show wd xs 6 = 0 from hz]; decide
                rw [hpl] at this; cases this
              intro hc
              refine hc.2 ?_
              have g4 : usumN src dst xs (uSize xs) = 65535 := Decidable.of_not_not fun h => g3 ⟨hz, h⟩
              have hr := rawN_two (a := P) (k := 6) (n := uSize xs) (by omega) (by omega) (by omega) (by omega) (by omega) r1 (fun i hi => hy i (by omega))
              have hb := rawN_bd xs (uSize xs) (fun i hi => hx i (by omega))
              have hb2 := rawN_bd ys (uSize xs) (fun i hi => hy i (by omega))
              have hw := rawN_word (k := 6) (n := uSize xs) (by omega) (by omega) (fun i hi => hy i (by omega))
              unfold usumN at g4 ⊢
              have a1 : ∀ a : Int, 0 ≤ a → 0 ≤ adW a := fun a h => by unfold adW; omega
              have q1 := a1 src' hs.1
              have q2 := a1 dst' hd.1
              rw [hps] at g4 ⊢
              have hnn : 0 ≤ adW src + adW dst + 17 + (uSize xs : Int) + rawN xs (uSize xs) := by
                have q3 := a1 src hs0
                have q4 := a1 dst hd0
                omega
              rw [foldI_iff hnn] at g4
              rw [foldI_iff (by omega)]
              refine ⟨by omega, ?_⟩
              subst hD
              obtain ⟨_, g5⟩ := g4
              rw [hr, r2]
              omega
    · subst h1
      have hks : rwSum 1 = 2 := rfl
      have hpl : rwPlain 1 xs = false := rwPlain_not (by decide)
      have hat : rwAt 1 P = 4 := by unfold rwAt; rw [if_pos rfl]
      rw [hks, hpl, hat, if_pos rfl] at hR
      obtain ⟨r1, r2, r3⟩ := hR
      obtain ⟨r3, r4⟩ := r3 rfl
      have r1 : ∀ i, i ≠ 4 → i ≠ 4 + 1 → i ≠ 2 → i ≠ 2 + 1 → ys i = xs i := fun i q1 q2 q3 q4 => r1 i q1 q2 (fun _ => ⟨q3, q4⟩)
      unfold prErr at h0 ⊢
      rw [if_neg (by decide), if_neg (by decide), if_pos rfl] at h0 ⊢
      have e0 : ys 0 = xs 0 := r1 0 (by omega) (by omega) (by omega) (by omega)
      have hz : pErr xs l = 0 := by
        split at h0
        · rename_i g; exact absurd h0 g
        · rename_i g; exact Decidable.of_not_not g
      have hz2 : pErr ys l = 0 := by
        unfold pErr at hz ⊢
        split at hz
        · cases hz
        · rename_i g1
          rw [if_neg g1]
          split at hz
          · cases hz
          · rename_i g2
            rw [if_neg g2]
            split at hz
            · rename_i g3
              rw [if_pos]
              have hr := rawN_two (a := 4) (k := 2) (n := l) (by omega) (by omega) (by omega) (by omega) (by omega) r1 hy
              have hb := rawN_bd xs l hx
              have hb2 := rawN_bd ys l hy
              have hw := rawN_word (k := 2) (n := l) (by omega) (by omega) hy
              unfold sumN at g3 ⊢
              rw [foldI_iff hb.1] at g3
              rw [foldI_iff (by omega)]
              refine ⟨by omega, ?_⟩
              obtain ⟨_, g5⟩ := g3
              rw [hr, r2]
              omega
            · cases hz
      rw [if_neg (by rw [hz2]; decide), e0, if_pos ha]
end Go.Proofs.Ytnefphinmjeacaa
set_option linter.unusedVariables false
set_option maxRecDepth 100000
set_option linter.unusedSimpArgs false
namespace Go.Proofs.Ytnefphinmjeacaa
open Go.RowKit
def rwErr (p : Ip) (port : Int) : Int := if ofErr p.mf p.off p.proto p.src p.dst p.body p.bl ≠ 0 then ofErr p.mf p.off p.proto p.src p.dst p.body p.bl else if port < 0 ∨ 65535 < port then 1 else 0
def rwS (p : Ip) (addr port : Int) : Ip := ⟨p.tos, p.id, p.df, p.mf, p.off, p.ttl, p.proto, addr, p.dst, p.ol, p.opts, p.bl, rwB p.proto p.body p.src addr port 0⟩
def rwD (p : Ip) (addr port : Int) : Ip := ⟨p.tos, p.id, p.df, p.mf, p.off, p.ttl, p.proto, p.src, addr, p.ol, p.opts, p.bl, rwB p.proto p.body p.dst addr port 2⟩
def RtX (w : World) (E : Int) (q : Ip) (e : Ending) (w' : World) : Prop := (E ≠ 0 ∧ e = .returned (.tuple #[.agg #[.int .i64 0, .int .i64 0, .bool false, .bool false, .int .i64 0, .int .i64 0, .int .i64 0, .int .u32 0, .int .u32 0, .slice none 0 0, .slice none 0 0], .int .i64 E]) ∧ Junk w w') ∨ (E = 0 ∧ RtM w q e w')
theorem RtX.ok {w w' : World} {E : Int} {q : Ip} {e : Ending} (h : RtX w E q e w') (h0 : E = 0) : RtM w q e w' := by
  rcases h with ⟨h1, _⟩ | ⟨_, h⟩
  · exact absurd h0 h1
  · exact h
theorem RtX.bad {w w' : World} {E : Int} {q : Ip} {e : Ending} (h : RtX w E q e w') (h0 : E ≠ 0) : e = .returned (.tuple #[.agg #[.int .i64 0, .int .i64 0, .bool false, .bool false, .int .i64 0, .int .i64 0, .int .i64 0, .int .u32 0, .int .u32 0, .slice none 0 0, .slice none 0 0], .int .i64 E]) ∧ Junk w w' := by
  rcases h with ⟨_, h⟩ | ⟨h1, _⟩
  · exact h
  · exact absurd h1 h0
theorem rtX_bad {w w' : World} {E n : Int} {q : Ip} (h : E = n) (h0 : n ≠ 0) (hj : Junk w w') : RtX w E q (.returned (.tuple #[.agg #[.int .i64 0, .int .i64 0, .bool false, .bool false, .int .i64 0, .int .i64 0, .int .i64 0, .int .u32 0, .int .u32 0, .slice none 0 0, .slice none 0 0], .int .i64 n])) w' := .inl ⟨by rw [h]; exact h0, by rw [h], hj⟩
theorem ip0_nb : ∀ (i : Nat) (v : Int), (#[.int .i64 0, .int .i64 0, .bool false, .bool false, .int .i64 0, .int .i64 0, .int .i64 0, .int .u32 0, .int .u32 0, .slice none 0 0, .slice none 0 0] : Array Value)[i]? ≠ some (.int .u8 v) := by
  intro i v h
  rcases i with _ | _ | _ | _ | _ | _ | _ | _ | _ | _ | _ | i <;> simp at h
theorem ipAt_over25 {V : World} {cur cur' : Array Value} {t : TypeId} {os : Array Obj} {d : Nat} {q : Ip} {oo ob : Option Addr} {oc bc : Nat}
    (h : IpAt ((V.alloc (.cells cur t)).junk os d) q oo oc ob bc) (hn : ∀ (i : Nat) (v : Int), cur[i]? ≠ some (.int .u8 v)) : IpAt ((V.alloc (.cells cur' t)).junk os d) q oo oc ob bc :=
  ⟨bts_over25 h.opts hn, bts_over25 h.body hn, h.src, h.dst⟩
set_option maxHeartbeats 4000000 in
theorem rturnS_any (p : Ip) (oo ob : Option Addr) (oc bc : Nat) (addr port : Int) (w : World) (hP : IpAt w p oo oc ob bc) (hl : p.bl ≤ 100000000) (hol : p.ol ≤ 100000000) (haddr : 0 ≤ addr ∧ addr ≤ 4294967295) :
    Calls Try.prog 47 #[.agg #[.int .i64 0, .func (.func 46) #[] #[]], .agg #[.int .i64 p.tos, .int .i64 p.id, .bool p.df, .bool p.mf, .int .i64 p.off, .int .i64 p.ttl, .int .i64 p.proto, .int .u32 p.src, .int .u32 p.dst, .slice oo p.ol oc, .slice ob p.bl bc], .int .u32 addr, .int .i64 port] w (RtX w (rwErr p port) (rwS p addr port)) := by
  by_cases h0 : ofErr p.mf p.off p.proto p.src p.dst p.body p.bl = 0
  case neg =>
    have HP := Lib.hid hP
    obtain ⟨E, hE⟩ : ∃ E, ofErr p.mf p.off p.proto p.src p.dst p.body p.bl = E := ⟨_, rfl⟩
    have HE := Lib.hid (show rwErr p port = E by unfold rwErr; rw [if_pos h0]; exact hE)
    have HTO := Lib.hid (fun w1 (hp : IpAt w1 p oo oc ob bc) => show Calls Try.prog 20 #[.agg #[.int .i64 p.tos, .int .i64 p.id, .bool p.df, .bool p.mf, .int .i64 p.off, .int .i64 p.ttl, .int .i64 p.proto, .int .u32 p.src, .int .u32 p.dst, .slice oo p.ol oc, .slice ob p.bl bc]] w1 fun e w' => e = .returned (.tuple #[.agg #[.int .i64 0, .int .u32 0, .int .i64 0, .int .u32 0, .int .i64 0], .int .i64 E]) ∧ Junk w1 w' by
      have := tup_of_any (.int .i64 p.tos) (.int .i64 p.id) (.bool p.df) (.int .i64 p.ttl) (.slice oo p.ol oc) p.mf p.off p.proto p.src p.dst ob p.bl bc p.body w1 hp.src hp.dst hl hp.body
      rw [show ofTup p.mf p.off p.proto p.src p.dst p.body p.bl = ⟨0, 0, 0, 0, 0⟩ by unfold ofTup; rw [if_neg h0], hE] at this
      exact this)
    rw [hE] at h0
    have hne : (E != 0) = true := by simpa using h0
    have H0 := Lib.hid h0
    clear hE h0 hP
    go_enter Try.func47, Try.ntmps47
    go_wp2_with (first | (go_at_call 20; (with_reducible refine (HTO.out _ (HP.out.on (by (first | ((repeat (first | with_reducible exact Junk.refl _ | with_reducible exact Junk.app _ _ _ _ _ | with_reducible apply Junk.alloc | with_reducible apply Junk.junk | with_reducible apply Junk.drew | with_reducible apply Junk.drewN)); done) | ((try simp only [World.junk_junk, Array.append_assoc]); (repeat (first | with_reducible exact Junk.refl _ | with_reducible exact Junk.app _ _ _ _ _ | with_reducible exact Junk.app2 _ _ _ _ _ _ | with_reducible exact Junk.app3 _ _ _ _ _ _ _ | with_reducible exact Junk.app4 _ _ _ _ _ _ _ _ | with_reducible exact Junk.app5 _ _ _ _ _ _ _ _ _ | with_reducible apply Junk.alloc | with_reducible apply Junk.junk | with_reducible apply Junk.drew | with_reducible apply Junk.drewN))))))).mono ?_); rintro e w' ⟨rfl, ⟨osT, dT, rfl⟩⟩))
    go_returns
    exact rtX_bad HE.out H0.out (by (first | ((repeat (first | with_reducible exact Junk.refl _ | with_reducible exact Junk.app _ _ _ _ _ | with_reducible apply Junk.alloc | with_reducible apply Junk.junk | with_reducible apply Junk.drew | with_reducible apply Junk.drewN)); done) | ((try simp only [World.junk_junk, Array.append_assoc]); (repeat (first | with_reducible exact Junk.refl _ | with_reducible exact Junk.app _ _ _ _ _ | with_reducible exact Junk.app2 _ _ _ _ _ _ | with_reducible exact Junk.app3 _ _ _ _ _ _ _ | with_reducible exact Junk.app4 _ _ _ _ _ _ _ _ | with_reducible exact Junk.app5 _ _ _ _ _ _ _ _ _ | with_reducible apply Junk.alloc | with_reducible apply Junk.junk | with_reducible apply Junk.drew | with_reducible apply Junk.drewN)))))
  by_cases hport : 0 ≤ port ∧ port ≤ 65535
  case neg =>
    have HP := Lib.hid hP
    obtain ⟨⟨t0, t1, t2, t3, t4⟩, hT⟩ : ∃ t, ofTup p.mf p.off p.proto p.src p.dst p.body p.bl = t := ⟨_, rfl⟩
    have HE := Lib.hid (show rwErr p port = 1 by unfold rwErr; rw [if_neg (by rw [h0]; decide), if_pos (by omega)])
    have HTO := Lib.hid (fun w1 (hp : IpAt w1 p oo oc ob bc) => show Calls Try.prog 20 #[.agg #[.int .i64 p.tos, .int .i64 p.id, .bool p.df, .bool p.mf, .int .i64 p.off, .int .i64 p.ttl, .int .i64 p.proto, .int .u32 p.src, .int .u32 p.dst, .slice oo p.ol oc, .slice ob p.bl bc]] w1 fun e w' => e = .returned (.tuple #[.agg #[.int .i64 t0, .int .u32 t1, .int .i64 t2, .int .u32 t3, .int .i64 t4], .int .i64 0]) ∧ Junk w1 w' by
      have := tup_of_any (.int .i64 p.tos) (.int .i64 p.id) (.bool p.df) (.int .i64 p.ttl) (.slice oo p.ol oc) p.mf p.off p.proto p.src p.dst ob p.bl bc p.body w1 hp.src hp.dst hl hp.body
      rw [hT, h0] at this
      exact this)
    clear h0 hT hP
    by_cases hp0 : 0 ≤ port
    · have hp1 : 65535 < port := by omega
      have hp2 : ¬ port < 0 := by omega
      clear hport
      go_enter Try.func47, Try.ntmps47
      go_wp2_with (first | (go_at_call 20; (with_reducible refine (HTO.out _ (HP.out.on (by (first | ((repeat (first | with_reducible exact Junk.refl _ | with_reducible exact Junk.app _ _ _ _ _ | with_reducible apply Junk.alloc | with_reducible apply Junk.junk | with_reducible apply Junk.drew | with_reducible apply Junk.drewN)); done) | ((try simp only [World.junk_junk, Array.append_assoc]); (repeat (first | with_reducible exact Junk.refl _ | with_reducible exact Junk.app _ _ _ _ _ | with_reducible exact Junk.app2 _ _ _ _ _ _ | with_reducible exact Junk.app3 _ _ _ _ _ _ _ | with_reducible exact Junk.app4 _ _ _ _ _ _ _ _ | with_reducible exact Junk.app5 _ _ _ _ _ _ _ _ _ | with_reducible apply Junk.alloc | with_reducible apply Junk.junk | with_reducible apply Junk.drew | with_reducible apply Junk.drewN))))))).mono ?_); rintro e w' ⟨rfl, ⟨osT, dT, rfl⟩⟩))
      go_returns
      exact rtX_bad HE.out (by decide) (by (first | ((repeat (first | with_reducible exact Junk.refl _ | with_reducible exact Junk.app _ _ _ _ _ | with_reducible apply Junk.alloc | with_reducible apply Junk.junk | with_reducible apply Junk.drew | with_reducible apply Junk.drewN)); done) | ((try simp only [World.junk_junk, Array.append_assoc]); (repeat (first | with_reducible exact Junk.refl _ | with_reducible exact Junk.app _ _ _ _ _ | with_reducible exact Junk.app2 _ _ _ _ _ _ | with_reducible exact Junk.app3 _ _ _ _ _ _ _ | with_reducible exact Junk.app4 _ _ _ _ _ _ _ _ | with_reducible exact Junk.app5 _ _ _ _ _ _ _ _ _ | with_reducible apply Junk.alloc | with_reducible apply Junk.junk | with_reducible apply Junk.drew | with_reducible apply Junk.drewN)))))
    · have hp1 : port < 0 := by omega
      clear hport hp0
      go_enter Try.func47, Try.ntmps47
      go_wp2_with (first | (go_at_call 20; (with_reducible refine (HTO.out _ (HP.out.on (by (first | ((repeat (first | with_reducible exact Junk.refl _ | with_reducible exact Junk.app _ _ _ _ _ | with_reducible apply Junk.alloc | with_reducible apply Junk.junk | with_reducible apply Junk.drew | with_reducible apply Junk.drewN)); done) | ((try simp only [World.junk_junk, Array.append_assoc]); (repeat (first | with_reducible exact Junk.refl _ | with_reducible exact Junk.app _ _ _ _ _ | with_reducible exact Junk.app2 _ _ _ _ _ _ | with_reducible exact Junk.app3 _ _ _ _ _ _ _ | with_reducible exact Junk.app4 _ _ _ _ _ _ _ _ | with_reducible exact Junk.app5 _ _ _ _ _ _ _ _ _ | with_reducible apply Junk.alloc | with_reducible apply Junk.junk | with_reducible apply Junk.drew | with_reducible apply Junk.drewN))))))).mono ?_); rintro e w' ⟨rfl, ⟨osT, dT, rfl⟩⟩))
      go_returns
      exact rtX_bad HE.out (by decide) (by (first | ((repeat (first | with_reducible exact Junk.refl _ | with_reducible exact Junk.app _ _ _ _ _ | with_reducible apply Junk.alloc | with_reducible apply Junk.junk | with_reducible apply Junk.drew | with_reducible apply Junk.drewN)); done) | ((try simp only [World.junk_junk, Array.append_assoc]); (repeat (first | with_reducible exact Junk.refl _ | with_reducible exact Junk.app _ _ _ _ _ | with_reducible exact Junk.app2 _ _ _ _ _ _ | with_reducible exact Junk.app3 _ _ _ _ _ _ _ | with_reducible exact Junk.app4 _ _ _ _ _ _ _ _ | with_reducible exact Junk.app5 _ _ _ _ _ _ _ _ _ | with_reducible apply Junk.alloc | with_reducible apply Junk.junk | with_reducible apply Junk.drew | with_reducible apply Junk.drewN)))))
  have hE : rwErr p port = 0 := by unfold rwErr; rw [if_neg (by rw [h0]; decide), if_neg (by omega)]
  obtain ⟨_, h8, _⟩ := of_zero25 h0
  have hkl := of_len h0
  by_cases h1 : p.proto = 1
  · have := rturnS_icmp p oo ob oc bc addr port w hP hl hol haddr hport h0 h8 _ rfl hkl _ rfl h1 0 rfl
    refine this.mono fun e w' h => .inr ⟨hE, ?_⟩
    unfold rwS rwB
    rw [if_pos h1]
    exact h
  · have := rturnS_ok p oo ob oc bc addr port w hP hl hol haddr hport h0 h8 _ rfl hkl _ rfl h1 0 rfl
    refine this.mono fun e w' h => .inr ⟨hE, ?_⟩
    unfold rwS rwB
    rw [if_neg h1]
    exact h
set_option maxHeartbeats 4000000 in
theorem rsrc_any (p : Ip) (oo ob : Option Addr) (oc bc : Nat) (addr port : Int) (w : World) (hP : IpAt w p oo oc ob bc) (hl : p.bl ≤ 100000000) (hol : p.ol ≤ 100000000) (haddr : 0 ≤ addr ∧ addr ≤ 4294967295) :
    Calls Try.prog 22 #[.agg #[.int .i64 p.tos, .int .i64 p.id, .bool p.df, .bool p.mf, .int .i64 p.off, .int .i64 p.ttl, .int .i64 p.proto, .int .u32 p.src, .int .u32 p.dst, .slice oo p.ol oc, .slice ob p.bl bc], .int .u32 addr, .int .i64 port] w (RtX w (rwErr p port) (rwS p addr port)) := by
  have HP := Lib.hid hP
  clear hP
  by_cases h0 : rwErr p port = 0
  · have HT := Lib.hid (fun w1 (hp : IpAt w1 p oo oc ob bc) => (rturnS_any p oo ob oc bc addr port w1 hp hl hol haddr).mono fun e w' h => h.ok h0)
    have HE := Lib.hid h0
    clear h0
    unfold RtM at HT
    obtain ⟨q, hq⟩ : ∃ q, rwS p addr port = q := ⟨_, rfl⟩
    rw [hq] at HT ⊢
    have HQ := Lib.hid hq
    clear hq
    go_enter Try.func22, Try.ntmps22
    go_wp2_with (first | (go_at_call 47; (with_reducible refine (HT.out _ (HP.out.on (by (first | ((repeat (first | with_reducible exact Junk.refl _ | with_reducible exact Junk.app _ _ _ _ _ | with_reducible apply Junk.alloc | with_reducible apply Junk.junk | with_reducible apply Junk.drew | with_reducible apply Junk.drewN)); done) | ((try simp only [World.junk_junk, Array.append_assoc]); (repeat (first | with_reducible exact Junk.refl _ | with_reducible exact Junk.app _ _ _ _ _ | with_reducible exact Junk.app2 _ _ _ _ _ _ | with_reducible exact Junk.app3 _ _ _ _ _ _ _ | with_reducible exact Junk.app4 _ _ _ _ _ _ _ _ | with_reducible exact Junk.app5 _ _ _ _ _ _ _ _ _ | with_reducible apply Junk.alloc | with_reducible apply Junk.junk | with_reducible apply Junk.drew | with_reducible apply Junk.drewN))))))).mono ?_); rintro e w' ⟨oo2, ob2, oc2, bc2, rfl, ⟨os2, d2, rfl⟩, hP2⟩; have HP2 := Lib.hid hP2; clear hP2))
    go_returns
    exact .inr ⟨HE.out, oo2, ob2, oc2, bc2, rfl, by (first | ((repeat (first | with_reducible exact Junk.refl _ | with_reducible exact Junk.app _ _ _ _ _ | with_reducible apply Junk.alloc | with_reducible apply Junk.junk | with_reducible apply Junk.drew | with_reducible apply Junk.drewN)); done) | ((try simp only [World.junk_junk, Array.append_assoc]); (repeat (first | with_reducible exact Junk.refl _ | with_reducible exact Junk.app _ _ _ _ _ | with_reducible exact Junk.app2 _ _ _ _ _ _ | with_reducible exact Junk.app3 _ _ _ _ _ _ _ | with_reducible exact Junk.app4 _ _ _ _ _ _ _ _ | with_reducible exact Junk.app5 _ _ _ _ _ _ _ _ _ | with_reducible apply Junk.alloc | with_reducible apply Junk.junk | with_reducible apply Junk.drew | with_reducible apply Junk.drewN)))), ipAt_over25 HP2.out ip0_nb⟩
  · have HT := Lib.hid (fun w1 (hp : IpAt w1 p oo oc ob bc) => (rturnS_any p oo ob oc bc addr port w1 hp hl hol haddr).mono fun e w' h => h.bad h0)
    obtain ⟨E, hE⟩ : ∃ E, rwErr p port = E := ⟨_, rfl⟩
    rw [hE] at HT h0
    have HE := Lib.hid hE
    have H0 := Lib.hid h0
    clear h0 hE
    go_enter Try.func22, Try.ntmps22
    go_wp2_with (first | (go_at_call 47; (with_reducible refine (HT.out _ (HP.out.on (by (first | ((repeat (first | with_reducible exact Junk.refl _ | with_reducible exact Junk.app _ _ _ _ _ | with_reducible apply Junk.alloc | with_reducible apply Junk.junk | with_reducible apply Junk.drew | with_reducible apply Junk.drewN)); done) | ((try simp only [World.junk_junk, Array.append_assoc]); (repeat (first | with_reducible exact Junk.refl _ | with_reducible exact Junk.app _ _ _ _ _ | with_reducible exact Junk.app2 _ _ _ _ _ _ | with_reducible exact Junk.app3 _ _ _ _ _ _ _ | with_reducible exact Junk.app4 _ _ _ _ _ _ _ _ | with_reducible exact Junk.app5 _ _ _ _ _ _ _ _ _ | with_reducible apply Junk.alloc | with_reducible apply Junk.junk | with_reducible apply Junk.drew | with_reducible apply Junk.drewN))))))).mono ?_); rintro e w' ⟨rfl, ⟨os2, d2, rfl⟩⟩))
    go_returns
    exact rtX_bad HE.out H0.out (by (first | ((repeat (first | with_reducible exact Junk.refl _ | with_reducible exact Junk.app _ _ _ _ _ | with_reducible apply Junk.alloc | with_reducible apply Junk.junk | with_reducible apply Junk.drew | with_reducible apply Junk.drewN)); done) | ((try simp only [World.junk_junk, Array.append_assoc]); (repeat (first | with_reducible exact Junk.refl _ | with_reducible exact Junk.app _ _ _ _ _ | with_reducible exact Junk.app2 _ _ _ _ _ _ | with_reducible exact Junk.app3 _ _ _ _ _ _ _ | with_reducible exact Junk.app4 _ _ _ _ _ _ _ _ | with_reducible exact Junk.app5 _ _ _ _ _ _ _ _ _ | with_reducible apply Junk.alloc | with_reducible apply Junk.junk | with_reducible apply Junk.drew | with_reducible apply Junk.drewN)))))
set_option maxHeartbeats 4000000 in
theorem rturnD_any (p : Ip) (oo ob : Option Addr) (oc bc : Nat) (addr port : Int) (w : World) (hP : IpAt w p oo oc ob bc) (hl : p.bl ≤ 100000000) (hol : p.ol ≤ 100000000) (haddr : 0 ≤ addr ∧ addr ≤ 4294967295) :
    Calls Try.prog 47 #[.agg #[.int .i64 2, .func (.func 78) #[] #[]], .agg #[.int .i64 p.tos, .int .i64 p.id, .bool p.df, .bool p.mf, .int .i64 p.off, .int .i64 p.ttl, .int .i64 p.proto, .int .u32 p.src, .int .u32 p.dst, .slice oo p.ol oc, .slice ob p.bl bc], .int .u32 addr, .int .i64 port] w (RtX w (rwErr p port) (rwD p addr port)) := by
  by_cases h0 : ofErr p.mf p.off p.proto p.src p.dst p.body p.bl = 0
  case neg =>
    have HP := Lib.hid hP
    obtain ⟨E, hE⟩ : ∃ E, ofErr p.mf p.off p.proto p.src p.dst p.body p.bl = E := ⟨_, rfl⟩
    have HE := Lib.hid (show rwErr p port = E by unfold rwErr; rw [if_pos h0]; exact hE)
    have HTO := Lib.hid (fun w1 (hp : IpAt w1 p oo oc ob bc) => show Calls Try.prog 20 #[.agg #[.int .i64 p.tos, .int .i64 p.id, .bool p.df, .bool p.mf, .int .i64 p.off, .int .i64 p.ttl, .int .i64 p.proto, .int .u32 p.src, .int .u32 p.dst, .slice oo p.ol oc, .slice ob p.bl bc]] w1 fun e w' => e = .returned (.tuple #[.agg #[.int .i64 0, .int .u32 0, .int .i64 0, .int .u32 0, .int .i64 0], .int .i64 E]) ∧ Junk w1 w' by
      have := tup_of_any (.int .i64 p.tos) (.int .i64 p.id) (.bool p.df) (.int .i64 p.ttl) (.slice oo p.ol oc) p.mf p.off p.proto p.src p.dst ob p.bl bc p.body w1 hp.src hp.dst hl hp.body
      rw [show ofTup p.mf p.off p.proto p.src p.dst p.body p.bl = ⟨0, 0, 0, 0, 0⟩ by unfold ofTup; rw [if_neg h0], hE] at this
      exact this)
    rw [hE] at h0
    have hne : (E != 0) = true := by simpa using h0
    have H0 := Lib.hid h0
    clear hE h0 hP
    go_enter Try.func47, Try.ntmps47
    go_wp2_with (first | (go_at_call 20; (with_reducible refine (HTO.out _ (HP.out.on (by (first | ((repeat (first | with_reducible exact Junk.refl _ | with_reducible exact Junk.app _ _ _ _ _ | with_reducible apply Junk.alloc | with_reducible apply Junk.junk | with_reducible apply Junk.drew | with_reducible apply Junk.drewN)); done) | ((try simp only [World.junk_junk, Array.append_assoc]); (repeat (first | with_reducible exact Junk.refl _ | with_reducible exact Junk.app _ _ _ _ _ | with_reducible exact Junk.app2 _ _ _ _ _ _ | with_reducible exact Junk.app3 _ _ _ _ _ _ _ | with_reducible exact Junk.app4 _ _ _ _ _ _ _ _ | with_reducible exact Junk.app5 _ _ _ _ _ _ _ _ _ | with_reducible apply Junk.alloc | with_reducible apply Junk.junk | with_reducible apply Junk.drew | with_reducible apply Junk.drewN))))))).mono ?_); rintro e w' ⟨rfl, ⟨osT, dT, rfl⟩⟩))
    go_returns
    exact rtX_bad HE.out H0.out (by (first | ((repeat (first | with_reducible exact Junk.refl _ | with_reducible exact Junk.app _ _ _ _ _ | with_reducible apply Junk.alloc | with_reducible apply Junk.junk | with_reducible apply Junk.drew | with_reducible apply Junk.drewN)); done) | ((try simp only [World.junk_junk, Array.append_assoc]); (repeat (first | with_reducible exact Junk.refl _ | with_reducible exact Junk.app _ _ _ _ _ | with_reducible exact Junk.app2 _ _ _ _ _ _ | with_reducible exact Junk.app3 _ _ _ _ _ _ _ | with_reducible exact Junk.app4 _ _ _ _ _ _ _ _ | with_reducible exact Junk.app5 _ _ _ _ _ _ _ _ _ | with_reducible apply Junk.alloc | with_reducible apply Junk.junk | with_reducible apply Junk.drew | with_reducible apply Junk.drewN)))))
  by_cases hport : 0 ≤ port ∧ port ≤ 65535
  case neg =>
    have HP := Lib.hid hP
    obtain ⟨⟨t0, t1, t2, t3, t4⟩, hT⟩ : ∃ t, ofTup p.mf p.off p.proto p.src p.dst p.body p.bl = t := ⟨_, rfl⟩
    have HE := Lib.hid (show rwErr p port = 1 by unfold rwErr; rw [if_neg (by rw [h0]; decide), if_pos (by omega)])
    have HTO := Lib.hid (fun w1 (hp : IpAt w1 p oo oc ob bc) => show Calls Try.prog 20 #[.agg #[.int .i64 p.tos, .int .i64 p.id, .bool p.df, .bool p.mf, .int .i64 p.off, .int .i64 p.ttl, .int .i64 p.proto, .int .u32 p.src, .int .u32 p.dst, .slice oo p.ol oc, .slice ob p.bl bc]] w1 fun e w' => e = .returned (.tuple #[.agg #[.int .i64 t0, .int .u32 t1, .int .i64 t2, .int .u32 t3, .int .i64 t4], .int .i64 0]) ∧ Junk w1 w' by
      have := tup_of_any (.int .i64 p.tos) (.int .i64 p.id) (.bool p.df) (.int .i64 p.ttl) (.slice oo p.ol oc) p.mf p.off p.proto p.src p.dst ob p.bl bc p.body w1 hp.src hp.dst hl hp.body
      rw [hT, h0] at this
      exact this)
    clear h0 hT hP
    by_cases hp0 : 0 ≤ port
    · have hp1 : 65535 < port := by omega
      have hp2 : ¬ port < 0 := by omega
      clear hport
      go_enter Try.func47, Try.ntmps47
      go_wp2_with (first | (go_at_call 20; (with_reducible refine (HTO.out _ (HP.out.on (by (first | ((repeat (first | with_reducible exact Junk.refl _ | with_reducible exact Junk.app _ _ _ _ _ | with_reducible apply Junk.alloc | with_reducible apply Junk.junk | with_reducible apply Junk.drew | with_reducible apply Junk.drewN)); done) | ((try simp only [World.junk_junk, Array.append_assoc]); (repeat (first | with_reducible exact Junk.refl _ | with_reducible exact Junk.app _ _ _ _ _ | with_reducible exact Junk.app2 _ _ _ _ _ _ | with_reducible exact Junk.app3 _ _ _ _ _ _ _ | with_reducible exact Junk.app4 _ _ _ _ _ _ _ _ | with_reducible exact Junk.app5 _ _ _ _ _ _ _ _ _ | with_reducible apply Junk.alloc | with_reducible apply Junk.junk | with_reducible apply Junk.drew | with_reducible apply Junk.drewN))))))).mono ?_); rintro e w' ⟨rfl, ⟨osT, dT, rfl⟩⟩))
      go_returns
      exact rtX_bad HE.out (by decide) (by (first | ((repeat (first | with_reducible exact Junk.refl _ | with_reducible exact Junk.app _ _ _ _ _ | with_reducible apply Junk.alloc | with_reducible apply Junk.junk | with_reducible apply Junk.drew | with_reducible apply Junk.drewN)); done) | ((try simp only [World.junk_junk, Array.append_assoc]); (repeat (first | with_reducible exact Junk.refl _ | with_reducible exact Junk.app _ _ _ _ _ | with_reducible exact Junk.app2 _ _ _ _ _ _ | with_reducible exact Junk.app3 _ _ _ _ _ _ _ | with_reducible exact Junk.app4 _ _ _ _ _ _ _ _ | with_reducible exact Junk.app5 _ _ _ _ _ _ _ _ _ | with_reducible apply Junk.alloc | with_reducible apply Junk.junk | with_reducible apply Junk.drew | with_reducible apply Junk.drewN)))))
    · have hp1 : port < 0 := by omega
      clear hport hp0
      go_enter Try.func47, Try.ntmps47
      go_wp2_with (first | (go_at_call 20; (with_reducible refine (HTO.out _ (HP.out.on (by (first | ((repeat (first | with_reducible exact Junk.refl _ | with_reducible exact Junk.app _ _ _ _ _ | with_reducible apply Junk.alloc | with_reducible apply Junk.junk | with_reducible apply Junk.drew | with_reducible apply Junk.drewN)); done) | ((try simp only [World.junk_junk, Array.append_assoc]); (repeat (first | with_reducible exact Junk.refl _ | with_reducible exact Junk.app _ _ _ _ _ | with_reducible exact Junk.app2 _ _ _ _ _ _ | with_reducible exact Junk.app3 _ _ _ _ _ _ _ | with_reducible exact Junk.app4 _ _ _ _ _ _ _ _ | with_reducible exact Junk.app5 _ _ _ _ _ _ _ _ _ | with_reducible apply Junk.alloc | with_reducible apply Junk.junk | with_reducible apply Junk.drew | with_reducible apply Junk.drewN))))))).mono ?_); rintro e w' ⟨rfl, ⟨osT, dT, rfl⟩⟩))
      go_returns
      exact rtX_bad HE.out (by decide) (by (first | ((repeat (first | with_reducible exact Junk.refl _ | with_reducible exact Junk.app _ _ _ _ _ | with_reducible apply Junk.alloc | with_reducible apply Junk.junk | with_reducible apply Junk.drew | with_reducible apply Junk.drewN)); done) | ((try simp only [World.junk_junk, Array.append_assoc]); (repeat (first | with_reducible exact Junk.refl _ | with_reducible exact Junk.app _ _ _ _ _ | with_reducible exact Junk.app2 _ _ _ _ _ _ | with_reducible exact Junk.app3 _ _ _ _ _ _ _ | with_reducible exact Junk.app4 _ _ _ _ _ _ _ _ | with_reducible exact Junk.app5 _ _ _ _ _ _ _ _ _ | with_reducible apply Junk.alloc | with_reducible apply Junk.junk | with_reducible apply Junk.drew | with_reducible apply Junk.drewN)))))
  have hE : rwErr p port = 0 := by unfold rwErr; rw [if_neg (by rw [h0]; decide), if_neg (by omega)]
  obtain ⟨_, h8, _⟩ := of_zero25 h0
  have hkl := of_len h0
  by_cases h1 : p.proto = 1
  · have := rturnD_icmp p oo ob oc bc addr port w hP hl hol haddr hport h0 h8 _ rfl hkl _ rfl h1 2 rfl
    refine this.mono fun e w' h => .inr ⟨hE, ?_⟩
    unfold rwD rwB
    rw [if_pos h1]
    exact h
  · have := rturnD_ok p oo ob oc bc addr port w hP hl hol haddr hport h0 h8 _ rfl hkl _ rfl h1 2 rfl
    refine this.mono fun e w' h => .inr ⟨hE, ?_⟩
    unfold rwD rwB
    rw [if_neg h1]
    exact h
set_option maxHeartbeats 4000000 in
theorem rdst_any (p : Ip) (oo ob : Option Addr) (oc bc : Nat) (addr port : Int) (w : World) (hP : IpAt w p oo oc ob bc) (hl : p.bl ≤ 100000000) (hol : p.ol ≤ 100000000) (haddr : 0 ≤ addr ∧ addr ≤ 4294967295) :
    Calls Try.prog 45 #[.agg #[.int .i64 p.tos, .int .i64 p.id, .bool p.df, .bool p.mf, .int .i64 p.off, .int .i64 p.ttl, .int .i64 p.proto, .int .u32 p.src, .int .u32 p.dst, .slice oo p.ol oc, .slice ob p.bl bc], .int .u32 addr, .int .i64 port] w (RtX w (rwErr p port) (rwD p addr port)) := by
  have HP := Lib.hid hP
  clear hP
  by_cases h0 : rwErr p port = 0
  · have HT := Lib.hid (fun w1 (hp : IpAt w1 p oo oc ob bc) => (rturnD_any p oo ob oc bc addr port w1 hp hl hol haddr).mono fun e w' h => h.ok h0)
    have HE := Lib.hid h0
    clear h0
    unfold RtM at HT
    obtain ⟨q, hq⟩ : ∃ q, rwD p addr port = q := ⟨_, rfl⟩
    rw [hq] at HT ⊢
    have HQ := Lib.hid hq
    clear hq
    go_enter Try.func45, Try.ntmps45
    go_wp2_with (first | (go_at_call 47; (with_reducible refine (HT.out _ (HP.out.on (by (first | ((repeat (first | with_reducible exact Junk.refl _ | with_reducible exact Junk.app _ _ _ _ _ | with_reducible apply Junk.alloc | with_reducible apply Junk.junk | with_reducible apply Junk.drew | with_reducible apply Junk.drewN)); done) | ((try simp only [World.junk_junk, Array.append_assoc]); (repeat (first | with_reducible exact Junk.refl _ | with_reducible exact Junk.app _ _ _ _ _ | with_reducible exact Junk.app2 _ _ _ _ _ _ | with_reducible exact Junk.app3 _ _ _ _ _ _ _ | with_reducible exact Junk.app4 _ _ _ _ _ _ _ _ | with_reducible exact Junk.app5 _ _ _ _ _ _ _ _ _ | with_reducible apply Junk.alloc | with_reducible apply Junk.junk | with_reducible apply Junk.drew | with_reducible apply Junk.drewN))))))).mono ?_); rintro e w' ⟨oo2, ob2, oc2, bc2, rfl, ⟨os2, d2, rfl⟩, hP2⟩; have HP2 := Lib.hid hP2; clear hP2))
    go_returns
    exact .inr ⟨HE.out, oo2, ob2, oc2, bc2, rfl, by (first | ((repeat (first | with_reducible exact Junk.refl _ | with_reducible exact Junk.app _ _ _ _ _ | with_reducible apply Junk.alloc | with_reducible apply Junk.junk | with_reducible apply Junk.drew | with_reducible apply Junk.drewN)); done) | ((try simp only [World.junk_junk, Array.append_assoc]); (repeat (first | with_reducible exact Junk.refl _ | with_reducible exact Junk.app _ _ _ _ _ | with_reducible exact Junk.app2 _ _ _ _ _ _ | with_reducible exact Junk.app3 _ _ _ _ _ _ _ | with_reducible exact Junk.app4 _ _ _ _ _ _ _ _ | with_reducible exact Junk.app5 _ _ _ _ _ _ _ _ _ | with_reducible apply Junk.alloc | with_reducible apply Junk.junk | with_reducible apply Junk.drew | with_reducible apply Junk.drewN)))), ipAt_over25 HP2.out ip0_nb⟩
  · have HT := Lib.hid (fun w1 (hp : IpAt w1 p oo oc ob bc) => (rturnD_any p oo ob oc bc addr port w1 hp hl hol haddr).mono fun e w' h => h.bad h0)
    obtain ⟨E, hE⟩ : ∃ E, rwErr p port = E := ⟨_, rfl⟩
    rw [hE] at HT h0
    have HE := Lib.hid hE
    have H0 := Lib.hid h0
    clear h0 hE
    go_enter Try.func45, Try.ntmps45
    go_wp2_with (first | (go_at_call 47; (with_reducible refine (HT.out _ (HP.out.on (by (first | ((repeat (first | with_reducible exact Junk.refl _ | with_reducible exact Junk.app _ _ _ _ _ | with_reducible apply Junk.alloc | with_reducible apply Junk.junk | with_reducible apply Junk.drew | with_reducible apply Junk.drewN)); done) | ((try simp only [World.junk_junk, Array.append_assoc]); (repeat (first | with_reducible exact Junk.refl _ | with_reducible exact Junk.app _ _ _ _ _ | with_reducible exact Junk.app2 _ _ _ _ _ _ | with_reducible exact Junk.app3 _ _ _ _ _ _ _ | with_reducible exact Junk.app4 _ _ _ _ _ _ _ _ | with_reducible exact Junk.app5 _ _ _ _ _ _ _ _ _ | with_reducible apply Junk.alloc | with_reducible apply Junk.junk | with_reducible apply Junk.drew | with_reducible apply Junk.drewN))))))).mono ?_); rintro e w' ⟨rfl, ⟨os2, d2, rfl⟩⟩))
    go_returns
    exact rtX_bad HE.out H0.out (by (first | ((repeat (first | with_reducible exact Junk.refl _ | with_reducible exact Junk.app _ _ _ _ _ | with_reducible apply Junk.alloc | with_reducible apply Junk.junk | with_reducible apply Junk.drew | with_reducible apply Junk.drewN)); done) | ((try simp only [World.junk_junk, Array.append_assoc]); (repeat (first | with_reducible exact Junk.refl _ | with_reducible exact Junk.app _ _ _ _ _ | with_reducible exact Junk.app2 _ _ _ _ _ _ | with_reducible exact Junk.app3 _ _ _ _ _ _ _ | with_reducible exact Junk.app4 _ _ _ _ _ _ _ _ | with_reducible exact Junk.app5 _ _ _ _ _ _ _ _ _ | with_reducible apply Junk.alloc | with_reducible apply Junk.junk | with_reducible apply Junk.drew | with_reducible apply Junk.drewN)))))
end Go.Proofs.Ytnefphinmjeacaa
set_option linter.unusedVariables false
set_option maxRecDepth 100000
set_option linter.unusedSimpArgs false
namespace Go.Proofs.Ytnefphinmjeacaa
open Go.RowKit
theorem w2_byte {xs : Nat → Int} {k l : Nat} {v : Int} (hx : ∀ i, i < l → 0 ≤ xs i ∧ xs i ≤ 255) (hv : 0 ≤ v ∧ v ≤ 65535) : ∀ i, i < l → 0 ≤ w2 xs k v i ∧ w2 xs k v i ≤ 255 := fun i hi => by
  by_cases h1 : i = k
  · subst h1; rw [w2_hi]; omega
  · by_cases h2 : i = k + 1
    · subst h2; rw [w2_lo]; omega
    · rw [w2_ne h1 h2]; exact hx i hi
theorem bmI_byte {pl : Bool} {xs : Nat → Int} {k l : Nat} {o n : Int} (hk : k + 2 ≤ l) (hx : ∀ i, i < l → 0 ≤ xs i ∧ xs i ≤ 255) (ho : 0 ≤ o ∧ o ≤ 65535) (hn : 0 ≤ n ∧ n ≤ 65535) : ∀ i, i < l → 0 ≤ bmI pl k xs o n i ∧ bmI pl k xs o n i ≤ 255 := by
  unfold bmI
  split
  · exact hx
  · exact w2_byte hx (mendI_bd (wd_bd (hx k (by omega)) (hx (k + 1) (by omega))) ho hn)
theorem rwFin_byte {pl : Bool} {xs : Nat → Int} {k l : Nat} (hx : ∀ i, i < l → 0 ≤ xs i ∧ xs i ≤ 255) : ∀ i, i < l → 0 ≤ rwFin pl k xs i ∧ rwFin pl k xs i ≤ 255 := by
  unfold rwFin
  split
  · exact hx
  · split
    · exact w2_byte hx (by decide)
    · exact hx
theorem rwB_byte {pr : Int} {xs : Nat → Int} {own addr port : Int} {P l : Nat} (hP : P = 0 ∨ P = 2) (hx : ∀ i, i < l → 0 ≤ xs i ∧ xs i ≤ 255) (hl8 : 8 ≤ l) (hkl : rwSum pr + 2 ≤ l)
    (ho : 0 ≤ own ∧ own ≤ 4294967295) (ha : 0 ≤ addr ∧ addr ≤ 4294967295) (hp : 0 ≤ port ∧ port ≤ 65535) : ∀ i, i < l → 0 ≤ rwB pr xs own addr port P i ∧ rwB pr xs own addr port P i ≤ 255 := by
  have h4 := wd_bd (hx 4 (by omega)) (hx 5 (by omega))
  have hPb := wd_bd (hx P (by omega)) (hx (P + 1) (by omega))
  unfold rwB
  split
  · exact rwFin_byte (w2_byte (bmI_byte hkl hx h4 hp) hp)
  · exact rwFin_byte (bmI_byte hkl (bmI_byte hkl (w2_byte (bmI_byte hkl hx hPb hp) hp) (by omega) (by omega)) (by omega) (by omega))
theorem rest_wd {xs : Nat → Int} {l : Nat} (hl : 8 ≤ l) (hx : ∀ i, i < l → 0 ≤ xs i ∧ xs i ≤ 255) : pRest xs / 65536 = wd xs 4 := by
  have h4 := hx 4 (by omega); have h5 := hx 5 (by omega); have h6 := hx 6 (by omega); have h7 := hx 7 (by omega)
  unfold pRest
  show _ = xs 4 * 256 + xs 5
  omega
theorem prS_wd {pr : Int} {xs : Nat → Int} {l : Nat} (hl : 8 ≤ l) (hx : ∀ i, i < l → 0 ≤ xs i ∧ xs i ≤ 255) : prS pr xs = wd xs (rwAt pr 0) := by
  unfold prS rwAt
  split
  · exact rest_wd hl hx
  · rfl
theorem prD_wd {pr : Int} {xs : Nat → Int} {l : Nat} (hl : 8 ≤ l) (hx : ∀ i, i < l → 0 ≤ xs i ∧ xs i ≤ 255) : prD pr xs = wd xs (rwAt pr 2) := by
  unfold prD rwAt
  split
  · exact rest_wd hl hx
  · rfl
abbrev Ip.err (p : Ip) : Int := ofErr p.mf p.off p.proto p.src p.dst p.body p.bl
abbrev Ip.tup (p : Ip) : Tup := ofTup p.mf p.off p.proto p.src p.dst p.body p.bl
/-- A packet whose fields are what they have to be. -/
structure IpW (p : Ip) : Prop where
  src : 0 ≤ p.src ∧ p.src ≤ 4294967295
  dst : 0 ≤ p.dst ∧ p.dst ≤ 4294967295
  body : ∀ i, i < p.bl → 0 ≤ p.body i ∧ p.body i ≤ 255
theorem IpAt.w {w : World} {p : Ip} {oo ob : Option Addr} {oc bc : Nat} (h : IpAt w p oo oc ob bc) : IpW p := ⟨h.src, h.dst, h.body.byte⟩
theorem tup_ok {p : Ip} (h : p.err = 0) : p.tup = ⟨p.proto, p.src, prS p.proto p.body, p.dst, prD p.proto p.body⟩ := by unfold Ip.tup ofTup; rw [if_pos h]
theorem rwAt_le (pr : Int) {P : Nat} (hP : P = 0 ∨ P = 2) : rwAt pr P ≤ 4 ∧ (pr ≠ 1 → rwAt pr P = P) ∧ (pr = 1 → rwAt pr P = 4) := by
  unfold rwAt
  split
  · exact ⟨by omega, fun h => absurd ‹_› h, fun _ => rfl⟩
  · exact ⟨by omega, fun _ => rfl, fun h => absurd h ‹_›⟩
section
variable {p : Ip} {addr port : Int} (h0 : p.err = 0) (hw : IpW p) (ha : 0 ≤ addr ∧ addr ≤ 4294967295) (hp : 0 ≤ port ∧ port ≤ 65535)
include h0 hw ha hp
theorem rwS_rel : RwB p.body (rwS p addr port).body (rwSum p.proto) (rwAt p.proto 0) port (if p.proto = 1 then 0 else adW p.src - adW addr) (rwPlain p.proto p.body) :=
  rwB_plain (l := p.bl) (.inl rfl) hw.body (of_zero25 h0).2.1 (of_len h0) hw.src ha hp
theorem rwD_rel : RwB p.body (rwD p addr port).body (rwSum p.proto) (rwAt p.proto 2) port (if p.proto = 1 then 0 else adW p.dst - adW addr) (rwPlain p.proto p.body) :=
  rwB_plain (l := p.bl) (.inr rfl) hw.body (of_zero25 h0).2.1 (of_len h0) hw.dst ha hp
theorem rwS_w : IpW (rwS p addr port) := ⟨ha, hw.dst, rwB_byte (.inl rfl) hw.body (of_zero25 h0).2.1 (of_len h0) hw.src ha hp⟩
theorem rwD_w : IpW (rwD p addr port) := ⟨hw.src, ha, rwB_byte (.inr rfl) hw.body (of_zero25 h0).2.1 (of_len h0) hw.dst ha hp⟩
theorem rwS_err : (rwS p addr port).err = 0 :=
  of_turned (P := 0) (D := adW p.src - adW addr) h0 (.inl rfl) hw.body (rwS_w h0 hw ha hp).body (rwS_rel h0 hw ha hp) (by show _ = adW p.src + adW p.dst - adW addr - adW p.dst; omega) ha hw.dst hw.src.1 hw.dst.1
theorem rwD_err : (rwD p addr port).err = 0 :=
  of_turned (P := 2) (D := adW p.dst - adW addr) h0 (.inr rfl) hw.body (rwD_w h0 hw ha hp).body (rwD_rel h0 hw ha hp) (by show _ = adW p.src + adW p.dst - adW p.src - adW addr; omega) hw.src ha hw.src.1 hw.dst.1
theorem rwS_tup : (rwS p addr port).tup = ⟨p.proto, addr, port, p.dst, if p.proto = 1 then port else prD p.proto p.body⟩ := by
  have h8 := (of_zero25 h0).2.1
  have hq := rwS_w h0 hw ha hp
  have hR := rwS_rel h0 hw ha hp
  rw [tup_ok (rwS_err h0 hw ha hp)]
  refine tup_ext25 rfl rfl ?_ rfl ?_
  · show prS p.proto (rwS p addr port).body = port
    rw [prS_wd (l := p.bl) h8 hq.body]
    exact hR.prt
  · show prD p.proto (rwS p addr port).body = _
    rw [prD_wd (l := p.bl) h8 hq.body]
    by_cases h1 : p.proto = 1
    · rw [if_pos h1]
      have := hR.prt
      unfold rwAt at this ⊢
      rw [if_pos h1] at this ⊢
      exact this
    · rw [if_neg h1, prD_wd (l := p.bl) h8 hw.body]
      have e0 : rwAt p.proto 0 = 0 := by unfold rwAt; rw [if_neg h1]
      have e2 : rwAt p.proto 2 = 2 := by unfold rwAt; rw [if_neg h1]
      have hk : rwSum p.proto = 6 ∨ rwSum p.proto = 16 := by rcases rwSum_cases p.proto with h | h | h <;> omega
      rw [e0] at hR
      rw [e2]
      exact wd_at (hR.same 2 (by omega) (by omega) (fun _ => by omega)) (hR.same 3 (by omega) (by omega) (fun _ => by omega))
theorem rwD_tup : (rwD p addr port).tup = ⟨p.proto, p.src, if p.proto = 1 then port else prS p.proto p.body, addr, port⟩ := by
  have h8 := (of_zero25 h0).2.1
  have hq := rwD_w h0 hw ha hp
  have hR := rwD_rel h0 hw ha hp
  rw [tup_ok (rwD_err h0 hw ha hp)]
  refine tup_ext25 rfl rfl ?_ rfl ?_
  · show prS p.proto (rwD p addr port).body = _
    rw [prS_wd (l := p.bl) h8 hq.body]
    by_cases h1 : p.proto = 1
    · rw [if_pos h1]
      have := hR.prt
      unfold rwAt at this ⊢
      rw [if_pos h1] at this ⊢
      exact this
    · rw [if_neg h1, prS_wd (l := p.bl) h8 hw.body]
      have e0 : rwAt p.proto 0 = 0 := by unfold rwAt; rw [if_neg h1]
      have e2 : rwAt p.proto 2 = 2 := by unfold rwAt; rw [if_neg h1]
      have hk : rwSum p.proto = 6 ∨ rwSum p.proto = 16 := by rcases rwSum_cases p.proto with h | h | h <;> omega
      rw [e2] at hR
      rw [e0]
      exact wd_at (hR.same 0 (by omega) (by omega) (fun _ => by omega)) (hR.same 1 (by omega) (by omega) (fun _ => by omega))
  · show prD p.proto (rwD p addr port).body = port
    rw [prD_wd (l := p.bl) h8 hq.body]
    exact hR.prt
end
/-- Both sides turned. -/
def rw2 (p : Ip) (t : Tup) : Ip := rwD (rwS p t.src t.sport) t.dst t.dport
def rw2Err (p : Ip) (t : Tup) : Int :=
  if p.proto ≠ t.proto ∨ (t.proto = 1 ∧ t.sport ≠ t.dport) then 1 else if rwErr p t.sport ≠ 0 then rwErr p t.sport else rwErr (rwS p t.src t.sport) t.dport
/-- Words of what was turned at both sides. -/
structure Rw2 (p q : Ip) (t : Tup) : Prop where
  err : q.err = 0
  tup : q.tup = t
  w : IpW q
  same : ∀ i, i ≠ rwAt p.proto 0 → i ≠ rwAt p.proto 0 + 1 → i ≠ rwAt p.proto 2 → i ≠ rwAt p.proto 2 + 1 → (rwPlain p.proto p.body = false → i ≠ rwSum p.proto ∧ i ≠ rwSum p.proto + 1) → q.body i = p.body i
  plain : rwPlain p.proto q.body = rwPlain p.proto p.body
  src : wd q.body (rwAt p.proto 0) = t.sport
  dst : wd q.body (rwAt p.proto 2) = t.dport
theorem rwErr_ok {p : Ip} {port : Int} (h : rwErr p port = 0) : p.err = 0 ∧ 0 ≤ port ∧ port ≤ 65535 := by
  unfold rwErr at h
  split at h
  · rename_i g; exact absurd h g
  · rename_i g
    split at h
    · cases h
    · exact ⟨Decidable.of_not_not g, by omega⟩
theorem rwErr_of {p : Ip} {port : Int} (h0 : p.err = 0) (hp : 0 ≤ port ∧ port ≤ 65535) : rwErr p port = 0 := by
  unfold rwErr
  rw [if_neg (by rw [show ofErr p.mf p.off p.proto p.src p.dst p.body p.bl = 0 from h0]; decide), if_neg (by omega)]
theorem plain_kept {pr : Int} {xs ys : Nat → Int} {a : Nat} {port D : Int} (ha : a ≤ 4) (hR : RwB xs ys (rwSum pr) a port D (rwPlain pr xs)) : rwPlain pr ys = rwPlain pr xs := by
  by_cases h17 : pr = 17
  · subst h17
    have hk : rwSum 17 = 6 := rfl
    rw [hk] at hR
    cases hpl : rwPlain 17 xs with
    | true =>
      obtain ⟨_, hz⟩ := rwPlain_17 hpl
      have hw : wd ys 6 = wd xs 6 := wd_at (hR.same 6 (by omega) (by omega) (fun h => by rw [hpl] at h; cases h)) (hR.same 7 (by omega) (by omega) (fun h => by rw [hpl] at h; cases h))
      unfold rwPlain
      rw [hw, hz]
      decide
    | false =>
      have := (hR.sum hpl).1
      unfold rwPlain
      simp only [decide_eq_false_iff_not, not_and]
      omega
  · rw [rwPlain_not h17, rwPlain_not h17]
theorem rw2_ok {p : Ip} {t : Tup} (h : rw2Err p t = 0) (hw : IpW p) (hs : 0 ≤ t.src ∧ t.src ≤ 4294967295) (hd : 0 ≤ t.dst ∧ t.dst ≤ 4294967295) : p.err = 0 ∧ p.proto = t.proto ∧ Rw2 p (rw2 p t) t := by
  unfold rw2Err at h
  split at h
  · cases h
  · rename_i g1
    have hpr : p.proto = t.proto := by omega
    have hic : t.proto = 1 → t.sport = t.dport := fun h => by omega
    split at h
    · rename_i g; exact absurd h g
    · rename_i g2
      obtain ⟨e0, p1⟩ := rwErr_ok (Decidable.of_not_not g2)
      obtain ⟨e1, p2⟩ := rwErr_ok h
      have w1 := rwS_w e0 hw hs p1
      have w2 := rwD_w e1 w1 hd p2
      have R1 := rwS_rel e0 hw hs p1
      have R2 := rwD_rel e1 w1 hd p2
      have hk1 := plain_kept (rwAt_le p.proto (.inl rfl)).1 R1
      rw [show (rwS p t.src t.sport).proto = p.proto from rfl, hk1] at R2
      have hk2 : rwPlain p.proto (rw2 p t).body = rwPlain p.proto p.body := (plain_kept (xs := (rwS p t.src t.sport).body) (rwAt_le p.proto (.inr rfl)).1 (by rw [hk1]; exact R2)).trans hk1
      have ht := rwD_tup e1 w1 hd p2
      refine ⟨e0, hpr, rwD_err e1 w1 hd p2, ?_, w2, ?_, hk2, ?_, R2.prt⟩
      · show (rwD _ _ _).tup = t
        rw [ht]
        refine tup_ext25 ?_ rfl ?_ rfl rfl |>.symm
        · exact hpr.symm
        · show t.sport = if p.proto = 1 then t.dport else prS p.proto (rwS p t.src t.sport).body
          by_cases h1 : p.proto = 1
          · rw [if_pos h1]; exact hic (hpr ▸ h1)
          · rw [if_neg h1, prS_wd (l := p.bl) (of_zero25 e0).2.1 w1.body]; exact R1.prt.symm
      · intro i q1 q2 q3 q4 q5
        exact (R2.same i q3 q4 q5).trans (R1.same i q1 q2 q5)
      · by_cases h1 : p.proto = 1
        · have := R2.prt
          have ee : rwAt p.proto 0 = rwAt p.proto 2 := by unfold rwAt; rw [if_pos h1, if_pos h1]
          rw [ee, hic (hpr ▸ h1)]
          exact this
        · have ea := (rwAt_le p.proto (P := 0) (.inl rfl)).2.1 h1
          have eb := (rwAt_le p.proto (P := 2) (.inr rfl)).2.1 h1
          have hk : rwSum p.proto = 6 ∨ rwSum p.proto = 16 := by rcases rwSum_cases p.proto with h | h | h <;> omega
          have R1p := R1.prt
          rw [ea] at R1p ⊢
          rw [eb] at R2
          exact (wd_at (R2.same 0 (by omega) (by omega) (fun _ => by omega)) (R2.same 1 (by omega) (by omega) (fun _ => by omega))).trans R1p
theorem rw2_of {p : Ip} {t : Tup} (h0 : p.err = 0) (hw : IpW p) (hpr : p.proto = t.proto) (hic : t.proto = 1 → t.sport = t.dport) (hs : 0 ≤ t.src ∧ t.src ≤ 4294967295) (h1 : 0 ≤ t.sport ∧ t.sport ≤ 65535) (h2 : 0 ≤ t.dport ∧ t.dport ≤ 65535) : rw2Err p t = 0 := by
  unfold rw2Err
  rw [if_neg (by omega), if_neg (by rw [rwErr_of h0 h1]; decide)]
  exact rwErr_of (rwS_err h0 hw hs h1) h2
/-- The tuple of a packet may be asked. -/
theorem own_may {p : Ip} (h0 : p.err = 0) (hw : IpW p) : p.tup.proto = p.proto ∧ p.tup.src = p.src ∧ p.tup.dst = p.dst ∧ (p.tup.proto = 1 → p.tup.sport = p.tup.dport) ∧ (0 ≤ p.tup.sport ∧ p.tup.sport ≤ 65535) ∧ (0 ≤ p.tup.dport ∧ p.tup.dport ≤ 65535) ∧
    p.tup.sport = wd p.body (rwAt p.proto 0) ∧ p.tup.dport = wd p.body (rwAt p.proto 2) := by
  have h8 := (of_zero25 h0).2.1
  rw [tup_ok h0]
  have e1 := prS_wd (pr := p.proto) h8 hw.body
  have e2 := prD_wd (pr := p.proto) h8 hw.body
  have l0 := rwAt_le p.proto (P := 0) (.inl rfl)
  have l2 := rwAt_le p.proto (P := 2) (.inr rfl)
  have b0 := wd_bd (hw.body (rwAt p.proto 0) (by omega)) (hw.body (rwAt p.proto 0 + 1) (by omega))
  have b2 := wd_bd (hw.body (rwAt p.proto 2) (by omega)) (hw.body (rwAt p.proto 2 + 1) (by omega))
  refine ⟨rfl, rfl, rfl, fun h => ?_, by show 0 ≤ prS p.proto p.body ∧ _; rw [e1]; exact b0, by show 0 ≤ prD p.proto p.body ∧ _; rw [e2]; exact b2, e1, e2⟩
  show prS p.proto p.body = prD p.proto p.body
  unfold prS prD
  rw [if_pos h, if_pos h]
end Go.Proofs.Ytnefphinmjeacaa
set_option linter.unusedVariables false
set_option maxRecDepth 100000
set_option linter.unusedSimpArgs false
namespace Go.Proofs.Ytnefphinmjeacaa
open Go.RowKit
theorem ipAt_swap2 {A : World} {cur cur' : Array Value} {t : TypeId} {o3 : Obj} {os1 os : Array Obj} {d1 d : Nat} {q : Ip} {oo ob : Option Addr} {oc bc : Nat}
    (h : IpAt ((((A.alloc (.cells cur t)).junk os1 d1).alloc o3).junk os d) q oo oc ob bc) (hn : ∀ (i : Nat) (v : Int), cur[i]? ≠ some (.int .u8 v)) : IpAt ((((A.alloc (.cells cur' t)).junk os1 d1).alloc o3).junk os d) q oo oc ob bc :=
  ⟨bts_swap2 h.opts hn, bts_swap2 h.body hn, h.src, h.dst⟩
set_option maxHeartbeats 4000000 in
theorem rboth_go (p : Ip) (oo ob : Option Addr) (oc bc : Nat) (tp ts sp td dp : Int) (w : World) (hP : IpAt w p oo oc ob bc) (hl : p.bl ≤ 100000000) (hol : p.ol ≤ 100000000) (hts : 0 ≤ ts ∧ ts ≤ 4294967295) (htd : 0 ≤ td ∧ td ≤ 4294967295)
    (b1 : (p.proto != tp) = false) (g : ((tp == 1) = true ∧ (sp != dp) = false) ∨ (tp == 1) = false) :
    Calls Try.prog 21 #[.agg #[.int .i64 p.tos, .int .i64 p.id, .bool p.df, .bool p.mf, .int .i64 p.off, .int .i64 p.ttl, .int .i64 p.proto, .int .u32 p.src, .int .u32 p.dst, .slice oo p.ol oc, .slice ob p.bl bc], .agg #[.int .i64 tp, .int .u32 ts, .int .i64 sp, .int .u32 td, .int .i64 dp]] w (RtX w (if rwErr p sp ≠ 0 then rwErr p sp else rwErr (rwS p ts sp) dp) (rwD (rwS p ts sp) td dp)) := by
  have HP := Lib.hid hP
  by_cases h0 : rwErr p sp = 0
  case neg =>
    have HS := Lib.hid (fun w1 (hp : IpAt w1 p oo oc ob bc) => (rsrc_any p oo ob oc bc ts sp w1 hp hl hol hts).mono fun e w' h => h.bad h0)
    obtain ⟨E, hE⟩ : ∃ E, rwErr p sp = E := ⟨_, rfl⟩
    have HE := Lib.hid (show (if rwErr p sp ≠ 0 then rwErr p sp else rwErr (rwS p ts sp) dp) = E from (if_pos h0).trans hE)
    obtain ⟨X, hX⟩ : ∃ X, (if rwErr p sp ≠ 0 then rwErr p sp else rwErr (rwS p ts sp) dp) = X := ⟨_, rfl⟩
    rw [hX] at HE ⊢
    rw [hE] at HS h0
    have H0 := Lib.hid h0
    have hne : (E != 0) = true := by simpa using h0
    clear h0 hE hP hX
    rcases g with ⟨g1, g2⟩ | g1
    · go_enter Try.func21, Try.ntmps21
      go_wp2_with (first | (go_at_call 22; (with_reducible refine (HS.out _ (HP.out.on (by (first | ((repeat (first | with_reducible exact Junk.refl _ | with_reducible exact Junk.app _ _ _ _ _ | with_reducible apply Junk.alloc | with_reducible apply Junk.junk | with_reducible apply Junk.drew | with_reducible apply Junk.drewN)); done) | ((try simp only [World.junk_junk, Array.append_assoc]); (repeat (first | with_reducible exact Junk.refl _ | with_reducible exact Junk.app _ _ _ _ _ | with_reducible exact Junk.app2 _ _ _ _ _ _ | with_reducible exact Junk.app3 _ _ _ _ _ _ _ | with_reducible exact Junk.app4 _ _ _ _ _ _ _ _ | with_reducible exact Junk.app5 _ _ _ _ _ _ _ _ _ | with_reducible apply Junk.alloc | with_reducible apply Junk.junk | with_reducible apply Junk.drew | with_reducible apply Junk.drewN))))))).mono ?_); rintro e w' ⟨rfl, ⟨os2, d2, rfl⟩⟩))
      go_returns
      exact rtX_bad HE.out H0.out (by (first | ((repeat (first | with_reducible exact Junk.refl _ | with_reducible exact Junk.app _ _ _ _ _ | with_reducible apply Junk.alloc | with_reducible apply Junk.junk | with_reducible apply Junk.drew | with_reducible apply Junk.drewN)); done) | ((try simp only [World.junk_junk, Array.append_assoc]); (repeat (first | with_reducible exact Junk.refl _ | with_reducible exact Junk.app _ _ _ _ _ | with_reducible exact Junk.app2 _ _ _ _ _ _ | with_reducible exact Junk.app3 _ _ _ _ _ _ _ | with_reducible exact Junk.app4 _ _ _ _ _ _ _ _ | with_reducible exact Junk.app5 _ _ _ _ _ _ _ _ _ | with_reducible apply Junk.alloc | with_reducible apply Junk.junk | with_reducible apply Junk.drew | with_reducible apply Junk.drewN)))))
    · go_enter Try.func21, Try.ntmps21
      go_wp2_with (first | (go_at_call 22; (with_reducible refine (HS.out _ (HP.out.on (by (first | ((repeat (first | with_reducible exact Junk.refl _ | with_reducible exact Junk.app _ _ _ _ _ | with_reducible apply Junk.alloc | with_reducible apply Junk.junk | with_reducible apply Junk.drew | with_reducible apply Junk.drewN)); done) | ((try simp only [World.junk_junk, Array.append_assoc]); (repeat (first | with_reducible exact Junk.refl _ | with_reducible exact Junk.app _ _ _ _ _ | with_reducible exact Junk.app2 _ _ _ _ _ _ | with_reducible exact Junk.app3 _ _ _ _ _ _ _ | with_reducible exact Junk.app4 _ _ _ _ _ _ _ _ | with_reducible exact Junk.app5 _ _ _ _ _ _ _ _ _ | with_reducible apply Junk.alloc | with_reducible apply Junk.junk | with_reducible apply Junk.drew | with_reducible apply Junk.drewN))))))).mono ?_); rintro e w' ⟨rfl, ⟨os2, d2, rfl⟩⟩))
      go_returns
      exact rtX_bad HE.out H0.out (by (first | ((repeat (first | with_reducible exact Junk.refl _ | with_reducible exact Junk.app _ _ _ _ _ | with_reducible apply Junk.alloc | with_reducible apply Junk.junk | with_reducible apply Junk.drew | with_reducible apply Junk.drewN)); done) | ((try simp only [World.junk_junk, Array.append_assoc]); (repeat (first | with_reducible exact Junk.refl _ | with_reducible exact Junk.app _ _ _ _ _ | with_reducible exact Junk.app2 _ _ _ _ _ _ | with_reducible exact Junk.app3 _ _ _ _ _ _ _ | with_reducible exact Junk.app4 _ _ _ _ _ _ _ _ | with_reducible exact Junk.app5 _ _ _ _ _ _ _ _ _ | with_reducible apply Junk.alloc | with_reducible apply Junk.junk | with_reducible apply Junk.drew | with_reducible apply Junk.drewN)))))
  rw [if_neg (by rw [h0]; decide)]
  have HS := Lib.hid (fun w1 (hp : IpAt w1 p oo oc ob bc) => (rsrc_any p oo ob oc bc ts sp w1 hp hl hol hts).mono fun e w' h => h.ok h0)
  unfold RtM at HS
  have hqb : (rwS p ts sp).bl ≤ 100000000 := hl
  have hqo : (rwS p ts sp).ol ≤ 100000000 := hol
  obtain ⟨q, hq⟩ : ∃ q, rwS p ts sp = q := ⟨_, rfl⟩
  rw [hq] at HS hqb hqo ⊢
  have HQB := Lib.hid hqb
  have HQO := Lib.hid hqo
  clear hq h0 hP hqb hqo
  by_cases h1 : rwErr q dp = 0
  · have HD := Lib.hid (fun oo2 ob2 oc2 bc2 w1 (hp : IpAt w1 q oo2 oc2 ob2 bc2) => (rdst_any q oo2 ob2 oc2 bc2 td dp w1 hp HQB.out HQO.out htd).mono fun e w' h => h.ok h1)
    unfold RtM at HD
    have HE := Lib.hid h1
    clear h1
    obtain ⟨r, hr⟩ : ∃ r, rwD q td dp = r := ⟨_, rfl⟩
    rw [hr] at HD ⊢
    clear hr
    rcases g with ⟨g1, g2⟩ | g1
    · go_enter Try.func21, Try.ntmps21
      go_wp2_with (first | (go_at_call 22; (with_reducible refine (HS.out _ (HP.out.on (by (first | ((repeat (first | with_reducible exact Junk.refl _ | with_reducible exact Junk.app _ _ _ _ _ | with_reducible apply Junk.alloc | with_reducible apply Junk.junk | with_reducible apply Junk.drew | with_reducible apply Junk.drewN)); done) | ((try simp only [World.junk_junk, Array.append_assoc]); (repeat (first | with_reducible exact Junk.refl _ | with_reducible exact Junk.app _ _ _ _ _ | with_reducible exact Junk.app2 _ _ _ _ _ _ | with_reducible exact Junk.app3 _ _ _ _ _ _ _ | with_reducible exact Junk.app4 _ _ _ _ _ _ _ _ | with_reducible exact Junk.app5 _ _ _ _ _ _ _ _ _ | with_reducible apply Junk.alloc | with_reducible apply Junk.junk | with_reducible apply Junk.drew | with_reducible apply Junk.drewN))))))).mono ?_); rintro e w' ⟨oo2, ob2, oc2, bc2, rfl, ⟨os2, d2, rfl⟩, hP2⟩; have HP2 := Lib.hid hP2; clear hP2) | (go_at_call 45; (with_reducible refine (HD.out oo2 ob2 oc2 bc2 _ (HP2.out.on (by (first | ((repeat (first | with_reducible exact Junk.refl _ | with_reducible exact Junk.app _ _ _ _ _ | with_reducible apply Junk.alloc | with_reducible apply Junk.junk | with_reducible apply Junk.drew | with_reducible apply Junk.drewN)); done) | ((try simp only [World.junk_junk, Array.append_assoc]); (repeat (first | with_reducible exact Junk.refl _ | with_reducible exact Junk.app _ _ _ _ _ | with_reducible exact Junk.app2 _ _ _ _ _ _ | with_reducible exact Junk.app3 _ _ _ _ _ _ _ | with_reducible exact Junk.app4 _ _ _ _ _ _ _ _ | with_reducible exact Junk.app5 _ _ _ _ _ _ _ _ _ | with_reducible apply Junk.alloc | with_reducible apply Junk.junk | with_reducible apply Junk.drew | with_reducible apply Junk.drewN))))))).mono ?_); rintro e w' ⟨oo3, ob3, oc3, bc3, rfl, ⟨os3, d3, rfl⟩, hP3⟩; have HP3 := Lib.hid hP3; clear hP3))
      go_returns
      exact .inr ⟨HE.out, oo3, ob3, oc3, bc3, rfl, by (first | ((repeat (first | with_reducible exact Junk.refl _ | with_reducible exact Junk.app _ _ _ _ _ | with_reducible apply Junk.alloc | with_reducible apply Junk.junk | with_reducible apply Junk.drew | with_reducible apply Junk.drewN)); done) | ((try simp only [World.junk_junk, Array.append_assoc]); (repeat (first | with_reducible exact Junk.refl _ | with_reducible exact Junk.app _ _ _ _ _ | with_reducible exact Junk.app2 _ _ _ _ _ _ | with_reducible exact Junk.app3 _ _ _ _ _ _ _ | with_reducible exact Junk.app4 _ _ _ _ _ _ _ _ | with_reducible exact Junk.app5 _ _ _ _ _ _ _ _ _ | with_reducible apply Junk.alloc | with_reducible apply Junk.junk | with_reducible apply Junk.drew | with_reducible apply Junk.drewN)))), ipAt_swap2 HP3.out ip0_nb⟩
    · go_enter Try.func21, Try.ntmps21
      go_wp2_with (first | (go_at_call 22; (with_reducible refine (HS.out _ (HP.out.on (by (first | ((repeat (first | with_reducible exact Junk.refl _ | with_reducible exact Junk.app _ _ _ _ _ | with_reducible apply Junk.alloc | with_reducible apply Junk.junk | with_reducible apply Junk.drew | with_reducible apply Junk.drewN)); done) | ((try simp only [World.junk_junk, Array.append_assoc]); (repeat (first | with_reducible exact Junk.refl _ | with_reducible exact Junk.app _ _ _ _ _ | with_reducible exact Junk.app2 _ _ _ _ _ _ | with_reducible exact Junk.app3 _ _ _ _ _ _ _ | with_reducible exact Junk.app4 _ _ _ _ _ _ _ _ | with_reducible exact Junk.app5 _ _ _ _ _ _ _ _ _ | with_reducible apply Junk.alloc | with_reducible apply Junk.junk | with_reducible apply Junk.drew | with_reducible apply Junk.drewN))))))).mono ?_); rintro e w' ⟨oo2, ob2, oc2, bc2, rfl, ⟨os2, d2, rfl⟩, hP2⟩; have HP2 := Lib.hid hP2; clear hP2) | (go_at_call 45; (with_reducible refine (HD.out oo2 ob2 oc2 bc2 _ (HP2.out.on (by (first | ((repeat (first | with_reducible exact Junk.refl _ | with_reducible exact Junk.app _ _ _ _ _ | with_reducible apply Junk.alloc | with_reducible apply Junk.junk | with_reducible apply Junk.drew | with_reducible apply Junk.drewN)); done) | ((try simp only [World.junk_junk, Array.append_assoc]); (repeat (first | with_reducible exact Junk.refl _ | with_reducible exact Junk.app _ _ _ _ _ | with_reducible exact Junk.app2 _ _ _ _ _ _ | with_reducible exact Junk.app3 _ _ _ _ _ _ _ | with_reducible exact Junk.app4 _ _ _ _ _ _ _ _ | with_reducible exact Junk.app5 _ _ _ _ _ _ _ _ _ | with_reducible apply Junk.alloc | with_reducible apply Junk.junk | with_reducible apply Junk.drew | with_reducible apply Junk.drewN))))))).mono ?_); rintro e w' ⟨oo3, ob3, oc3, bc3, rfl, ⟨os3, d3, rfl⟩, hP3⟩; have HP3 := Lib.hid hP3; clear hP3))
      go_returns
      exact .inr ⟨HE.out, oo3, ob3, oc3, bc3, rfl, by (first | ((repeat (first | with_reducible exact Junk.refl _ | with_reducible exact Junk.app _ _ _ _ _ | with_reducible apply Junk.alloc | with_reducible apply Junk.junk | with_reducible apply Junk.drew | with_reducible apply Junk.drewN)); done) | ((try simp only [World.junk_junk, Array.append_assoc]); (repeat (first | with_reducible exact Junk.refl _ | with_reducible exact Junk.app _ _ _ _ _ | with_reducible exact Junk.app2 _ _ _ _ _ _ | with_reducible exact Junk.app3 _ _ _ _ _ _ _ | with_reducible exact Junk.app4 _ _ _ _ _ _ _ _ | with_reducible exact Junk.app5 _ _ _ _ _ _ _ _ _ | with_reducible apply Junk.alloc | with_reducible apply Junk.junk | with_reducible apply Junk.drew | with_reducible apply Junk.drewN)))), ipAt_swap2 HP3.out ip0_nb⟩
  · have HD := Lib.hid (fun oo2 ob2 oc2 bc2 w1 (hp : IpAt w1 q oo2 oc2 ob2 bc2) => (rdst_any q oo2 ob2 oc2 bc2 td dp w1 hp HQB.out HQO.out htd).mono fun e w' h => h.bad h1)
    obtain ⟨E, hE⟩ : ∃ E, rwErr q dp = E := ⟨_, rfl⟩
    rw [hE] at HD h1 ⊢
    have H0 := Lib.hid h1
    clear h1 hE
    rcases g with ⟨g1, g2⟩ | g1
    · go_enter Try.func21, Try.ntmps21
      go_wp2_with (first | (go_at_call 22; (with_reducible refine (HS.out _ (HP.out.on (by (first | ((repeat (first | with_reducible exact Junk.refl _ | with_reducible exact Junk.app _ _ _ _ _ | with_reducible apply Junk.alloc | with_reducible apply Junk.junk | with_reducible apply Junk.drew | with_reducible apply Junk.drewN)); done) | ((try simp only [World.junk_junk, Array.append_assoc]); (repeat (first | with_reducible exact Junk.refl _ | with_reducible exact Junk.app _ _ _ _ _ | with_reducible exact Junk.app2 _ _ _ _ _ _ | with_reducible exact Junk.app3 _ _ _ _ _ _ _ | with_reducible exact Junk.app4 _ _ _ _ _ _ _ _ | with_reducible exact Junk.app5 _ _ _ _ _ _ _ _ _ | with_reducible apply Junk.alloc | with_reducible apply Junk.junk | with_reducible apply Junk.drew | with_reducible apply Junk.drewN))))))).mono ?_); rintro e w' ⟨oo2, ob2, oc2, bc2, rfl, ⟨os2, d2, rfl⟩, hP2⟩; have HP2 := Lib.hid hP2; clear hP2) | (go_at_call 45; (with_reducible refine (HD.out oo2 ob2 oc2 bc2 _ (HP2.out.on (by (first | ((repeat (first | with_reducible exact Junk.refl _ | with_reducible exact Junk.app _ _ _ _ _ | with_reducible apply Junk.alloc | with_reducible apply Junk.junk | with_reducible apply Junk.drew | with_reducible apply Junk.drewN)); done) | ((try simp only [World.junk_junk, Array.append_assoc]); (repeat (first | with_reducible exact Junk.refl _ | with_reducible exact Junk.app _ _ _ _ _ | with_reducible exact Junk.app2 _ _ _ _ _ _ | with_reducible exact Junk.app3 _ _ _ _ _ _ _ | with_reducible exact Junk.app4 _ _ _ _ _ _ _ _ | with_reducible exact Junk.app5 _ _ _ _ _ _ _ _ _ | with_reducible apply Junk.alloc | with_reducible apply Junk.junk | with_reducible apply Junk.drew | with_reducible apply Junk.drewN))))))).mono ?_); rintro e w' ⟨rfl, ⟨os3, d3, rfl⟩⟩))
      go_returns
      exact rtX_bad rfl H0.out (by (first | ((repeat (first | with_reducible exact Junk.refl _ | with_reducible exact Junk.app _ _ _ _ _ | with_reducible apply Junk.alloc | with_reducible apply Junk.junk | with_reducible apply Junk.drew | with_reducible apply Junk.drewN)); done) | ((try simp only [World.junk_junk, Array.append_assoc]); (repeat (first | with_reducible exact Junk.refl _ | with_reducible exact Junk.app _ _ _ _ _ | with_reducible exact Junk.app2 _ _ _ _ _ _ | with_reducible exact Junk.app3 _ _ _ _ _ _ _ | with_reducible exact Junk.app4 _ _ _ _ _ _ _ _ | with_reducible exact Junk.app5 _ _ _ _ _ _ _ _ _ | with_reducible apply Junk.alloc | with_reducible apply Junk.junk | with_reducible apply Junk.drew | with_reducible apply Junk.drewN)))))
    · go_enter Try.func21, Try.ntmps21
      go_wp2_with (first | (go_at_call 22; (with_reducible refine (HS.out _ (HP.out.on (by (first | ((repeat (first | with_reducible exact Junk.refl _ | with_reducible exact Junk.app _ _ _ _ _ | with_reducible apply Junk.alloc | with_reducible apply Junk.junk | with_reducible apply Junk.drew | with_reducible apply Junk.drewN)); done) | ((try simp only [World.junk_junk, Array.append_assoc]); (repeat (first | with_reducible exact Junk.refl _ | with_reducible exact Junk.app _ _ _ _ _ | with_reducible exact Junk.app2 _ _ _ _ _ _ | with_reducible exact Junk.app3 _ _ _ _ _ _ _ | with_reducible exact Junk.app4 _ _ _ _ _ _ _ _ | with_reducible exact Junk.app5 _ _ _ _ _ _ _ _ _ | with_reducible apply Junk.alloc | with_reducible apply Junk.junk | with_reducible apply Junk.drew | with_reducible apply Junk.drewN))))))).mono ?_); rintro e w' ⟨oo2, ob2, oc2, bc2, rfl, ⟨os2, d2, rfl⟩, hP2⟩; have HP2 := Lib.hid hP2; clear hP2) | (go_at_call 45; (with_reducible refine (HD.out oo2 ob2 oc2 bc2 _ (HP2.out.on (by (first | ((repeat (first | with_reducible exact Junk.refl _ | with_reducible exact Junk.app _ _ _ _ _ | with_reducible apply Junk.alloc | with_reducible apply Junk.junk | with_reducible apply Junk.drew | with_reducible apply Junk.drewN)); done) | ((try simp only [World.junk_junk, Array.append_assoc]); (repeat (first | with_reducible exact Junk.refl _ | with_reducible exact Junk.app _ _ _ _ _ | with_reducible exact Junk.app2 _ _ _ _ _ _ | with_reducible exact Junk.app3 _ _ _ _ _ _ _ | with_reducible exact Junk.app4 _ _ _ _ _ _ _ _ | with_reducible exact Junk.app5 _ _ _ _ _ _ _ _ _ | with_reducible apply Junk.alloc | with_reducible apply Junk.junk | with_reducible apply Junk.drew | with_reducible apply Junk.drewN))))))).mono ?_); rintro e w' ⟨rfl, ⟨os3, d3, rfl⟩⟩))
      go_returns
      exact rtX_bad rfl H0.out (by (first | ((repeat (first | with_reducible exact Junk.refl _ | with_reducible exact Junk.app _ _ _ _ _ | with_reducible apply Junk.alloc | with_reducible apply Junk.junk | with_reducible apply Junk.drew | with_reducible apply Junk.drewN)); done) | ((try simp only [World.junk_junk, Array.append_assoc]); (repeat (first | with_reducible exact Junk.refl _ | with_reducible exact Junk.app _ _ _ _ _ | with_reducible exact Junk.app2 _ _ _ _ _ _ | with_reducible exact Junk.app3 _ _ _ _ _ _ _ | with_reducible exact Junk.app4 _ _ _ _ _ _ _ _ | with_reducible exact Junk.app5 _ _ _ _ _ _ _ _ _ | with_reducible apply Junk.alloc | with_reducible apply Junk.junk | with_reducible apply Junk.drew | with_reducible apply Junk.drewN)))))
set_option maxHeartbeats 4000000 in
theorem rboth_any (p : Ip) (oo ob : Option Addr) (oc bc : Nat) (tp ts sp td dp : Int) (w : World) (hP : IpAt w p oo oc ob bc) (hl : p.bl ≤ 100000000) (hol : p.ol ≤ 100000000) (hts : 0 ≤ ts ∧ ts ≤ 4294967295) (htd : 0 ≤ td ∧ td ≤ 4294967295) :
    Calls Try.prog 21 #[.agg #[.int .i64 p.tos, .int .i64 p.id, .bool p.df, .bool p.mf, .int .i64 p.off, .int .i64 p.ttl, .int .i64 p.proto, .int .u32 p.src, .int .u32 p.dst, .slice oo p.ol oc, .slice ob p.bl bc], .agg #[.int .i64 tp, .int .u32 ts, .int .i64 sp, .int .u32 td, .int .i64 dp]] w (RtX w (rw2Err p ⟨tp, ts, sp, td, dp⟩) (rw2 p ⟨tp, ts, sp, td, dp⟩)) := by
  by_cases h1 : p.proto = tp
  · by_cases h2 : tp = 1 ∧ sp ≠ dp
    · have HE := Lib.hid (show rw2Err p ⟨tp, ts, sp, td, dp⟩ = 1 from if_pos (.inr h2))
      have b1 : (p.proto != tp) = false := by simpa using h1
      have b2 : (tp == 1) = true := by simpa using h2.1
      have b3 : (sp != dp) = true := by simpa using h2.2
      clear h1 h2 hP
      go_enter Try.func21, Try.ntmps21
      go_wp2
      go_returns
      exact rtX_bad HE.out (by decide) (by (first | ((repeat (first | with_reducible exact Junk.refl _ | with_reducible exact Junk.app _ _ _ _ _ | with_reducible apply Junk.alloc | with_reducible apply Junk.junk | with_reducible apply Junk.drew | with_reducible apply Junk.drewN)); done) | ((try simp only [World.junk_junk, Array.append_assoc]); (repeat (first | with_reducible exact Junk.refl _ | with_reducible exact Junk.app _ _ _ _ _ | with_reducible exact Junk.app2 _ _ _ _ _ _ | with_reducible exact Junk.app3 _ _ _ _ _ _ _ | with_reducible exact Junk.app4 _ _ _ _ _ _ _ _ | with_reducible exact Junk.app5 _ _ _ _ _ _ _ _ _ | with_reducible apply Junk.alloc | with_reducible apply Junk.junk | with_reducible apply Junk.drew | with_reducible apply Junk.drewN)))))
    · have := rboth_go p oo ob oc bc tp ts sp td dp w hP hl hol hts htd (by simpa using h1) (by
        by_cases h3 : tp = 1
        · refine .inl ⟨by simpa using h3, ?_⟩
          have : sp = dp := by omega
          simpa using this
        · exact .inr (by simpa using h3))
      have e : rw2Err p ⟨tp, ts, sp, td, dp⟩ = if rwErr p sp ≠ 0 then rwErr p sp else rwErr (rwS p ts sp) dp := if_neg (by simp only [not_or]; exact ⟨by simpa using h1, h2⟩)
      rw [e]
      exact this
  · have HE := Lib.hid (show rw2Err p ⟨tp, ts, sp, td, dp⟩ = 1 from if_pos (.inl h1))
    have b1 : (p.proto != tp) = true := by simpa using h1
    clear h1 hP
    go_enter Try.func21, Try.ntmps21
    go_wp2
    go_returns
    exact rtX_bad HE.out (by decide) (by (first | ((repeat (first | with_reducible exact Junk.refl _ | with_reducible exact Junk.app _ _ _ _ _ | with_reducible apply Junk.alloc | with_reducible apply Junk.junk | with_reducible apply Junk.drew | with_reducible apply Junk.drewN)); done) | ((try simp only [World.junk_junk, Array.append_assoc]); (repeat (first | with_reducible exact Junk.refl _ | with_reducible exact Junk.app _ _ _ _ _ | with_reducible exact Junk.app2 _ _ _ _ _ _ | with_reducible exact Junk.app3 _ _ _ _ _ _ _ | with_reducible exact Junk.app4 _ _ _ _ _ _ _ _ | with_reducible exact Junk.app5 _ _ _ _ _ _ _ _ _ | with_reducible apply Junk.alloc | with_reducible apply Junk.junk | with_reducible apply Junk.drew | with_reducible apply Junk.drewN)))))
end Go.Proofs.Ytnefphinmjeacaa
set_option linter.unusedVariables false
set_option maxRecDepth 100000
set_option linter.unusedSimpArgs false
namespace Go.Proofs.Ytnefphinmjeacaa
open Go.RowKit
def bz (n : Nat) (zs : Nat → Int) : List Value := (List.range n).map fun i => Value.int .u8 (zs i)
/-- A slice of bytes of the call's own: its first n bytes are those of 'zs'. -/
def OwB (B : Nat) (w : World) (oa : Option Addr) (cap n : Nat) (zs : Nat → Int) : Prop := Own B w 5 1 oa cap n (bz n zs)
theorem bz_congr {n : Nat} {xs ys : Nat → Int} (h : ∀ i, i < n → xs i = ys i) : bz n xs = bz n ys := by
  unfold bz
  apply List.map_congr_left
  intro i hi
  rw [h i (by simpa using hi)]
theorem bz_add (n m : Nat) (zs : Nat → Int) : bz n zs ++ bz m (fun j => zs (n + j)) = bz (n + m) zs := by
  unfold bz
  rw [List.range_add, List.map_append, List.map_map]
  rfl
theorem bz1 {zs : Nat → Int} {a : Int} (h0 : zs 0 = a) : [Value.int .u8 a] = bz 1 zs := by subst h0; rfl
theorem bz2 {zs : Nat → Int} {a b : Int} (h0 : zs 0 = a) (h1 : zs 1 = b) : [Value.int .u8 a, .int .u8 b] = bz 2 zs := by subst h0 h1; rfl
theorem bz4 {zs : Nat → Int} {a b c d : Int} (h0 : zs 0 = a) (h1 : zs 1 = b) (h2 : zs 2 = c) (h3 : zs 3 = d) : [Value.int .u8 a, .int .u8 b, .int .u8 c, .int .u8 d] = bz 4 zs := by subst h0 h1 h2 h3; rfl
theorem bz8 {zs : Nat → Int} {a b c d a' b' c' d' : Int} (h0 : zs 0 = a) (h1 : zs 1 = b) (h2 : zs 2 = c) (h3 : zs 3 = d) (h4 : zs 4 = a') (h5 : zs 5 = b') (h6 : zs 6 = c') (h7 : zs 7 = d') : [Value.int .u8 a, .int .u8 b, .int .u8 c, .int .u8 d, .int .u8 a', .int .u8 b', .int .u8 c', .int .u8 d'] = bz 8 zs := by subst h0 h1 h2 h3 h4 h5 h6 h7; rfl
section
variable {B : Nat} {w w' W0 : World} {oa : Option Addr} {cap n : Nat} {zs : Nat → Int}
theorem OwB.on (h : OwB B w oa cap n zs) (hj : Junk w w') : OwB B w' oa cap n zs := Own.on h hj
theorem OwB.lower {B' : Nat} (h : OwB B w oa cap n zs) (hB : B' ≤ B) : OwB B' w oa cap n zs := Own.lower h hB
theorem OwB.congr {ys : Nat → Int} (h : OwB B w oa cap n zs) (he : ∀ i, i < n → zs i = ys i) : OwB B w oa cap n ys := by unfold OwB; rw [← bz_congr he]; exact h
theorem OwB.nil (B : Nat) (w : World) (zs : Nat → Int) : OwB B w none 0 0 zs := Own.nil _ _ _ _
theorem OwB.ints (h : OwB B w oa cap n zs) : IntsAt w oa n .u8 zs := by
  have h2 : Own B w 5 1 oa cap n (((List.range n).map zs).map (Value.int .u8)) := by rw [List.map_map]; exact h
  intro i hi
  obtain ⟨b, off, h3, h4, h5⟩ := h2.ints i hi
  refine ⟨b, off, h3, h4, ?_⟩
  rw [h5]
  simp [List.getD, hi]
theorem OwB.isNil (h : OwB B w oa cap n zs) (hn : oa = none) : n = 0 ∧ cap = 0 := by
  rcases Own.form h with ⟨_, h1, h2⟩ | ⟨g, cur, h1, _⟩
  · exact ⟨h1, h2⟩
  · rw [h1] at hn; cases hn
theorem OwB.bts (h : OwB B w oa cap n zs) (hx : ∀ i, i < n → 0 ≤ zs i ∧ zs i ≤ 255) : Bts w oa n cap zs := ⟨h.ints, hx, fun hn => h.isNil hn, (Own.capLe h).1, (Own.capLe h).2⟩
theorem OwB.lit (Y : World) (g m : Nat) (cur : Array Value) (hg : g = Y.heap.size) (hb : B ≤ Y.heap.size) (hm : m = cur.size) (hmax : m ≤ maxLen) (hc : cur.toList = bz m zs) : OwB B (Y.alloc (.cells cur 5)) (some ⟨g, 0, none⟩) m m zs := by
  unfold OwB
  rw [← hc]
  exact own_lit Y _ g m cur hg hb hm hmax
theorem alloc_ints (Y : World) (cur : Array Value) (t : TypeId) (g : Nat) (hg : g = Y.heap.size) (m : Nat) (f : Nat → Int) (h : cur.toList = bz m f) : IntsAt (Y.alloc (.cells cur t)) (some ⟨g, 0, none⟩) m .u8 f := by
  subst hg
  intro i hi
  refine ⟨_, 0, rfl, by rw [World.size_alloc]; omega, ?_⟩
  rw [World.cell?_alloc_new, Nat.zero_add]
  have : cur.toList[i]? = some (.int .u8 (f i)) := by rw [h]; unfold bz; rw [List.getElem?_map, List.getElem?_range hi]; rfl
  simpa using this
theorem alloc_ints2 (Y : World) (cur : Array Value) (t : TypeId) (g : Nat) (hg : g = Y.heap.size) (m : Nat) (f : Nat → Int) (os : Array Obj) (d : Nat) (h : cur.toList = bz m f) : IntsAt ((Y.alloc (.cells cur t)).junk os d) (some ⟨g, 0, none⟩) m .u8 f :=
  (alloc_ints Y cur t g hg m f h).on ⟨os, d, rfl⟩
theorem ints_congr {oc : Option Addr} {m : Nat} {k : IntKind} {xs ys : Nat → Int} (h : IntsAt w oc m k xs) (he : ∀ i, i < m → xs i = ys i) : IntsAt w oc m k ys := fun i hi => by rw [← he i hi]; exact h i hi
theorem ap_bz_wp {o : Oper} {a : Act} {K : Act → World → Prop} {Q : Exit → Act → World → Prop} (s x : Operand)
    (ho : o.op = .call { callee := .builtin .append, args := #[s, x], argTypes := #[23, 23] })
    (hj : Junk W0 w) (oa : Option Addr) (cap n : Nat) (zs : Nat → Int) (hs : a.eval s = .slice oa n cap) (hown : OwB W0.heap.size w oa cap n zs)
    (oc : Option Addr) (m c : Nat) (hx : a.eval x = .slice oc m c) (hsrc : IntsAt w oc m .u8 (fun j => zs (n + j))) (hnone : oc = none → m = 0 ∧ c = 0) (hm : n + m ≤ 140737488355328)
    (h : ∀ oa' cap' os d, OwB W0.heap.size (W0.junk os d) oa' cap' (n + m) zs → (oa' = none → oa = none ∧ m = 0) → K (a.put o.dst (.slice oa' (n + m) cap')) (W0.junk os d)) : o.wp Try.prog a w K Q :=
  ap_own_wp s x 23 ho 5 (.int .u8 0) 1 1 (by kernel_rfl) rfl (by decide) Try.underlying23 hj oa cap n (bz n zs) hs hown oc m c hx (bz m (fun j => zs (n + j))) (by simp [bz]) hsrc.src hnone
    (by intro u hu; unfold bz at hu; obtain ⟨i, _, rfl⟩ := List.mem_map.1 hu; rfl) (by simp only [maxLen]; omega) (by omega) fun oa' cap' os d h2 h3 => h oa' cap' os d (by unfold OwB; rw [← bz_add]; exact h2) h3
theorem ap_bz {ops : Array Oper} {rest : List Oper} {o : Oper} {a : Act} {Q : Exit → Act → World → Prop} (hgd : o.guard = none) (s x : Operand)
    (ho : o.op = .call { callee := .builtin .append, args := #[s, x], argTypes := #[23, 23] })
    (hj : Junk W0 w) (oa : Option Addr) (cap n : Nat) (zs : Nat → Int) (hs : a.eval s = .slice oa n cap) (hown : OwB W0.heap.size w oa cap n zs)
    (oc : Option Addr) (m c : Nat) (hx : a.eval x = .slice oc m c) (hsrc : IntsAt w oc m .u8 (fun j => zs (n + j))) (hnone : oc = none → m = 0 ∧ c = 0) (hm : n + m ≤ 140737488355328)
    (h : ∀ oa' cap' os d, OwB W0.heap.size (W0.junk os d) oa' cap' (n + m) zs → (oa' = none → oa = none ∧ m = 0) → wpList Try.prog ops Q rest (a.put o.dst (.slice oa' (n + m) cap')) (W0.junk os d)) : wpList Try.prog ops Q (o :: rest) a w :=
  wpList_plain hgd fun K hK => ap_bz_wp s x ho hj oa cap n zs hs hown oc m c hx hsrc hnone hm fun oa' cap' os d h2 h3 => hK _ _ (h oa' cap' os d h2 h3)
end
end Go.Proofs.Ytnefphinmjeacaa
set_option linter.unusedVariables false
set_option maxRecDepth 100000
set_option linter.unusedSimpArgs false
namespace Go.Proofs.Ytnefphinmjeacaa
open Go.RowKit
def uportB (n : Int) : Bool := decide (0 ≤ n) && decide (n ≤ 65535)
theorem uport_any (n : Int) (w : World) : Calls Try.prog 65 #[.int .i64 n] w fun e w' => e = .returned (.bool (uportB n)) ∧ w = w' := by
  by_cases h1 : 0 ≤ n
  · go_enter Try.func65, Try.ntmps65
    go_wp2
    go_ret
    exact ⟨ret_bool (by simp [uportB, h1]), rfl⟩
  · go_enter Try.func65, Try.ntmps65
    go_wp2
    go_ret
    exact ⟨ret_bool (by simp [uportB]; intro; omega), rfl⟩
def GrewZ (W0 : World) (n : Nat) (zs : Nat → Int) (e : Ending) (w' : World) : Prop := ∃ (oa : Option Addr) (cap : Nat), e = .returned (.slice oa n cap) ∧ Junk W0 w' ∧ OwB W0.heap.size w' oa cap n zs
set_option maxHeartbeats 400000 in
theorem uhalf_any (W0 w : World) (oa : Option Addr) (cap n : Nat) (zs : Nat → Int) (v : Int) (hv0 : 0 ≤ v) (hv1 : v ≤ 65535) (hn : n ≤ 100) (hj : Junk W0 w) (hown : OwB W0.heap.size w oa cap n zs) (hz0 : zs n = v / 256) (hz1 : zs (n + 1) = v % 256) :
    Calls Try.prog 66 #[.slice oa n cap, .int .i64 v] w (GrewZ W0 (n + 2) zs) := by
  have HJ := Lib.hid hj
  have HO := Lib.hid hown
  have H0 := Lib.hid hz0
  have H1 := Lib.hid hz1
  clear hj hown hz0 hz1
  have q5 : IntKind.u8.wrap (v / 256) = v / 256 := wrapk_u8 _ (by omega) (by omega)
  have q6 : IntKind.u8.wrap v = v % 256 := IntKind.wrap_u8 _
  go_enter Try.func66, Try.ntmps66
  go_wp2_with (at_builtin; (refine ap_bz (W0 := W0) rfl _ _ rfl (HJ.out.trans (by ((try simp only [World.junk_junk, Array.append_assoc]); (repeat (first | with_reducible exact Junk.refl _ | with_reducible exact Junk.app _ _ _ _ _ | with_reducible exact Junk.app2 _ _ _ _ _ _ | with_reducible exact Junk.app3 _ _ _ _ _ _ _ | with_reducible exact Junk.app4 _ _ _ _ _ _ _ _ | with_reducible exact Junk.app5 _ _ _ _ _ _ _ _ _ | with_reducible apply Junk.alloc | with_reducible apply Junk.junk | with_reducible apply Junk.drew | with_reducible apply Junk.drewN))))) oa cap n zs rfl (HO.out.on (by ((try simp only [World.junk_junk, Array.append_assoc]); (repeat (first | with_reducible exact Junk.refl _ | with_reducible exact Junk.app _ _ _ _ _ | with_reducible exact Junk.app2 _ _ _ _ _ _ | with_reducible exact Junk.app3 _ _ _ _ _ _ _ | with_reducible exact Junk.app4 _ _ _ _ _ _ _ _ | with_reducible exact Junk.app5 _ _ _ _ _ _ _ _ _ | with_reducible apply Junk.alloc | with_reducible apply Junk.junk | with_reducible apply Junk.drew | with_reducible apply Junk.drewN))))) _ 2 2 rfl (by exact alloc_ints _ _ _ _ (by simp) 2 _ (bz2 H0.out H1.out)) (fun h => by cases h) (by omega) ?_; intro o2 c2 os2 d2 h_2 hn2; have H2 := Lib.hid h_2; clear h_2))
  go_ret
  exact ⟨o2, c2, rfl, ⟨_, _, rfl⟩, H2.out⟩
/-- The bytes of a datagram, with a check sum. -/
def udB (sp dp c : Int) (body : Nat → Int) (l : Nat) : Nat → Int
  | 0 => sp / 256
  | 1 => sp % 256
  | 2 => dp / 256
  | 3 => dp % 256
  | 4 => ((8 + l : Nat) : Int) / 256
  | 5 => ((8 + l : Nat) : Int) % 256
  | 6 => c / 256
  | 7 => c % 256
  | k + 8 => body k
def udSum (src dst sp dp : Int) (body : Nat → Int) (l : Nat) : Int :=
  if usumN src dst (udB sp dp 0 body l) (8 + l) = 65535 then 65535 else 65535 - usumN src dst (udB sp dp 0 body l) (8 + l)
def udOf (src dst sp dp : Int) (body : Nat → Int) (l : Nat) : Nat → Int := udB sp dp (udSum src dst sp dp body l) body l
theorem eight (i : Nat) : i = 0 ∨ i = 1 ∨ i = 2 ∨ i = 3 ∨ i = 4 ∨ i = 5 ∨ i = 6 ∨ i = 7 ∨ ∃ k, i = k + 8 := by
  by_cases h : i < 8
  · omega
  · have : ∃ k, i = k + 8 := ⟨i - 8, by omega⟩
    simp [this]
theorem udB_byte {sp dp c : Int} {body : Nat → Int} {l : Nat} (h1 : 0 ≤ sp ∧ sp ≤ 65535) (h2 : 0 ≤ dp ∧ dp ≤ 65535) (hc : 0 ≤ c ∧ c ≤ 65535) (hl : 8 + l ≤ 65535) (hb : ∀ i, i < l → 0 ≤ body i ∧ body i ≤ 255) : ∀ i, i < 8 + l → 0 ≤ udB sp dp c body l i ∧ udB sp dp c body l i ≤ 255 := by
  intro i hi
  rcases eight i with rfl | rfl | rfl | rfl | rfl | rfl | rfl | rfl | ⟨k, rfl⟩
  all_goals simp only [udB]
  all_goals first | omega | exact hb _ (by omega)
theorem usumN_bd {src dst : Int} {xs : Nat → Int} {l : Nat} (h1 : 0 ≤ src ∧ src ≤ 4294967295) (h2 : 0 ≤ dst ∧ dst ≤ 4294967295) (hl : l ≤ 65535) (hx : ∀ i, i < l → 0 ≤ xs i ∧ xs i ≤ 255) : 0 ≤ usumN src dst xs l ∧ usumN src dst xs l ≤ 65535 := by
  have hr := rawN_bd xs l hx
  have hp := pseudoN_bd (proto := 17) (size := (l : Int)) h1 h2 (by omega) (by omega)
  exact foldI_bd _ (by omega)
theorem udSum_bd {src dst sp dp : Int} {body : Nat → Int} {l : Nat} (h1 : 0 ≤ src ∧ src ≤ 4294967295) (h2 : 0 ≤ dst ∧ dst ≤ 4294967295) (hs : 0 ≤ sp ∧ sp ≤ 65535) (hd : 0 ≤ dp ∧ dp ≤ 65535) (hl : 8 + l ≤ 65535) (hb : ∀ i, i < l → 0 ≤ body i ∧ body i ≤ 255) :
    0 < udSum src dst sp dp body l ∧ udSum src dst sp dp body l ≤ 65535 := by
  have := usumN_bd (xs := udB sp dp 0 body l) h1 h2 hl (udB_byte hs hd (by omega) hl hb)
  unfold udSum
  split <;> omega
theorem udOf_byte {src dst sp dp : Int} {body : Nat → Int} {l : Nat} (h1 : 0 ≤ src ∧ src ≤ 4294967295) (h2 : 0 ≤ dst ∧ dst ≤ 4294967295) (hs : 0 ≤ sp ∧ sp ≤ 65535) (hd : 0 ≤ dp ∧ dp ≤ 65535) (hl : 8 + l ≤ 65535) (hb : ∀ i, i < l → 0 ≤ body i ∧ body i ≤ 255) :
    ∀ i, i < 8 + l → 0 ≤ udOf src dst sp dp body l i ∧ udOf src dst sp dp body l i ≤ 255 := by
  have := udSum_bd h1 h2 hs hd hl hb
  exact udB_byte hs hd (by omega) hl hb
theorem udB_raw (sp dp c : Int) (body : Nat → Int) (l : Nat) : ∀ k, rawN (udB sp dp c body l) (8 + k) = rawN (udB sp dp 0 body l) (8 + k) + (c / 256 * 256 + c % 256)
  | 0 => by
    show rawN (udB sp dp c body l) 8 = rawN (udB sp dp 0 body l) 8 + _
    simp [rawN, udB]
    omega
  | k + 1 => by
    have h := udB_raw sp dp c body l k
    show rawN (udB sp dp c body l) ((8 + k) + 1) = rawN (udB sp dp 0 body l) ((8 + k) + 1) + _
    simp only [rawN]
    rw [h]
    have e : udB sp dp c body l (8 + k) = udB sp dp 0 body l (8 + k) := by rw [Nat.add_comm]; rfl
    rw [e]
    omega
/-- The sum of what is put fits. -/
theorem udOf_sum {src dst sp dp : Int} {body : Nat → Int} {l : Nat} (h1 : 0 ≤ src ∧ src ≤ 4294967295) (h2 : 0 ≤ dst ∧ dst ≤ 4294967295) (hs : 0 ≤ sp ∧ sp ≤ 65535) (hd : 0 ≤ dp ∧ dp ≤ 65535) (hl : 8 + l ≤ 65535) (hb : ∀ i, i < l → 0 ≤ body i ∧ body i ≤ 255) :
    usumN src dst (udOf src dst sp dp body l) (8 + l) = 65535 := by
  have hB := udB_byte (c := 0) hs hd (by omega) hl hb
  have hr := (rawN_bd _ _ hB).1
  have hp := pseudoN_bd (proto := 17) (size := ((8 + l : Nat) : Int)) h1 h2 (by omega) (by omega)
  have hS := udSum_bd h1 h2 hs hd hl hb
  have hfull := foldI_full (n := pseudoN src dst 17 ((8 + l : Nat) : Int) + rawN (udB sp dp 0 body l) (8 + l)) (by omega)
  unfold usumN udOf
  rw [udB_raw sp dp _ body l l]
  generalize hC : udSum src dst sp dp body l = C at hS ⊢
  have hC2 : C / 256 * 256 + C % 256 = C := by omega
  rw [hC2, ← Int.add_assoc]
  unfold udSum usumN at hC
  split at hC
  · rename_i h
    rw [foldI_iff (by omega)] at h ⊢
    omega
  · rw [← hC]; exact hfull
def UPutM (w : World) (src dst sp dp : Int) (body : Nat → Int) (l : Nat) (e : Ending) (w' : World) : Prop :=
  ∃ (ob : Option Addr) (cb : Nat), e = .returned (.tuple #[.slice ob (8 + l) cb, .int .i64 0]) ∧ Junk w w' ∧ Bts w' ob (8 + l) cb (udOf src dst sp dp body l)
theorem udOf_set {src dst sp dp : Int} {body : Nat → Int} {l : Nat} {C : Int} (h : udSum src dst sp dp body l = C) : ∀ i, (fun k => if k = 7 then C % 256 else (fun k => if k = 6 then C / 256 else udB sp dp 0 body l k) k) i = udOf src dst sp dp body l i := by
  intro i
  unfold udOf
  rw [h]
  rcases eight i with rfl | rfl | rfl | rfl | rfl | rfl | rfl | rfl | ⟨k, rfl⟩
  all_goals first | rfl | (show (if k + 8 = 7 then _ else (if k + 8 = 6 then _ else body k)) = body k; rw [if_neg (by omega), if_neg (by omega)])
theorem u_bts_congr {w : World} {oa : Option Addr} {l c : Nat} {xs ys : Nat → Int} (h : Bts w oa l c xs) (he : ∀ i, i < l → xs i = ys i) : Bts w oa l c ys :=
  ⟨fun i hi => by obtain ⟨b, off, h1, h2, h3⟩ := h.at_ i hi; exact ⟨b, off, h1, h2, by rw [← he i hi]; exact h3⟩, fun i hi => by rw [← he i hi]; exact h.byte i hi, h.nil, h.le, h.cap⟩
set_option maxHeartbeats 4000000 in
theorem uput_any (src dst sp dp : Int) (oa : Option Addr) (l ca : Nat) (body : Nat → Int) (w : World) (h1 : 0 ≤ src ∧ src ≤ 4294967295) (h2 : 0 ≤ dst ∧ dst ≤ 4294967295) (hs : 0 ≤ sp ∧ sp ≤ 65535) (hd : 0 ≤ dp ∧ dp ≤ 65535) (hl : 8 + l ≤ 65535) (hB : Bts w oa l ca body) :
    Calls Try.prog 30 #[.int .u32 src, .int .u32 dst, .agg #[.int .i64 sp, .int .i64 dp, .bool false, .slice oa l ca]] w (UPutM w src dst sp dp body l) := by
  have HB := Lib.hid hB
  obtain ⟨L, hL⟩ : ∃ L, 8 + l = L := ⟨_, rfl⟩
  have HLL := Lib.hid hL
  have eL : (8 : Int) + (l : Int) = (L : Int) := by omega
  have hL2 : ¬ (65535 : Int) < (L : Int) := by omega
  have hLb : L ≤ 65535 := by omega
  have hL8 : 8 ≤ L := by omega
  have hlb : l ≤ 65527 := by omega
  have hBz := udB_byte (c := 0) hs hd (by omega) hl hB.byte
  have hsb := usumN_bd h1 h2 hl hBz
  have hcb := udSum_bd h1 h2 hs hd hl hB.byte
  have HSET := Lib.hid (fun (C : Int) (h : udSum src dst sp dp body l = C) => udOf_set h)
  have p1 := Lib.hid (fun w1 => show Calls Try.prog 65 #[.int .i64 sp] w1 fun e w' => e = .returned (.bool true) ∧ w1 = w' by have := uport_any sp w1; rw [show uportB sp = true by unfold uportB; simp; omega] at this; exact this)
  have p2 := Lib.hid (fun w1 => show Calls Try.prog 65 #[.int .i64 dp] w1 fun e w' => e = .returned (.bool true) ∧ w1 = w' by have := uport_any dp w1; rw [show uportB dp = true by unfold uportB; simp; omega] at this; exact this)
  obtain ⟨X, hX⟩ : ∃ X, usumN src dst (udB sp dp 0 body l) (8 + l) = X := ⟨_, rfl⟩
  obtain ⟨C, hC⟩ : ∃ C, udSum src dst sp dp body l = C := ⟨_, rfl⟩
  have HC := Lib.hid hC
  have hCX : C = if X = 65535 then 65535 else 65535 - X := by rw [← hC, ← hX]; rfl
  obtain ⟨Z, hZ⟩ : ∃ Z, udB sp dp 0 body l = Z := ⟨_, rfl⟩
  have z0 : Z 0 = sp / 256 := by rw [← hZ]; rfl
  have z1 : Z (0 + 1) = sp % 256 := by rw [← hZ]; rfl
  have z2 : Z 2 = dp / 256 := by rw [← hZ]; rfl
  have z3 : Z (2 + 1) = dp % 256 := by rw [← hZ]; rfl
  have z4 : Z 4 = (L : Int) / 256 := by rw [← hZ, ← hL]; rfl
  have z5 : Z (4 + 1) = (L : Int) % 256 := by rw [← hZ, ← hL]; rfl
  have z6 : Z 6 = 0 / 256 := by rw [← hZ]; rfl
  have z7 : Z (6 + 1) = 0 % 256 := by rw [← hZ]; rfl
  have z8 : ∀ j, body j = Z (8 + j) := fun j => by rw [← hZ, Nat.add_comm]; rfl
  have HZ := Lib.hid (And.intro z0 (And.intro z1 (And.intro z2 (And.intro z3 (And.intro z4 (And.intro z5 (And.intro z6 (And.intro z7 z8))))))))
  have HZZ := Lib.hid hZ
  rw [hZ] at hBz
  rw [hL] at hBz
  have HBZ := Lib.hid hBz
  rw [hX] at hsb
  rw [hC] at hcb
  have HSUM := Lib.hid (fun (o : Option Addr) (c : Nat) (w1 : World) (hb : IntsAt w1 o L .u8 Z) => show Calls Try.prog 56 #[.int .u32 src, .int .u32 dst, .slice o L c] w1 fun e w' => e = .returned (.int .u16 X) ∧ Junk w1 w' by
    rw [← hX, hZ, hL]
    exact usum_any src dst o L c Z w1 h1 h2 hLb hb hBz)
  obtain ⟨hs0, hs1⟩ := hs
  obtain ⟨hd0, hd1⟩ := hd
  clear z0 z1 z2 z3 z4 z5 z6 z7 z8 hBz hB hX hC hZ hl hL
  by_cases hX0 : X = 65535
  · rw [if_pos hX0] at hCX
    subst hCX
    subst hX0
    go_enter Try.func30, Try.ntmps30
    go_wp2_with (first | (go_at_call 65; (with_reducible refine (p1.out _).mono ?_); rintro e w' ⟨rfl, rfl⟩) | (go_at_call 65; (with_reducible refine (p2.out _).mono ?_); rintro e w' ⟨rfl, rfl⟩))
    refine wp_region_mixj ((w.alloc (.cells #[.int .i64 sp, .int .i64 dp, .bool false, .slice oa l ca] 61))) [(0, true), (1, true), (3, true), (4, true), (6, true), (2, false), (5, false), (7, false), (8, false), (9, true)] (by kernel_rfl) (by kernel_rfl) (by (repeat (first | with_reducible exact Junk.refl _ | with_reducible exact Junk.app _ _ _ _ _ | with_reducible apply Junk.alloc | with_reducible apply Junk.junk | with_reducible apply Junk.drew | with_reducible apply Junk.drewN))) ?_; (iterate 5 (refine wpMix_q rfl (fun K hK => ?_); (go_simp; try go_bits); (refine hK _ ?_; clear hK K))); refine wpMix_e rfl (fun osm4_0 dm4_0 K hK => ?_); (go_simp; try go_bits); (go_at_call 66; refine (uhalf_any ((w.alloc (.cells #[.int .i64 sp, .int .i64 dp, .bool false, .slice oa l ca] 61))) _ none 0 0 Z sp hs0 hs1 (by omega) (by (first | ((repeat (first | with_reducible exact Junk.refl _ | with_reducible exact Junk.app _ _ _ _ _ | with_reducible apply Junk.alloc | with_reducible apply Junk.junk | with_reducible apply Junk.drew | with_reducible apply Junk.drewN)); done) | ((try simp only [World.junk_junk, Array.append_assoc]); (repeat (first | with_reducible exact Junk.refl _ | with_reducible exact Junk.app _ _ _ _ _ | with_reducible exact Junk.app2 _ _ _ _ _ _ | with_reducible exact Junk.app3 _ _ _ _ _ _ _ | with_reducible exact Junk.app4 _ _ _ _ _ _ _ _ | with_reducible exact Junk.app5 _ _ _ _ _ _ _ _ _ | with_reducible apply Junk.alloc | with_reducible apply Junk.junk | with_reducible apply Junk.drew | with_reducible apply Junk.drewN))))) (OwB.nil _ _ _) HZ.out.1 HZ.out.2.1).mono ?_; rintro e w' ⟨oA, cA, rfl, ⟨osA, dA, rfl⟩, h_A⟩; have HA := Lib.hid h_A; clear h_A); refine hK _ _ (Junk.pair (by (repeat (first | with_reducible exact Junk.refl _ | with_reducible exact Junk.app _ _ _ _ _ | with_reducible apply Junk.alloc | with_reducible apply Junk.junk | with_reducible apply Junk.drew | with_reducible apply Junk.drewN | (with_reducible refine Junk.setCell ?_ (by simp) _))))) ?_; clear hK K; refine wpMix_e rfl (fun osm4_1 dm4_1 K hK => ?_); (go_simp; try go_bits); (go_at_call 66; refine (uhalf_any ((w.alloc (.cells #[.int .i64 sp, .int .i64 dp, .bool false, .slice oa l ca] 61))) _ oA cA 2 Z dp hd0 hd1 (by omega) (by (first | ((repeat (first | with_reducible exact Junk.refl _ | with_reducible exact Junk.app _ _ _ _ _ | with_reducible apply Junk.alloc | with_reducible apply Junk.junk | with_reducible apply Junk.drew | with_reducible apply Junk.drewN)); done) | ((try simp only [World.junk_junk, Array.append_assoc]); (repeat (first | with_reducible exact Junk.refl _ | with_reducible exact Junk.app _ _ _ _ _ | with_reducible exact Junk.app2 _ _ _ _ _ _ | with_reducible exact Junk.app3 _ _ _ _ _ _ _ | with_reducible exact Junk.app4 _ _ _ _ _ _ _ _ | with_reducible exact Junk.app5 _ _ _ _ _ _ _ _ _ | with_reducible apply Junk.alloc | with_reducible apply Junk.junk | with_reducible apply Junk.drew | with_reducible apply Junk.drewN))))) (HA.out.on (by (first | ((repeat (first | with_reducible exact Junk.refl _ | with_reducible exact Junk.app _ _ _ _ _ | with_reducible apply Junk.alloc | with_reducible apply Junk.junk | with_reducible apply Junk.drew | with_reducible apply Junk.drewN)); done) | ((try simp only [World.junk_junk, Array.append_assoc]); (repeat (first | with_reducible exact Junk.refl _ | with_reducible exact Junk.app _ _ _ _ _ | with_reducible exact Junk.app2 _ _ _ _ _ _ | with_reducible exact Junk.app3 _ _ _ _ _ _ _ | with_reducible exact Junk.app4 _ _ _ _ _ _ _ _ | with_reducible exact Junk.app5 _ _ _ _ _ _ _ _ _ | with_reducible apply Junk.alloc | with_reducible apply Junk.junk | with_reducible apply Junk.drew | with_reducible apply Junk.drewN)))))) HZ.out.2.2.1 HZ.out.2.2.2.1).mono ?_; rintro e w' ⟨oQ, cQ, rfl, ⟨osQ, dQ, rfl⟩, h_Q⟩; have HQ := Lib.hid h_Q; clear h_Q); refine hK _ _ (Junk.pair (by (repeat (first | with_reducible exact Junk.refl _ | with_reducible exact Junk.app _ _ _ _ _ | with_reducible apply Junk.alloc | with_reducible apply Junk.junk | with_reducible apply Junk.drew | with_reducible apply Junk.drewN | (with_reducible refine Junk.setCell ?_ (by simp) _))))) ?_; clear hK K; refine wpMix_e rfl (fun osm4_2 dm4_2 K hK => ?_); (go_simp; try go_bits); (go_at_call 66; refine (uhalf_any ((w.alloc (.cells #[.int .i64 sp, .int .i64 dp, .bool false, .slice oa l ca] 61))) _ oQ cQ 4 Z (L : Int) (by omega) (by omega) (by omega) (by (first | ((repeat (first | with_reducible exact Junk.refl _ | with_reducible exact Junk.app _ _ _ _ _ | with_reducible apply Junk.alloc | with_reducible apply Junk.junk | with_reducible apply Junk.drew | with_reducible apply Junk.drewN)); done) | ((try simp only [World.junk_junk, Array.append_assoc]); (repeat (first | with_reducible exact Junk.refl _ | with_reducible exact Junk.app _ _ _ _ _ | with_reducible exact Junk.app2 _ _ _ _ _ _ | with_reducible exact Junk.app3 _ _ _ _ _ _ _ | with_reducible exact Junk.app4 _ _ _ _ _ _ _ _ | with_reducible exact Junk.app5 _ _ _ _ _ _ _ _ _ | with_reducible apply Junk.alloc | with_reducible apply Junk.junk | with_reducible apply Junk.drew | with_reducible apply Junk.drewN))))) (HQ.out.on (by (first | ((repeat (first | with_reducible exact Junk.refl _ | with_reducible exact Junk.app _ _ _ _ _ | with_reducible apply Junk.alloc | with_reducible apply Junk.junk | with_reducible apply Junk.drew | with_reducible apply Junk.drewN)); done) | ((try simp only [World.junk_junk, Array.append_assoc]); (repeat (first | with_reducible exact Junk.refl _ | with_reducible exact Junk.app _ _ _ _ _ | with_reducible exact Junk.app2 _ _ _ _ _ _ | with_reducible exact Junk.app3 _ _ _ _ _ _ _ | with_reducible exact Junk.app4 _ _ _ _ _ _ _ _ | with_reducible exact Junk.app5 _ _ _ _ _ _ _ _ _ | with_reducible apply Junk.alloc | with_reducible apply Junk.junk | with_reducible apply Junk.drew | with_reducible apply Junk.drewN)))))) HZ.out.2.2.2.2.1 HZ.out.2.2.2.2.2.1).mono ?_; rintro e w' ⟨oR, cR, rfl, ⟨osR, dR, rfl⟩, h_R⟩; have HR := Lib.hid h_R; clear h_R); refine hK _ _ (Junk.pair (by (repeat (first | with_reducible exact Junk.refl _ | with_reducible exact Junk.app _ _ _ _ _ | with_reducible apply Junk.alloc | with_reducible apply Junk.junk | with_reducible apply Junk.drew | with_reducible apply Junk.drewN | (with_reducible refine Junk.setCell ?_ (by simp) _))))) ?_; clear hK K; refine wpMix_e rfl (fun osm4_3 dm4_3 K hK => ?_); (go_simp; try go_bits); (go_at_call 66; refine (uhalf_any ((w.alloc (.cells #[.int .i64 sp, .int .i64 dp, .bool false, .slice oa l ca] 61))) _ oR cR 6 Z 0 (by omega) (by omega) (by omega) (by (first | ((repeat (first | with_reducible exact Junk.refl _ | with_reducible exact Junk.app _ _ _ _ _ | with_reducible apply Junk.alloc | with_reducible apply Junk.junk | with_reducible apply Junk.drew | with_reducible apply Junk.drewN)); done) | ((try simp only [World.junk_junk, Array.append_assoc]); (repeat (first | with_reducible exact Junk.refl _ | with_reducible exact Junk.app _ _ _ _ _ | with_reducible exact Junk.app2 _ _ _ _ _ _ | with_reducible exact Junk.app3 _ _ _ _ _ _ _ | with_reducible exact Junk.app4 _ _ _ _ _ _ _ _ | with_reducible exact Junk.app5 _ _ _ _ _ _ _ _ _ | with_reducible apply Junk.alloc | with_reducible apply Junk.junk | with_reducible apply Junk.drew | with_reducible apply Junk.drewN))))) (HR.out.on (by (first | ((repeat (first | with_reducible exact Junk.refl _ | with_reducible exact Junk.app _ _ _ _ _ | with_reducible apply Junk.alloc | with_reducible apply Junk.junk | with_reducible apply Junk.drew | with_reducible apply Junk.drewN)); done) | ((try simp only [World.junk_junk, Array.append_assoc]); (repeat (first | with_reducible exact Junk.refl _ | with_reducible exact Junk.app _ _ _ _ _ | with_reducible exact Junk.app2 _ _ _ _ _ _ | with_reducible exact Junk.app3 _ _ _ _ _ _ _ | with_reducible exact Junk.app4 _ _ _ _ _ _ _ _ | with_reducible exact Junk.app5 _ _ _ _ _ _ _ _ _ | with_reducible apply Junk.alloc | with_reducible apply Junk.junk | with_reducible apply Junk.drew | with_reducible apply Junk.drewN)))))) HZ.out.2.2.2.2.2.2.1 HZ.out.2.2.2.2.2.2.2.1).mono ?_; rintro e w' ⟨oD, cD, rfl, ⟨osD, dD, rfl⟩, h_D⟩; have HD := Lib.hid h_D; clear h_D); refine hK _ _ (Junk.pair (by (repeat (first | with_reducible exact Junk.refl _ | with_reducible exact Junk.app _ _ _ _ _ | with_reducible apply Junk.alloc | with_reducible apply Junk.junk | with_reducible apply Junk.drew | with_reducible apply Junk.drewN | (with_reducible refine Junk.setCell ?_ (by simp) _))))) ?_; clear hK K; (iterate 1 (refine wpMix_q rfl (fun K hK => ?_); (go_simp; try go_bits); (refine hK _ ?_; clear hK K))); refine wpMix_nil (fun osm dm => ?_)
    go_upto_region 5 with (fail)
    go_upto_region 6 with (first | (at_builtin; (refine ap_bz (W0 := (w.alloc (.cells #[.int .i64 sp, .int .i64 dp, .bool false, .slice oa l ca] 61))) rfl _ _ rfl (by ((try simp only [World.junk_junk, Array.append_assoc]); (repeat (first | with_reducible exact Junk.refl _ | with_reducible exact Junk.app _ _ _ _ _ | with_reducible exact Junk.app2 _ _ _ _ _ _ | with_reducible exact Junk.app3 _ _ _ _ _ _ _ | with_reducible exact Junk.app4 _ _ _ _ _ _ _ _ | with_reducible exact Junk.app5 _ _ _ _ _ _ _ _ _ | with_reducible apply Junk.alloc | with_reducible apply Junk.junk | with_reducible apply Junk.drew | with_reducible apply Junk.drewN)))) oD (cD) (8) (Z) rfl (HD.out.on (by (first | ((repeat (first | with_reducible exact Junk.refl _ | with_reducible exact Junk.app _ _ _ _ _ | with_reducible apply Junk.alloc | with_reducible apply Junk.junk | with_reducible apply Junk.drew | with_reducible apply Junk.drewN)); done) | ((try simp only [World.junk_junk, Array.append_assoc]); (repeat (first | with_reducible exact Junk.refl _ | with_reducible exact Junk.app _ _ _ _ _ | with_reducible exact Junk.app2 _ _ _ _ _ _ | with_reducible exact Junk.app3 _ _ _ _ _ _ _ | with_reducible exact Junk.app4 _ _ _ _ _ _ _ _ | with_reducible exact Junk.app5 _ _ _ _ _ _ _ _ _ | with_reducible apply Junk.alloc | with_reducible apply Junk.junk | with_reducible apply Junk.drew | with_reducible apply Junk.drewN)))))) oa (l) (ca) rfl (ints_congr (HB.out.at_.on (by (first | ((repeat (first | with_reducible exact Junk.refl _ | with_reducible exact Junk.app _ _ _ _ _ | with_reducible apply Junk.alloc | with_reducible apply Junk.junk | with_reducible apply Junk.drew | with_reducible apply Junk.drewN)); done) | ((try simp only [World.junk_junk, Array.append_assoc]); (repeat (first | with_reducible exact Junk.refl _ | with_reducible exact Junk.app _ _ _ _ _ | with_reducible exact Junk.app2 _ _ _ _ _ _ | with_reducible exact Junk.app3 _ _ _ _ _ _ _ | with_reducible exact Junk.app4 _ _ _ _ _ _ _ _ | with_reducible exact Junk.app5 _ _ _ _ _ _ _ _ _ | with_reducible apply Junk.alloc | with_reducible apply Junk.junk | with_reducible apply Junk.drew | with_reducible apply Junk.drewN)))))) (fun j _ => HZ.out.2.2.2.2.2.2.2.2 j)) ((fun h => HB.out.nil h)) (by omega) ?_; intro oE cE osE dE h_E hnE; have HE := Lib.hid h_E; clear h_E)))
    rw [HLL.out] at HE
    rw [HLL.out]
    (obtain ⟨g, rfl, hgB, hgS, hcells⟩ := own_some HE.out (by omega); obtain ⟨hc6, hf6⟩ := hcells 6 (.int .u8 (Z 6)) (by rw [bz, List.getElem?_map, List.getElem?_range (by omega)]; rfl); obtain ⟨hc7, hf7⟩ := hcells 7 (.int .u8 (Z 7)) (by rw [bz, List.getElem?_map, List.getElem?_range (by omega)]; rfl); have HBT := Lib.hid (HE.out.bts HBZ.out); clear hcells)
    go_upto_region 8 with (fail)
    have hJV : Junk w (((w.alloc (.cells #[.int .i64 sp, .int .i64 dp, .bool false, .slice oa l ca] 61))).junk osE dE) := by (first | ((repeat (first | with_reducible exact Junk.refl _ | with_reducible exact Junk.app _ _ _ _ _ | with_reducible apply Junk.alloc | with_reducible apply Junk.junk | with_reducible apply Junk.drew | with_reducible apply Junk.drewN)); done) | ((try simp only [World.junk_junk, Array.append_assoc]); (repeat (first | with_reducible exact Junk.refl _ | with_reducible exact Junk.app _ _ _ _ _ | with_reducible exact Junk.app2 _ _ _ _ _ _ | with_reducible exact Junk.app3 _ _ _ _ _ _ _ | with_reducible exact Junk.app4 _ _ _ _ _ _ _ _ | with_reducible exact Junk.app5 _ _ _ _ _ _ _ _ _ | with_reducible apply Junk.alloc | with_reducible apply Junk.junk | with_reducible apply Junk.drew | with_reducible apply Junk.drewN))))
    have hgw : w.heap.size ≤ g := by simp at hgB; omega
    clear HE hgB
    generalize ((w.alloc (.cells #[.int .i64 sp, .int .i64 dp, .bool false, .slice oa l ca] 61))).junk osE dE = V at hgS hc6 hf6 hc7 hf7 HBT hJV ⊢
    have HJV := Lib.hid hJV
    clear hJV
    go_wp2_with (first | (go_at_call 56; (with_reducible refine (HSUM.out _ _ _ (HBT.out.at_.on (by (first | ((repeat (first | with_reducible exact Junk.refl _ | with_reducible exact Junk.app _ _ _ _ _ | with_reducible apply Junk.alloc | with_reducible apply Junk.junk | with_reducible apply Junk.drew | with_reducible apply Junk.drewN)); done) | ((try simp only [World.junk_junk, Array.append_assoc]); (repeat (first | with_reducible exact Junk.refl _ | with_reducible exact Junk.app _ _ _ _ _ | with_reducible exact Junk.app2 _ _ _ _ _ _ | with_reducible exact Junk.app3 _ _ _ _ _ _ _ | with_reducible exact Junk.app4 _ _ _ _ _ _ _ _ | with_reducible exact Junk.app5 _ _ _ _ _ _ _ _ _ | with_reducible apply Junk.alloc | with_reducible apply Junk.junk | with_reducible apply Junk.drew | with_reducible apply Junk.drewN))))))).mono ?_); rintro e w' ⟨rfl, ⟨osj, dj, rfl⟩⟩))
    go_returns
    rw [HLL.out.symm] at HBT
    refine ⟨some ⟨g, 0, none⟩, cE, (by rw [HLL.out]; rfl), ?_, ?_⟩
    · exact (Junk.setCell (Junk.setCell HJV.out (a := ⟨g, 6, none⟩) hgw _) (a := ⟨g, 7, none⟩) hgw _).junk _ _
    · refine Bts.on (W := _) ?_ ⟨_, _, rfl⟩
      exact u_bts_congr (bts_set0 (bts_set0 HBT.out 6 _ (by omega)) 7 _ (by omega)) (fun i _ => by have := HSET.out _ HC.out i; rw [HZZ.out] at this; exact this)
  · rw [if_neg hX0] at hCX
    have hXC : bits .xor .u16 IntKind.u16.max X = C := by rw [hCX]; exact xor_u16 X hsb.1 (by omega)
    have hC0 : (C == 0) = false := by simp; omega
    have hC1 : (bits .xor .u16 (if IntKind.u16.signed = true then -1 else IntKind.u16.max) X == 0) = false := by rw [if_neg (by decide), hXC]; exact hC0
    have q7 : C / 256 % 256 = C / 256 := by omega
    have q8 := wrapk_u8 (C / 256) (by omega) (by omega)
    have q9 : IntKind.u8.wrap C = C % 256 := IntKind.wrap_u8 _
    clear hCX hX0
    go_enter Try.func30, Try.ntmps30
    go_wp2_with (first | (go_at_call 65; (with_reducible refine (p1.out _).mono ?_); rintro e w' ⟨rfl, rfl⟩) | (go_at_call 65; (with_reducible refine (p2.out _).mono ?_); rintro e w' ⟨rfl, rfl⟩))
    refine wp_region_mixj ((w.alloc (.cells #[.int .i64 sp, .int .i64 dp, .bool false, .slice oa l ca] 61))) [(0, true), (1, true), (3, true), (4, true), (6, true), (2, false), (5, false), (7, false), (8, false), (9, true)] (by kernel_rfl) (by kernel_rfl) (by (repeat (first | with_reducible exact Junk.refl _ | with_reducible exact Junk.app _ _ _ _ _ | with_reducible apply Junk.alloc | with_reducible apply Junk.junk | with_reducible apply Junk.drew | with_reducible apply Junk.drewN))) ?_; (iterate 5 (refine wpMix_q rfl (fun K hK => ?_); (go_simp; try go_bits); (refine hK _ ?_; clear hK K))); refine wpMix_e rfl (fun osm4_0 dm4_0 K hK => ?_); (go_simp; try go_bits); (go_at_call 66; refine (uhalf_any ((w.alloc (.cells #[.int .i64 sp, .int .i64 dp, .bool false, .slice oa l ca] 61))) _ none 0 0 Z sp hs0 hs1 (by omega) (by (first | ((repeat (first | with_reducible exact Junk.refl _ | with_reducible exact Junk.app _ _ _ _ _ | with_reducible apply Junk.alloc | with_reducible apply Junk.junk | with_reducible apply Junk.drew | with_reducible apply Junk.drewN)); done) | ((try simp only [World.junk_junk, Array.append_assoc]); (repeat (first | with_reducible exact Junk.refl _ | with_reducible exact Junk.app _ _ _ _ _ | with_reducible exact Junk.app2 _ _ _ _ _ _ | with_reducible exact Junk.app3 _ _ _ _ _ _ _ | with_reducible exact Junk.app4 _ _ _ _ _ _ _ _ | with_reducible exact Junk.app5 _ _ _ _ _ _ _ _ _ | with_reducible apply Junk.alloc | with_reducible apply Junk.junk | with_reducible apply Junk.drew | with_reducible apply Junk.drewN))))) (OwB.nil _ _ _) HZ.out.1 HZ.out.2.1).mono ?_; rintro e w' ⟨oA, cA, rfl, ⟨osA, dA, rfl⟩, h_A⟩; have HA := Lib.hid h_A; clear h_A); refine hK _ _ (Junk.pair (by (repeat (first | with_reducible exact Junk.refl _ | with_reducible exact Junk.app _ _ _ _ _ | with_reducible apply Junk.alloc | with_reducible apply Junk.junk | with_reducible apply Junk.drew | with_reducible apply Junk.drewN | (with_reducible refine Junk.setCell ?_ (by simp) _))))) ?_; clear hK K; refine wpMix_e rfl (fun osm4_1 dm4_1 K hK => ?_); (go_simp; try go_bits); (go_at_call 66; refine (uhalf_any ((w.alloc (.cells #[.int .i64 sp, .int .i64 dp, .bool false, .slice oa l ca] 61))) _ oA cA 2 Z dp hd0 hd1 (by omega) (by (first | ((repeat (first | with_reducible exact Junk.refl _ | with_reducible exact Junk.app _ _ _ _ _ | with_reducible apply Junk.alloc | with_reducible apply Junk.junk | with_reducible apply Junk.drew | with_reducible apply Junk.drewN)); done) | ((try simp only [World.junk_junk, Array.append_assoc]); (repeat (first | with_reducible exact Junk.refl _ | with_reducible exact Junk.app _ _ _ _ _ | with_reducible exact Junk.app2 _ _ _ _ _ _ | with_reducible exact Junk.app3 _ _ _ _ _ _ _ | with_reducible exact Junk.app4 _ _ _ _ _ _ _ _ | with_reducible exact Junk.app5 _ _ _ _ _ _ _ _ _ | with_reducible apply Junk.alloc | with_reducible apply Junk.junk | with_reducible apply Junk.drew | with_reducible apply Junk.drewN))))) (HA.out.on (by (first | ((repeat (first | with_reducible exact Junk.refl _ | with_reducible exact Junk.app _ _ _ _ _ | with_reducible apply Junk.alloc | with_reducible apply Junk.junk | with_reducible apply Junk.drew | with_reducible apply Junk.drewN)); done) | ((try simp only [World.junk_junk, Array.append_assoc]); (repeat (first | with_reducible exact Junk.refl _ | with_reducible exact Junk.app _ _ _ _ _ | with_reducible exact Junk.app2 _ _ _ _ _ _ | with_reducible exact Junk.app3 _ _ _ _ _ _ _ | with_reducible exact Junk.app4 _ _ _ _ _ _ _ _ | with_reducible exact Junk.app5 _ _ _ _ _ _ _ _ _ | with_reducible apply Junk.alloc | with_reducible apply Junk.junk | with_reducible apply Junk.drew | with_reducible apply Junk.drewN)))))) HZ.out.2.2.1 HZ.out.2.2.2.1).mono ?_; rintro e w' ⟨oQ, cQ, rfl, ⟨osQ, dQ, rfl⟩, h_Q⟩; have HQ := Lib.hid h_Q; clear h_Q); refine hK _ _ (Junk.pair (by (repeat (first | with_reducible exact Junk.refl _ | with_reducible exact Junk.app _ _ _ _ _ | with_reducible apply Junk.alloc | with_reducible apply Junk.junk | with_reducible apply Junk.drew | with_reducible apply Junk.drewN | (with_reducible refine Junk.setCell ?_ (by simp) _))))) ?_; clear hK K; refine wpMix_e rfl (fun osm4_2 dm4_2 K hK => ?_); (go_simp; try go_bits); (go_at_call 66; refine (uhalf_any ((w.alloc (.cells #[.int .i64 sp, .int .i64 dp, .bool false, .slice oa l ca] 61))) _ oQ cQ 4 Z (L : Int) (by omega) (by omega) (by omega) (by (first | ((repeat (first | with_reducible exact Junk.refl _ | with_reducible exact Junk.app _ _ _ _ _ | with_reducible apply Junk.alloc | with_reducible apply Junk.junk | with_reducible apply Junk.drew | with_reducible apply Junk.drewN)); done) | ((try simp only [World.junk_junk, Array.append_assoc]); (repeat (first | with_reducible exact Junk.refl _ | with_reducible exact Junk.app _ _ _ _ _ | with_reducible exact Junk.app2 _ _ _ _ _ _ | with_reducible exact Junk.app3 _ _ _ _ _ _ _ | with_reducible exact Junk.app4 _ _ _ _ _ _ _ _ | with_reducible exact Junk.app5 _ _ _ _ _ _ _ _ _ | with_reducible apply Junk.alloc | with_reducible apply Junk.junk | with_reducible apply Junk.drew | with_reducible apply Junk.drewN))))) (HQ.out.on (by (first | ((repeat (first | with_reducible exact Junk.refl _ | with_reducible exact Junk.app _ _ _ _ _ | with_reducible apply Junk.alloc | with_reducible apply Junk.junk | with_reducible apply Junk.drew | with_reducible apply Junk.drewN)); done) | ((try simp only [World.junk_junk, Array.append_assoc]); (repeat (first | with_reducible exact Junk.refl _ | with_reducible exact Junk.app _ _ _ _ _ | with_reducible exact Junk.app2 _ _ _ _ _ _ | with_reducible exact Junk.app3 _ _ _ _ _ _ _ | with_reducible exact Junk.app4 _ _ _ _ _ _ _ _ | with_reducible exact Junk.app5 _ _ _ _ _ _ _ _ _ | with_reducible apply Junk.alloc | with_reducible apply Junk.junk | with_reducible apply Junk.drew | with_reducible apply Junk.drewN)))))) HZ.out.2.2.2.2.1 HZ.out.2.2.2.2.2.1).mono ?_; rintro e w' ⟨oR, cR, rfl, ⟨osR, dR, rfl⟩, h_R⟩; have HR := Lib.hid h_R; clear h_R); refine hK _ _ (Junk.pair (by (repeat (first | with_reducible exact Junk.refl _ | with_reducible exact Junk.app _ _ _ _ _ | with_reducible apply Junk.alloc | with_reducible apply Junk.junk | with_reducible apply Junk.drew | with_reducible apply Junk.drewN | (with_reducible refine Junk.setCell ?_ (by simp) _))))) ?_; clear hK K; refine wpMix_e rfl (fun osm4_3 dm4_3 K hK => ?_); (go_simp; try go_bits); (go_at_call 66; refine (uhalf_any ((w.alloc (.cells #[.int .i64 sp, .int .i64 dp, .bool false, .slice oa l ca] 61))) _ oR cR 6 Z 0 (by omega) (by omega) (by omega) (by (first | ((repeat (first | with_reducible exact Junk.refl _ | with_reducible exact Junk.app _ _ _ _ _ | with_reducible apply Junk.alloc | with_reducible apply Junk.junk | with_reducible apply Junk.drew | with_reducible apply Junk.drewN)); done) | ((try simp only [World.junk_junk, Array.append_assoc]); (repeat (first | with_reducible exact Junk.refl _ | with_reducible exact Junk.app _ _ _ _ _ | with_reducible exact Junk.app2 _ _ _ _ _ _ | with_reducible exact Junk.app3 _ _ _ _ _ _ _ | with_reducible exact Junk.app4 _ _ _ _ _ _ _ _ | with_reducible exact Junk.app5 _ _ _ _ _ _ _ _ _ | with_reducible apply Junk.alloc | with_reducible apply Junk.junk | with_reducible apply Junk.drew | with_reducible apply Junk.drewN))))) (HR.out.on (by (first | ((repeat (first | with_reducible exact Junk.refl _ | with_reducible exact Junk.app _ _ _ _ _ | with_reducible apply Junk.alloc | with_reducible apply Junk.junk | with_reducible apply Junk.drew | with_reducible apply Junk.drewN)); done) | ((try simp only [World.junk_junk, Array.append_assoc]); (repeat (first | with_reducible exact Junk.refl _ | with_reducible exact Junk.app _ _ _ _ _ | with_reducible exact Junk.app2 _ _ _ _ _ _ | with_reducible exact Junk.app3 _ _ _ _ _ _ _ | with_reducible exact Junk.app4 _ _ _ _ _ _ _ _ | with_reducible exact Junk.app5 _ _ _ _ _ _ _ _ _ | with_reducible apply Junk.alloc | with_reducible apply Junk.junk | with_reducible apply Junk.drew | with_reducible apply Junk.drewN)))))) HZ.out.2.2.2.2.2.2.1 HZ.out.2.2.2.2.2.2.2.1).mono ?_; rintro e w' ⟨oD, cD, rfl, ⟨osD, dD, rfl⟩, h_D⟩; have HD := Lib.hid h_D; clear h_D); refine hK _ _ (Junk.pair (by (repeat (first | with_reducible exact Junk.refl _ | with_reducible exact Junk.app _ _ _ _ _ | with_reducible apply Junk.alloc | with_reducible apply Junk.junk | with_reducible apply Junk.drew | with_reducible apply Junk.drewN | (with_reducible refine Junk.setCell ?_ (by simp) _))))) ?_; clear hK K; (iterate 1 (refine wpMix_q rfl (fun K hK => ?_); (go_simp; try go_bits); (refine hK _ ?_; clear hK K))); refine wpMix_nil (fun osm dm => ?_)
    go_upto_region 5 with (fail)
    go_upto_region 6 with (first | (at_builtin; (refine ap_bz (W0 := (w.alloc (.cells #[.int .i64 sp, .int .i64 dp, .bool false, .slice oa l ca] 61))) rfl _ _ rfl (by ((try simp only [World.junk_junk, Array.append_assoc]); (repeat (first | with_reducible exact Junk.refl _ | with_reducible exact Junk.app _ _ _ _ _ | with_reducible exact Junk.app2 _ _ _ _ _ _ | with_reducible exact Junk.app3 _ _ _ _ _ _ _ | with_reducible exact Junk.app4 _ _ _ _ _ _ _ _ | with_reducible exact Junk.app5 _ _ _ _ _ _ _ _ _ | with_reducible apply Junk.alloc | with_reducible apply Junk.junk | with_reducible apply Junk.drew | with_reducible apply Junk.drewN)))) oD (cD) (8) (Z) rfl (HD.out.on (by (first | ((repeat (first | with_reducible exact Junk.refl _ | with_reducible exact Junk.app _ _ _ _ _ | with_reducible apply Junk.alloc | with_reducible apply Junk.junk | with_reducible apply Junk.drew | with_reducible apply Junk.drewN)); done) | ((try simp only [World.junk_junk, Array.append_assoc]); (repeat (first | with_reducible exact Junk.refl _ | with_reducible exact Junk.app _ _ _ _ _ | with_reducible exact Junk.app2 _ _ _ _ _ _ | with_reducible exact Junk.app3 _ _ _ _ _ _ _ | with_reducible exact Junk.app4 _ _ _ _ _ _ _ _ | with_reducible exact Junk.app5 _ _ _ _ _ _ _ _ _ | with_reducible apply Junk.alloc | with_reducible apply Junk.junk | with_reducible apply Junk.drew | with_reducible apply Junk.drewN)))))) oa (l) (ca) rfl (ints_congr (HB.out.at_.on (by (first | ((repeat (first | with_reducible exact Junk.refl _ | with_reducible exact Junk.app _ _ _ _ _ | with_reducible apply Junk.alloc | with_reducible apply Junk.junk | with_reducible apply Junk.drew | with_reducible apply Junk.drewN)); done) | ((try simp only [World.junk_junk, Array.append_assoc]); (repeat (first | with_reducible exact Junk.refl _ | with_reducible exact Junk.app _ _ _ _ _ | with_reducible exact Junk.app2 _ _ _ _ _ _ | with_reducible exact Junk.app3 _ _ _ _ _ _ _ | with_reducible exact Junk.app4 _ _ _ _ _ _ _ _ | with_reducible exact Junk.app5 _ _ _ _ _ _ _ _ _ | with_reducible apply Junk.alloc | with_reducible apply Junk.junk | with_reducible apply Junk.drew | with_reducible apply Junk.drewN)))))) (fun j _ => HZ.out.2.2.2.2.2.2.2.2 j)) ((fun h => HB.out.nil h)) (by omega) ?_; intro oE cE osE dE h_E hnE; have HE := Lib.hid h_E; clear h_E)))
    rw [HLL.out] at HE
    rw [HLL.out]
    (obtain ⟨g, rfl, hgB, hgS, hcells⟩ := own_some HE.out (by omega); obtain ⟨hc6, hf6⟩ := hcells 6 (.int .u8 (Z 6)) (by rw [bz, List.getElem?_map, List.getElem?_range (by omega)]; rfl); obtain ⟨hc7, hf7⟩ := hcells 7 (.int .u8 (Z 7)) (by rw [bz, List.getElem?_map, List.getElem?_range (by omega)]; rfl); have HBT := Lib.hid (HE.out.bts HBZ.out); clear hcells)
    go_upto_region 8 with (fail)
    have hJV : Junk w (((w.alloc (.cells #[.int .i64 sp, .int .i64 dp, .bool false, .slice oa l ca] 61))).junk osE dE) := by (first | ((repeat (first | with_reducible exact Junk.refl _ | with_reducible exact Junk.app _ _ _ _ _ | with_reducible apply Junk.alloc | with_reducible apply Junk.junk | with_reducible apply Junk.drew | with_reducible apply Junk.drewN)); done) | ((try simp only [World.junk_junk, Array.append_assoc]); (repeat (first | with_reducible exact Junk.refl _ | with_reducible exact Junk.app _ _ _ _ _ | with_reducible exact Junk.app2 _ _ _ _ _ _ | with_reducible exact Junk.app3 _ _ _ _ _ _ _ | with_reducible exact Junk.app4 _ _ _ _ _ _ _ _ | with_reducible exact Junk.app5 _ _ _ _ _ _ _ _ _ | with_reducible apply Junk.alloc | with_reducible apply Junk.junk | with_reducible apply Junk.drew | with_reducible apply Junk.drewN))))
    have hgw : w.heap.size ≤ g := by simp at hgB; omega
    clear HE hgB
    generalize ((w.alloc (.cells #[.int .i64 sp, .int .i64 dp, .bool false, .slice oa l ca] 61))).junk osE dE = V at hgS hc6 hf6 hc7 hf7 HBT hJV ⊢
    have HJV := Lib.hid hJV
    clear hJV
    go_wp2_with (first | (go_at_call 56; (with_reducible refine (HSUM.out _ _ _ (HBT.out.at_.on (by (first | ((repeat (first | with_reducible exact Junk.refl _ | with_reducible exact Junk.app _ _ _ _ _ | with_reducible apply Junk.alloc | with_reducible apply Junk.junk | with_reducible apply Junk.drew | with_reducible apply Junk.drewN)); done) | ((try simp only [World.junk_junk, Array.append_assoc]); (repeat (first | with_reducible exact Junk.refl _ | with_reducible exact Junk.app _ _ _ _ _ | with_reducible exact Junk.app2 _ _ _ _ _ _ | with_reducible exact Junk.app3 _ _ _ _ _ _ _ | with_reducible exact Junk.app4 _ _ _ _ _ _ _ _ | with_reducible exact Junk.app5 _ _ _ _ _ _ _ _ _ | with_reducible apply Junk.alloc | with_reducible apply Junk.junk | with_reducible apply Junk.drew | with_reducible apply Junk.drewN))))))).mono ?_); rintro e w' ⟨rfl, ⟨osj, dj, rfl⟩⟩))
    go_returns
    rw [HLL.out.symm] at HBT
    refine ⟨some ⟨g, 0, none⟩, cE, (by rw [HLL.out]; rfl), ?_, ?_⟩
    · exact (Junk.setCell (Junk.setCell HJV.out (a := ⟨g, 6, none⟩) hgw _) (a := ⟨g, 7, none⟩) hgw _).junk _ _
    · refine Bts.on (W := _) ?_ ⟨_, _, rfl⟩
      exact u_bts_congr (bts_set0 (bts_set0 HBT.out 6 _ (by omega)) 7 _ (by omega)) (fun i _ => by have := HSET.out _ HC.out i; rw [HZZ.out] at this; exact this)
end Go.Proofs.Ytnefphinmjeacaa
set_option linter.unusedVariables false
set_option maxRecDepth 100000
set_option linter.unusedSimpArgs false
namespace Go.Proofs.Ytnefphinmjeacaa
open Go.RowKit
set_option maxHeartbeats 4000000 in
theorem rhop_2 (c0 c1 c4 c6 c7 c8 : Int) (c2 c3 : Bool) (oo ob : Option Addr) (ol oc bl bc : Nat) (xs ys : Nat → Int) (w : World) (hO : Bts w oo ol oc xs) (hB : Bts w ob bl bc ys) (hol : ol ≤ 100000000) (hbl : bl ≤ 100000000) :
    Calls Try.prog 42 #[.agg #[.int .i64 c0, .int .i64 c1, .bool c2, .bool c3, .int .i64 c4, .int .i64 2, .int .i64 c6, .int .u32 c7, .int .u32 c8, .slice oo ol oc, .slice ob bl bc]] w fun e w' => ∃ (oq oz : Option Addr) (cq cz : Nat), e = .returned (.tuple #[.agg #[.int .i64 c0, .int .i64 c1, .bool c2, .bool c3, .int .i64 c4, .int .i64 1, .int .i64 c6, .int .u32 c7, .int .u32 c8, .slice oq ol cq, .slice oz bl cz], .int .i64 0]) ∧ Junk w w' := by
  have HO := Lib.hid hO
  have HB := Lib.hid hB
  clear hO hB
  go_enter Try.func42, Try.ntmps42
  go_upto_region 4 with (fail)
  refine wp_region_mixm (((w.alloc (.cells #[.int .i64 c0, .int .i64 c1, .bool c2, .bool c3, .int .i64 c4, .int .i64 1, .int .i64 c6, .int .u32 c7, .int .u32 c8, .slice oo ol oc, .slice ob bl bc] 43)).alloc (.cells #[.int .i64 0, .int .i64 0, .bool false, .bool false, .int .i64 0, .int .i64 0, .int .i64 0, .int .u32 0, .int .u32 0, .slice none 0 0, .slice none 0 0] 43))) [7, 8, 9] [(0, true), (1, true), (3, true), (4, true), (2, false), (6, true), (5, false), (7, false), (8, false), (9, false)] (by kernel_rfl) (by kernel_rfl) (by (repeat (first | with_reducible exact Junk.refl _ | with_reducible exact Junk.app _ _ _ _ _ | with_reducible apply Junk.alloc | with_reducible apply Junk.junk | with_reducible apply Junk.drew | with_reducible apply Junk.drewN | (with_reducible refine Junk.setCell ?_ (by simp) _)))) ?_; (iterate 4 (refine wpMixM_q rfl (fun K hK => ?_); (go_simp; try go_bits); (refine hK _ ?_; clear hK K))); refine wpMixM_e rfl (fun osm4_0 dm4_0 K hK => ?_); (go_simp; try go_bits); (go_at_call 41; refine (clone_any oo ol oc xs _ hol (HO.out.on (by (first | ((repeat (first | with_reducible exact Junk.refl _ | with_reducible exact Junk.app _ _ _ _ _ | with_reducible apply Junk.alloc | with_reducible apply Junk.junk | with_reducible apply Junk.drew | with_reducible apply Junk.drewN)); done) | ((try simp only [World.junk_junk, Array.append_assoc]); (repeat (first | with_reducible exact Junk.refl _ | with_reducible exact Junk.app _ _ _ _ _ | with_reducible exact Junk.app2 _ _ _ _ _ _ | with_reducible exact Junk.app3 _ _ _ _ _ _ _ | with_reducible exact Junk.app4 _ _ _ _ _ _ _ _ | with_reducible exact Junk.app5 _ _ _ _ _ _ _ _ _ | with_reducible apply Junk.alloc | with_reducible apply Junk.junk | with_reducible apply Junk.drew | with_reducible apply Junk.drewN))))))).mono ?_; rintro e w' ⟨oq, cq, rfl, ⟨osQ, dQ, rfl⟩, hbq, _, hfq⟩; clear hbq hfq); refine hK _ _ (Junk.pair (by (repeat (first | with_reducible exact Junk.refl _ | with_reducible exact Junk.app _ _ _ _ _ | with_reducible apply Junk.alloc | with_reducible apply Junk.junk | with_reducible apply Junk.drew | with_reducible apply Junk.drewN | (with_reducible refine Junk.setCell ?_ (by simp) _))))) ?_; clear hK K; (iterate 1 (refine wpMixM_q rfl (fun K hK => ?_); (go_simp; try go_bits); (refine hK _ ?_; clear hK K))); refine wpMixM_e rfl (fun osm4_1 dm4_1 K hK => ?_); (go_simp; try go_bits); (go_at_call 41; refine (clone_any ob bl bc ys _ hbl (HB.out.on (by (first | ((repeat (first | with_reducible exact Junk.refl _ | with_reducible exact Junk.app _ _ _ _ _ | with_reducible apply Junk.alloc | with_reducible apply Junk.junk | with_reducible apply Junk.drew | with_reducible apply Junk.drewN)); done) | ((try simp only [World.junk_junk, Array.append_assoc]); (repeat (first | with_reducible exact Junk.refl _ | with_reducible exact Junk.app _ _ _ _ _ | with_reducible exact Junk.app2 _ _ _ _ _ _ | with_reducible exact Junk.app3 _ _ _ _ _ _ _ | with_reducible exact Junk.app4 _ _ _ _ _ _ _ _ | with_reducible exact Junk.app5 _ _ _ _ _ _ _ _ _ | with_reducible apply Junk.alloc | with_reducible apply Junk.junk | with_reducible apply Junk.drew | with_reducible apply Junk.drewN))))))).mono ?_; rintro e w' ⟨oz, cz, rfl, ⟨osZ, dZ, rfl⟩, hbq, _, hfq⟩; clear hbq hfq); refine hK _ _ (Junk.pair (by (repeat (first | with_reducible exact Junk.refl _ | with_reducible exact Junk.app _ _ _ _ _ | with_reducible apply Junk.alloc | with_reducible apply Junk.junk | with_reducible apply Junk.drew | with_reducible apply Junk.drewN | (with_reducible refine Junk.setCell ?_ (by simp) _))))) ?_; clear hK K; refine wpMixM_late (by decide) rfl (fun osm4_2 dm4_2 K hK => ?_); (go_simp; try go_bits); refine hK _ _ ?_; clear hK K; refine wpMixM_late (by decide) rfl (fun osm4_3 dm4_3 K hK => ?_); (go_simp; try go_bits); refine hK _ _ ?_; clear hK K; refine wpMixM_late (by decide) rfl (fun osm4_4 dm4_4 K hK => ?_); (go_simp; try go_bits); refine hK _ _ ?_; clear hK K; refine wpMixM_nil (fun osm dm => ?_)
  (try simp only [World.junk_junk, Array.append_assoc])
  go_wp2
  go_returns
  exact ⟨oq, oz, cq, cz, rfl, by (first | ((repeat (first | with_reducible exact Junk.refl _ | with_reducible exact Junk.app _ _ _ _ _ | with_reducible apply Junk.alloc | with_reducible apply Junk.junk | with_reducible apply Junk.drew | with_reducible apply Junk.drewN)); done) | ((try simp only [World.junk_junk, Array.append_assoc]); (repeat (first | with_reducible exact Junk.refl _ | with_reducible exact Junk.app _ _ _ _ _ | with_reducible exact Junk.app2 _ _ _ _ _ _ | with_reducible exact Junk.app3 _ _ _ _ _ _ _ | with_reducible exact Junk.app4 _ _ _ _ _ _ _ _ | with_reducible exact Junk.app5 _ _ _ _ _ _ _ _ _ | with_reducible apply Junk.alloc | with_reducible apply Junk.junk | with_reducible apply Junk.drew | with_reducible apply Junk.drewN))))⟩
theorem usame_eq (s d : Int) (n : Bool) (oa ob : Option Addr) (l ca cb : Nat) (xs ys : Nat → Int) (w : World) (hI : Bts w oa l ca xs) (hJ : Bts w ob l cb ys) (hs : sameN xs ys l l = true) :
    Calls Try.prog 27 #[.agg #[.int .i64 s, .int .i64 d, .bool n, .slice oa l ca], .agg #[.int .i64 s, .int .i64 d, .bool n, .slice ob l cb]] w fun e w' => e = .returned (.bool true) ∧ Junk w w' := by
  have HI := Lib.hid hI
  have HJ := Lib.hid hJ
  have HE := Lib.hid (fun w1 (h1 : Bts w1 oa l ca xs) (h2 : Bts w1 ob l cb ys) => show Calls Try.prog 48 #[.slice oa l ca, .slice ob l cb] w1 fun e w' => e = .returned (.bool true) ∧ w1 = w' by
    have := equal_any oa ob l ca l cb xs ys w1 h1.at_ h2.at_ h1.byte h2.byte
    rw [hs] at this
    exact this)
  clear hI hJ hs
  go_enter Try.func27, Try.ntmps27
  go_wp2_with (first | (go_at_call 48; refine (HE.out _ (HI.out.on (by (first | ((repeat (first | with_reducible exact Junk.refl _ | with_reducible exact Junk.app _ _ _ _ _ | with_reducible apply Junk.alloc | with_reducible apply Junk.junk | with_reducible apply Junk.drew | with_reducible apply Junk.drewN)); done) | ((try simp only [World.junk_junk, Array.append_assoc]); (repeat (first | with_reducible exact Junk.refl _ | with_reducible exact Junk.app _ _ _ _ _ | with_reducible exact Junk.app2 _ _ _ _ _ _ | with_reducible exact Junk.app3 _ _ _ _ _ _ _ | with_reducible exact Junk.app4 _ _ _ _ _ _ _ _ | with_reducible exact Junk.app5 _ _ _ _ _ _ _ _ _ | with_reducible apply Junk.alloc | with_reducible apply Junk.junk | with_reducible apply Junk.drew | with_reducible apply Junk.drewN)))))) (HJ.out.on (by (first | ((repeat (first | with_reducible exact Junk.refl _ | with_reducible exact Junk.app _ _ _ _ _ | with_reducible apply Junk.alloc | with_reducible apply Junk.junk | with_reducible apply Junk.drew | with_reducible apply Junk.drewN)); done) | ((try simp only [World.junk_junk, Array.append_assoc]); (repeat (first | with_reducible exact Junk.refl _ | with_reducible exact Junk.app _ _ _ _ _ | with_reducible exact Junk.app2 _ _ _ _ _ _ | with_reducible exact Junk.app3 _ _ _ _ _ _ _ | with_reducible exact Junk.app4 _ _ _ _ _ _ _ _ | with_reducible exact Junk.app5 _ _ _ _ _ _ _ _ _ | with_reducible apply Junk.alloc | with_reducible apply Junk.junk | with_reducible apply Junk.drew | with_reducible apply Junk.drewN))))))).mono ?_; rintro e w' ⟨rfl, rfl⟩))
  go_ret
  exact ⟨ret_bool rfl, by (first | ((repeat (first | with_reducible exact Junk.refl _ | with_reducible exact Junk.app _ _ _ _ _ | with_reducible apply Junk.alloc | with_reducible apply Junk.junk | with_reducible apply Junk.drew | with_reducible apply Junk.drewN)); done) | ((try simp only [World.junk_junk, Array.append_assoc]); (repeat (first | with_reducible exact Junk.refl _ | with_reducible exact Junk.app _ _ _ _ _ | with_reducible exact Junk.app2 _ _ _ _ _ _ | with_reducible exact Junk.app3 _ _ _ _ _ _ _ | with_reducible exact Junk.app4 _ _ _ _ _ _ _ _ | with_reducible exact Junk.app5 _ _ _ _ _ _ _ _ _ | with_reducible apply Junk.alloc | with_reducible apply Junk.junk | with_reducible apply Junk.drew | with_reducible apply Junk.drewN))))⟩
def v25U : Nat → Int := udOf 1 2 5 6 (fun _ => 9) 1
def v25P : Ip := ⟨0, 0, false, false, 0, 2, 17, 1, 2, 0, fun _ => 0, 9, v25U⟩
theorem v25_err : rwErr v25P 88 = 0 := by decide +kernel
theorem v25_oerr : (rwS v25P 77 88).err = 0 := by decide +kernel
theorem v25_tup : (rwS v25P 77 88).tup = ⟨17, 77, 88, 2, 6⟩ := by
  rw [tup_ok v25_oerr]
  exact tup_ext25 rfl rfl (by decide +kernel) rfl (by decide +kernel)
set_option maxHeartbeats 4000000 in
theorem awake25_any (w : World) : Calls Try.prog 18 #[] w fun e w' => e = .returned (.bool true) ∧ Junk w w' := by
  have h5 : Bts (w.alloc (.cells #[.int .u8 9] 5)) (some ⟨w.heap.size, 0, none⟩) 1 1 (fun _ => 9) :=
    own_bts (own_lit w 5 _ 1 #[.int .u8 9] rfl (Nat.le_refl _) rfl (by decide)) (fun i hi => by omega)
  have H5 := Lib.hid h5
  clear h5
  have HU := Lib.hid (fun w1 (hb : Bts w1 (some ⟨w.heap.size, 0, none⟩) 1 1 (fun _ => 9)) => show Calls Try.prog 30 #[.int .u32 1, .int .u32 2, .agg #[.int .i64 5, .int .i64 6, .bool false, .slice (some ⟨w.heap.size, 0, none⟩) 1 1]] w1 fun e w' => ∃ (ob : Option Addr) (cb : Nat), e = .returned (.tuple #[.slice ob 9 cb, .int .i64 0]) ∧ Junk w1 w' ∧ Bts w' ob 9 cb v25U from
    uput_any 1 2 5 6 _ 1 1 (fun _ => 9) w1 (by omega) (by omega) (by omega) (by omega) (by omega) hb)
  have HS := Lib.hid (fun (ob : Option Addr) (cb : Nat) w1 (hb : Bts w1 ob 9 cb v25U) => show Calls Try.prog 22 #[.agg #[.int .i64 0, .int .i64 0, .bool false, .bool false, .int .i64 0, .int .i64 2, .int .i64 17, .int .u32 1, .int .u32 2, .slice none 0 0, .slice ob 9 cb], .int .u32 77, .int .i64 88] w1 fun e w' => ∃ (oo ob : Option Addr) (oc bc : Nat), e = .returned (.tuple #[.agg #[.int .i64 0, .int .i64 0, .bool false, .bool false, .int .i64 0, .int .i64 2, .int .i64 17, .int .u32 77, .int .u32 2, .slice oo 0 oc, .slice ob 9 bc], .int .i64 0]) ∧ Junk w1 w' ∧ IpAt w' (rwS v25P 77 88) oo oc ob bc from
    (rsrc_any v25P none ob 0 cb 77 88 w1 ⟨bts_none _ _, hb, by decide, by decide⟩ (by decide) (by decide) (by decide)).mono fun e w' hp => hp.ok v25_err)
  have HO := Lib.hid (fun (oo ob : Option Addr) (oc bc : Nat) w1 (hp : IpAt w1 (rwS v25P 77 88) oo oc ob bc) => show Calls Try.prog 20 #[.agg #[.int .i64 0, .int .i64 0, .bool false, .bool false, .int .i64 0, .int .i64 2, .int .i64 17, .int .u32 77, .int .u32 2, .slice oo 0 oc, .slice ob 9 bc]] w1 fun e w' => e = .returned (.tuple #[.agg #[.int .i64 17, .int .u32 77, .int .i64 88, .int .u32 2, .int .i64 6], .int .i64 0]) ∧ Junk w1 w' by
    have := tup_of_any (.int .i64 0) (.int .i64 0) (.bool false) (.int .i64 2) (.slice oo 0 oc) false 0 17 77 2 ob 9 bc (rwS v25P 77 88).body w1 (by decide) (by decide) (by decide) hp.body
    rw [show ofErr false 0 17 77 2 (rwS v25P 77 88).body 9 = 0 from v25_oerr, show ofTup false 0 17 77 2 (rwS v25P 77 88).body 9 = ⟨17, 77, 88, 2, 6⟩ from v25_tup] at this
    exact this)
  have HH := Lib.hid (fun (oo ob : Option Addr) (oc bc : Nat) w1 (hp : IpAt w1 (rwS v25P 77 88) oo oc ob bc) => rhop_2 0 0 0 17 77 2 false false oo ob 0 oc 9 bc _ _ w1 hp.opts hp.body (by decide) (by decide))
  go_enter Try.func18, Try.ntmps18
  go_wp2_with (first
    | (go_at_call 30; (with_reducible refine (HU.out _ (H5.out.on (by (first | ((repeat (first | with_reducible exact Junk.refl _ | with_reducible exact Junk.app _ _ _ _ _ | with_reducible apply Junk.alloc | with_reducible apply Junk.junk | with_reducible apply Junk.drew | with_reducible apply Junk.drewN)); done) | ((try simp only [World.junk_junk, Array.append_assoc]); (repeat (first | with_reducible exact Junk.refl _ | with_reducible exact Junk.app _ _ _ _ _ | with_reducible exact Junk.app2 _ _ _ _ _ _ | with_reducible exact Junk.app3 _ _ _ _ _ _ _ | with_reducible exact Junk.app4 _ _ _ _ _ _ _ _ | with_reducible exact Junk.app5 _ _ _ _ _ _ _ _ _ | with_reducible apply Junk.alloc | with_reducible apply Junk.junk | with_reducible apply Junk.drew | with_reducible apply Junk.drewN))))))).mono ?_); rintro e w' ⟨ob1, cb1, rfl, ⟨os1, d1, rfl⟩, hb1⟩; have Hb1 := Lib.hid hb1; clear hb1)
    | (go_at_call 22; (with_reducible refine (HS.out ob1 cb1 _ (Hb1.out.on (by (first | ((repeat (first | with_reducible exact Junk.refl _ | with_reducible exact Junk.app _ _ _ _ _ | with_reducible apply Junk.alloc | with_reducible apply Junk.junk | with_reducible apply Junk.drew | with_reducible apply Junk.drewN)); done) | ((try simp only [World.junk_junk, Array.append_assoc]); (repeat (first | with_reducible exact Junk.refl _ | with_reducible exact Junk.app _ _ _ _ _ | with_reducible exact Junk.app2 _ _ _ _ _ _ | with_reducible exact Junk.app3 _ _ _ _ _ _ _ | with_reducible exact Junk.app4 _ _ _ _ _ _ _ _ | with_reducible exact Junk.app5 _ _ _ _ _ _ _ _ _ | with_reducible apply Junk.alloc | with_reducible apply Junk.junk | with_reducible apply Junk.drew | with_reducible apply Junk.drewN))))))).mono ?_); rintro e w' ⟨oo2, ob2, oc2, bc2, rfl, ⟨os2, d2, rfl⟩, hp2⟩; have HP2 := Lib.hid hp2; clear hp2)
    | (go_at_call 20; (with_reducible refine (HO.out oo2 ob2 oc2 bc2 _ (HP2.out.on (by (first | ((repeat (first | with_reducible exact Junk.refl _ | with_reducible exact Junk.app _ _ _ _ _ | with_reducible apply Junk.alloc | with_reducible apply Junk.junk | with_reducible apply Junk.drew | with_reducible apply Junk.drewN)); done) | ((try simp only [World.junk_junk, Array.append_assoc]); (repeat (first | with_reducible exact Junk.refl _ | with_reducible exact Junk.app _ _ _ _ _ | with_reducible exact Junk.app2 _ _ _ _ _ _ | with_reducible exact Junk.app3 _ _ _ _ _ _ _ | with_reducible exact Junk.app4 _ _ _ _ _ _ _ _ | with_reducible exact Junk.app5 _ _ _ _ _ _ _ _ _ | with_reducible apply Junk.alloc | with_reducible apply Junk.junk | with_reducible apply Junk.drew | with_reducible apply Junk.drewN))))))).mono ?_); rintro e w' ⟨rfl, ⟨osj, dj, rfl⟩⟩)
    | (go_at_call 42; (with_reducible refine (HH.out oo2 ob2 oc2 bc2 _ (HP2.out.on (by (first | ((repeat (first | with_reducible exact Junk.refl _ | with_reducible exact Junk.app _ _ _ _ _ | with_reducible apply Junk.alloc | with_reducible apply Junk.junk | with_reducible apply Junk.drew | with_reducible apply Junk.drewN)); done) | ((try simp only [World.junk_junk, Array.append_assoc]); (repeat (first | with_reducible exact Junk.refl _ | with_reducible exact Junk.app _ _ _ _ _ | with_reducible exact Junk.app2 _ _ _ _ _ _ | with_reducible exact Junk.app3 _ _ _ _ _ _ _ | with_reducible exact Junk.app4 _ _ _ _ _ _ _ _ | with_reducible exact Junk.app5 _ _ _ _ _ _ _ _ _ | with_reducible apply Junk.alloc | with_reducible apply Junk.junk | with_reducible apply Junk.drew | with_reducible apply Junk.drewN))))))).mono ?_); rintro e w' ⟨oo3, ob3, oc3, bc3, rfl, ⟨os3, d3, rfl⟩⟩))
  go_ret
  exact ⟨ret_bool rfl, by (first | ((repeat (first | with_reducible exact Junk.refl _ | with_reducible exact Junk.app _ _ _ _ _ | with_reducible apply Junk.alloc | with_reducible apply Junk.junk | with_reducible apply Junk.drew | with_reducible apply Junk.drewN)); done) | ((try simp only [World.junk_junk, Array.append_assoc]); (repeat (first | with_reducible exact Junk.refl _ | with_reducible exact Junk.app _ _ _ _ _ | with_reducible exact Junk.app2 _ _ _ _ _ _ | with_reducible exact Junk.app3 _ _ _ _ _ _ _ | with_reducible exact Junk.app4 _ _ _ _ _ _ _ _ | with_reducible exact Junk.app5 _ _ _ _ _ _ _ _ _ | with_reducible apply Junk.alloc | with_reducible apply Junk.junk | with_reducible apply Junk.drew | with_reducible apply Junk.drewN))))⟩
end Go.Proofs.Ytnefphinmjeacaa
set_option linter.unusedVariables false
set_option maxRecDepth 100000
set_option linter.unusedSimpArgs false
namespace Go.Proofs.Ytnefphinmjeacaa
open Go.RowKit
set_option maxHeartbeats 1000000 in
theorem osame_any (f g : Ot) (w : World) (hf : f.At w) (hg : g.At w) : Calls Try.prog 54 #[f.val, g.val] w fun e w' => e = .returned (.bool (odSame f.d g.d)) ∧ Junk w w' := by
  obtain ⟨k, oa, l, c, xs⟩ := f
  obtain ⟨k2, oa2, l2, c2, ys⟩ := g
  have HF := Lib.hid hf
  have HG := Lib.hid hg
  clear hf hg
  unfold Ot.At at HF HG
  dsimp only [Ot.val] at HF HG ⊢
  cases e1 : (k == k2) with
  | false =>
    go_enter Try.func54, Try.ntmps54
    go_wp2
    go_ret
    exact ⟨ret_bool (by unfold odSame; show false = ((k == k2) && _); rw [e1]; rfl), by ((try simp only [World.junk_junk, Array.append_assoc]); (repeat (first | with_reducible exact Junk.refl _ | with_reducible exact Junk.app _ _ _ _ _ | with_reducible exact Junk.app2 _ _ _ _ _ _ | with_reducible exact Junk.app3 _ _ _ _ _ _ _ | with_reducible exact Junk.app4 _ _ _ _ _ _ _ _ | with_reducible exact Junk.app5 _ _ _ _ _ _ _ _ _ | with_reducible apply Junk.alloc | with_reducible apply Junk.junk | with_reducible apply Junk.drew | with_reducible apply Junk.drewN)))⟩
  | true =>
    have HE := Lib.hid (show odSame (Ot.d ⟨k, oa, l, c, xs⟩) (Ot.d ⟨k2, oa2, l2, c2, ys⟩) = sameN xs ys l l2 by unfold odSame; show ((k == k2) && sameN xs ys l l2) = _; rw [e1]; rfl)
    go_enter Try.func54, Try.ntmps54
    go_wp2_with (first | (go_at_call 48; refine (equal_any _ _ _ _ _ _ xs ys _ (HF.out.at_.on (by (repeat (first | with_reducible exact Junk.refl _ | with_reducible exact Junk.app _ _ _ _ _ | with_reducible apply Junk.alloc | with_reducible apply Junk.junk | with_reducible apply Junk.drew | with_reducible apply Junk.drewN)))) (HG.out.at_.on (by (repeat (first | with_reducible exact Junk.refl _ | with_reducible exact Junk.app _ _ _ _ _ | with_reducible apply Junk.alloc | with_reducible apply Junk.junk | with_reducible apply Junk.drew | with_reducible apply Junk.drewN)))) HF.out.byte HG.out.byte).mono ?_; rintro e w' ⟨rfl, rfl⟩))
    go_ret
    exact ⟨ret_bool (by rw [HE.out]), by ((try simp only [World.junk_junk, Array.append_assoc]); (repeat (first | with_reducible exact Junk.refl _ | with_reducible exact Junk.app _ _ _ _ _ | with_reducible exact Junk.app2 _ _ _ _ _ _ | with_reducible exact Junk.app3 _ _ _ _ _ _ _ | with_reducible exact Junk.app4 _ _ _ _ _ _ _ _ | with_reducible exact Junk.app5 _ _ _ _ _ _ _ _ _ | with_reducible apply Junk.alloc | with_reducible apply Junk.junk | with_reducible apply Junk.drew | with_reducible apply Junk.drewN)))⟩
set_option maxHeartbeats 2000000 in
theorem eqF_any (oo oo2 : Option Addr) (n m co co2 : Nat) (F G : List Ot) (w : World) (hn : n ≤ 1000000) (hm : m ≤ 1000000) (hF : F.length = n) (hG : G.length = m) (hS : OsAt w oo F) (hT : OsAt w oo2 G) :
    Calls Try.prog 53 #[.slice oo n co, .slice oo2 m co2, .func (.func 54) #[] #[]] w fun e w' => e = .returned (.bool ((n == m) && osSame (F.map Ot.d) (G.map Ot.d))) ∧ Junk w w' := by
  have HS := Lib.hid hS
  have HT := Lib.hid hT
  have HFn := Lib.hid hF
  have HGm := Lib.hid hG
  clear hS hT hF hG
  by_cases hnm : n = m
  case neg =>
    have hnm' : ((n : Int) != (m : Int)) = true := by simp; omega
    have hnm2 : ¬ (n : Int) = (m : Int) := by omega
    have HE := Lib.hid (show ((n == m) && osSame (F.map Ot.d) (G.map Ot.d)) = false by rw [show (n == m) = false by simpa using hnm]; rfl)
    rw [HE.out]
    clear hnm
    go_enter Try.func53, Try.ntmps53
    go_wp2
    go_ret
    exact ⟨ret_bool rfl, by ((try simp only [World.junk_junk, Array.append_assoc]); (repeat (first | with_reducible exact Junk.refl _ | with_reducible exact Junk.app _ _ _ _ _ | with_reducible exact Junk.app2 _ _ _ _ _ _ | with_reducible exact Junk.app3 _ _ _ _ _ _ _ | with_reducible exact Junk.app4 _ _ _ _ _ _ _ _ | with_reducible exact Junk.app5 _ _ _ _ _ _ _ _ _ | with_reducible apply Junk.alloc | with_reducible apply Junk.junk | with_reducible apply Junk.drew | with_reducible apply Junk.drewN)))⟩
  subst hnm
  obtain ⟨T, hT⟩ : ∃ T, osSame (F.map Ot.d) (G.map Ot.d) = T := ⟨_, rfl⟩
  have HTT := Lib.hid hT
  rw [show (n == n) = true by simp, hT, Bool.true_and]
  clear hT
  go_enter Try.func53, Try.ntmps53
  go_wp2
  go_loopw [17] (fun v wr => ∃ (j : Nat), v = .int .i64 (j : Int) ∧ Junk w wr ∧ j ≤ n ∧ Hid (∀ q, q < j → ∀ f g, F[q]? = some f → G[q]? = some g → odSame f.d g.d = true)) (fun v _ => n + 1 - (intOf v).toNat)
  case atStart => exact ⟨0, rfl, by ((try simp only [World.junk_junk, Array.append_assoc]); (repeat (first | with_reducible exact Junk.refl _ | with_reducible exact Junk.app _ _ _ _ _ | with_reducible exact Junk.app2 _ _ _ _ _ _ | with_reducible exact Junk.app3 _ _ _ _ _ _ _ | with_reducible exact Junk.app4 _ _ _ _ _ _ _ _ | with_reducible exact Junk.app5 _ _ _ _ _ _ _ _ _ | with_reducible apply Junk.alloc | with_reducible apply Junk.junk | with_reducible apply Junk.drew | with_reducible apply Junk.drewN))), by omega, Lib.hid (fun q hq => by omega)⟩
  case round =>
    obtain ⟨j, rfl, ⟨os, d, rfl⟩, hj, hM⟩ := hrel
    by_cases hjn : j < n
    case neg =>
      have hj2 : ¬ (j : Int) < (n : Int) := by omega
      obtain rfl : j = n := by omega
      have HE := Lib.hid (show T = true by rw [← HTT.out]; exact osSame_ok (fun i hi f g h1 h2 => hM.out i (by rw [HFn.out] at hi; exact hi) f g h1 h2))
      go_wp2
      go_ret
      exact ⟨by rw [HE.out] <;> rfl, by ((try simp only [World.junk_junk, Array.append_assoc]); (repeat (first | with_reducible exact Junk.refl _ | with_reducible exact Junk.app _ _ _ _ _ | with_reducible exact Junk.app2 _ _ _ _ _ _ | with_reducible exact Junk.app3 _ _ _ _ _ _ _ | with_reducible exact Junk.app4 _ _ _ _ _ _ _ _ | with_reducible exact Junk.app5 _ _ _ _ _ _ _ _ _ | with_reducible apply Junk.alloc | with_reducible apply Junk.junk | with_reducible apply Junk.drew | with_reducible apply Junk.drewN)))⟩
    have hj2 : (j : Int) < (n : Int) := by omega
    obtain ⟨f, hf⟩ : ∃ f, F[j]? = some f := ⟨_, List.getElem?_eq_getElem (by rw [HFn.out]; omega)⟩
    obtain ⟨g, hg⟩ : ∃ g, G[j]? = some g := ⟨_, List.getElem?_eq_getElem (by rw [HGm.out]; omega)⟩
    obtain ⟨bz, offz, rfl, hbz, z0, z1, zb⟩ := HS.out j f hf
    obtain ⟨by_, offy, rfl, hby, y0, y1, yb⟩ := HT.out j g hg
    have HZ := Lib.hid zb
    have HY := Lib.hid yb
    have Hf := Lib.hid hf
    have Hg := Lib.hid hg
    clear hf hg zb yb
    cases e1 : odSame f.d g.d with
    | false =>
      have HE := Lib.hid (show T = false by rw [← HTT.out]; exact osSame_bad (od_at Hf.out) (od_at Hg.out) e1)
      go_wp2_with (first | (go_at_call 54; refine (osame_any f g _ (Bts.on HZ.out (by ((try simp only [World.junk_junk, Array.append_assoc]); (repeat (first | with_reducible exact Junk.refl _ | with_reducible exact Junk.app _ _ _ _ _ | with_reducible exact Junk.app2 _ _ _ _ _ _ | with_reducible exact Junk.app3 _ _ _ _ _ _ _ | with_reducible exact Junk.app4 _ _ _ _ _ _ _ _ | with_reducible exact Junk.app5 _ _ _ _ _ _ _ _ _ | with_reducible apply Junk.alloc | with_reducible apply Junk.junk | with_reducible apply Junk.drew | with_reducible apply Junk.drewN))))) (Bts.on HY.out (by ((try simp only [World.junk_junk, Array.append_assoc]); (repeat (first | with_reducible exact Junk.refl _ | with_reducible exact Junk.app _ _ _ _ _ | with_reducible exact Junk.app2 _ _ _ _ _ _ | with_reducible exact Junk.app3 _ _ _ _ _ _ _ | with_reducible exact Junk.app4 _ _ _ _ _ _ _ _ | with_reducible exact Junk.app5 _ _ _ _ _ _ _ _ _ | with_reducible apply Junk.alloc | with_reducible apply Junk.junk | with_reducible apply Junk.drew | with_reducible apply Junk.drewN)))))).mono ?_; rintro e w' ⟨rfl, ⟨osj, dj, rfl⟩⟩))
      go_ret
      exact ⟨by rw [HE.out] <;> rfl, by ((try simp only [World.junk_junk, Array.append_assoc]); (repeat (first | with_reducible exact Junk.refl _ | with_reducible exact Junk.app _ _ _ _ _ | with_reducible exact Junk.app2 _ _ _ _ _ _ | with_reducible exact Junk.app3 _ _ _ _ _ _ _ | with_reducible exact Junk.app4 _ _ _ _ _ _ _ _ | with_reducible exact Junk.app5 _ _ _ _ _ _ _ _ _ | with_reducible apply Junk.alloc | with_reducible apply Junk.junk | with_reducible apply Junk.drew | with_reducible apply Junk.drewN)))⟩
    | true =>
      have HM2 := Lib.hid (show ∀ q, q < j + 1 → ∀ f g, F[q]? = some f → G[q]? = some g → odSame f.d g.d = true from fun q hq f' g' h1 h2 => by
        by_cases h : q = j
        · subst h
          rw [Hf.out] at h1; rw [Hg.out] at h2
          cases h1; cases h2
          exact e1
        · exact hM.out q (by omega) f' g' h1 h2)
      go_wp2_with (first | (go_at_call 54; refine (osame_any f g _ (Bts.on HZ.out (by ((try simp only [World.junk_junk, Array.append_assoc]); (repeat (first | with_reducible exact Junk.refl _ | with_reducible exact Junk.app _ _ _ _ _ | with_reducible exact Junk.app2 _ _ _ _ _ _ | with_reducible exact Junk.app3 _ _ _ _ _ _ _ | with_reducible exact Junk.app4 _ _ _ _ _ _ _ _ | with_reducible exact Junk.app5 _ _ _ _ _ _ _ _ _ | with_reducible apply Junk.alloc | with_reducible apply Junk.junk | with_reducible apply Junk.drew | with_reducible apply Junk.drewN))))) (Bts.on HY.out (by ((try simp only [World.junk_junk, Array.append_assoc]); (repeat (first | with_reducible exact Junk.refl _ | with_reducible exact Junk.app _ _ _ _ _ | with_reducible exact Junk.app2 _ _ _ _ _ _ | with_reducible exact Junk.app3 _ _ _ _ _ _ _ | with_reducible exact Junk.app4 _ _ _ _ _ _ _ _ | with_reducible exact Junk.app5 _ _ _ _ _ _ _ _ _ | with_reducible apply Junk.alloc | with_reducible apply Junk.junk | with_reducible apply Junk.drew | with_reducible apply Junk.drewN)))))).mono ?_; rintro e w' ⟨rfl, ⟨osj, dj, rfl⟩⟩))
      exact ⟨⟨j + 1, by go_num, by ((try simp only [World.junk_junk, Array.append_assoc]); (repeat (first | with_reducible exact Junk.refl _ | with_reducible exact Junk.app _ _ _ _ _ | with_reducible exact Junk.app2 _ _ _ _ _ _ | with_reducible exact Junk.app3 _ _ _ _ _ _ _ | with_reducible exact Junk.app4 _ _ _ _ _ _ _ _ | with_reducible exact Junk.app5 _ _ _ _ _ _ _ _ _ | with_reducible apply Junk.alloc | with_reducible apply Junk.junk | with_reducible apply Junk.drew | with_reducible apply Junk.drewN))), by omega, HM2⟩, by simp [intOf]; omega⟩
set_option maxHeartbeats 4000000 in
theorem tsame_any (t u : Tc) (F G : List Ot) (n m : Nat) (oo ob oo2 ob2 : Option Addr) (co cb co2 cb2 : Nat) (w : World) (hF : F.map Ot.d = t.os) (hG : G.map Ot.d = u.os) (hFn : F.length = n) (hGm : G.length = m) (hn : n ≤ 1000000) (hm : m ≤ 1000000)
    (hP : TcAt w F oo co t.bl t.body ob cb) (hQ : TcAt w G oo2 co2 u.bl u.body ob2 cb2) :
    Calls Try.prog 25 #[.agg #[.int .i64 t.sport, .int .i64 t.dport, .int .u32 t.seq, .int .u32 t.ack, .int .i64 t.flags, .int .i64 t.win, .int .i64 t.urg, .slice oo n co, .slice ob t.bl cb], .agg #[.int .i64 u.sport, .int .i64 u.dport, .int .u32 u.seq, .int .u32 u.ack, .int .i64 u.flags, .int .i64 u.win, .int .i64 u.urg, .slice oo2 m co2, .slice ob2 u.bl cb2]] w fun e w' => e = .returned (.bool (tcSame t u)) ∧ Junk w w' := by
  have HP := Lib.hid hP
  have HQ := Lib.hid hQ
  have HF := Lib.hid hF
  have HG := Lib.hid hG
  have HFn := Lib.hid hFn
  have HGm := Lib.hid hGm
  have hnl : n = t.os.length := by rw [← hF, ← hFn]; simp
  have hml : m = u.os.length := by rw [← hG, ← hGm]; simp
  obtain ⟨T, hT⟩ : ∃ T, T = tcSame t u := ⟨_, rfl⟩
  have HT := Lib.hid hT
  have HL := Lib.hid (show (t.os.length == u.os.length) = (n == m) by rw [← hnl, ← hml])
  rw [← hT]
  clear hT hP hQ hF hG hFn hGm hnl hml
  cases a1 : t.sport == u.sport with
  | false =>
    have HE := Lib.hid (show T = false by rw [HT.out]; simp only [tcSame, headSameT, *, Bool.false_and, Bool.and_false, Bool.true_and])
    go_enter Try.func25, Try.ntmps25
    go_wp2
    go_ret
    exact ⟨by rw [HE.out] <;> rfl, by ((try simp only [World.junk_junk, Array.append_assoc]); (repeat (first | with_reducible exact Junk.refl _ | with_reducible exact Junk.app _ _ _ _ _ | with_reducible exact Junk.app2 _ _ _ _ _ _ | with_reducible exact Junk.app3 _ _ _ _ _ _ _ | with_reducible exact Junk.app4 _ _ _ _ _ _ _ _ | with_reducible exact Junk.app5 _ _ _ _ _ _ _ _ _ | with_reducible apply Junk.alloc | with_reducible apply Junk.junk | with_reducible apply Junk.drew | with_reducible apply Junk.drewN)))⟩
  | true =>
    cases a2 : t.dport == u.dport with
    | false =>
      have HE := Lib.hid (show T = false by rw [HT.out]; simp only [tcSame, headSameT, *, Bool.false_and, Bool.and_false, Bool.true_and])
      go_enter Try.func25, Try.ntmps25
      go_wp2
      go_ret
      exact ⟨by rw [HE.out] <;> rfl, by ((try simp only [World.junk_junk, Array.append_assoc]); (repeat (first | with_reducible exact Junk.refl _ | with_reducible exact Junk.app _ _ _ _ _ | with_reducible exact Junk.app2 _ _ _ _ _ _ | with_reducible exact Junk.app3 _ _ _ _ _ _ _ | with_reducible exact Junk.app4 _ _ _ _ _ _ _ _ | with_reducible exact Junk.app5 _ _ _ _ _ _ _ _ _ | with_reducible apply Junk.alloc | with_reducible apply Junk.junk | with_reducible apply Junk.drew | with_reducible apply Junk.drewN)))⟩
    | true =>
      cases a3 : t.seq == u.seq with
      | false =>
        have HE := Lib.hid (show T = false by rw [HT.out]; simp only [tcSame, headSameT, *, Bool.false_and, Bool.and_false, Bool.true_and])
        go_enter Try.func25, Try.ntmps25
        go_wp2
        go_ret
        exact ⟨by rw [HE.out] <;> rfl, by ((try simp only [World.junk_junk, Array.append_assoc]); (repeat (first | with_reducible exact Junk.refl _ | with_reducible exact Junk.app _ _ _ _ _ | with_reducible exact Junk.app2 _ _ _ _ _ _ | with_reducible exact Junk.app3 _ _ _ _ _ _ _ | with_reducible exact Junk.app4 _ _ _ _ _ _ _ _ | with_reducible exact Junk.app5 _ _ _ _ _ _ _ _ _ | with_reducible apply Junk.alloc | with_reducible apply Junk.junk | with_reducible apply Junk.drew | with_reducible apply Junk.drewN)))⟩
      | true =>
        cases a4 : t.ack == u.ack with
        | false =>
          have HE := Lib.hid (show T = false by rw [HT.out]; simp only [tcSame, headSameT, *, Bool.false_and, Bool.and_false, Bool.true_and])
          go_enter Try.func25, Try.ntmps25
          go_wp2
          go_ret
          exact ⟨by rw [HE.out] <;> rfl, by ((try simp only [World.junk_junk, Array.append_assoc]); (repeat (first | with_reducible exact Junk.refl _ | with_reducible exact Junk.app _ _ _ _ _ | with_reducible exact Junk.app2 _ _ _ _ _ _ | with_reducible exact Junk.app3 _ _ _ _ _ _ _ | with_reducible exact Junk.app4 _ _ _ _ _ _ _ _ | with_reducible exact Junk.app5 _ _ _ _ _ _ _ _ _ | with_reducible apply Junk.alloc | with_reducible apply Junk.junk | with_reducible apply Junk.drew | with_reducible apply Junk.drewN)))⟩
        | true =>
          cases a5 : t.flags == u.flags with
          | false =>
            have HE := Lib.hid (show T = false by rw [HT.out]; simp only [tcSame, headSameT, *, Bool.false_and, Bool.and_false, Bool.true_and])
            go_enter Try.func25, Try.ntmps25
            go_wp2
            go_ret
            exact ⟨by rw [HE.out] <;> rfl, by ((try simp only [World.junk_junk, Array.append_assoc]); (repeat (first | with_reducible exact Junk.refl _ | with_reducible exact Junk.app _ _ _ _ _ | with_reducible exact Junk.app2 _ _ _ _ _ _ | with_reducible exact Junk.app3 _ _ _ _ _ _ _ | with_reducible exact Junk.app4 _ _ _ _ _ _ _ _ | with_reducible exact Junk.app5 _ _ _ _ _ _ _ _ _ | with_reducible apply Junk.alloc | with_reducible apply Junk.junk | with_reducible apply Junk.drew | with_reducible apply Junk.drewN)))⟩
          | true =>
            cases a6 : t.win == u.win with
            | false =>
              have HE := Lib.hid (show T = false by rw [HT.out]; simp only [tcSame, headSameT, *, Bool.false_and, Bool.and_false, Bool.true_and])
              go_enter Try.func25, Try.ntmps25
              go_wp2
              go_ret
              exact ⟨by rw [HE.out] <;> rfl, by ((try simp only [World.junk_junk, Array.append_assoc]); (repeat (first | with_reducible exact Junk.refl _ | with_reducible exact Junk.app _ _ _ _ _ | with_reducible exact Junk.app2 _ _ _ _ _ _ | with_reducible exact Junk.app3 _ _ _ _ _ _ _ | with_reducible exact Junk.app4 _ _ _ _ _ _ _ _ | with_reducible exact Junk.app5 _ _ _ _ _ _ _ _ _ | with_reducible apply Junk.alloc | with_reducible apply Junk.junk | with_reducible apply Junk.drew | with_reducible apply Junk.drewN)))⟩
            | true =>
              cases a7 : t.urg == u.urg with
              | false =>
                have HE := Lib.hid (show T = false by rw [HT.out]; simp only [tcSame, headSameT, *, Bool.false_and, Bool.and_false, Bool.true_and])
                go_enter Try.func25, Try.ntmps25
                go_wp2
                go_ret
                exact ⟨by rw [HE.out] <;> rfl, by ((try simp only [World.junk_junk, Array.append_assoc]); (repeat (first | with_reducible exact Junk.refl _ | with_reducible exact Junk.app _ _ _ _ _ | with_reducible exact Junk.app2 _ _ _ _ _ _ | with_reducible exact Junk.app3 _ _ _ _ _ _ _ | with_reducible exact Junk.app4 _ _ _ _ _ _ _ _ | with_reducible exact Junk.app5 _ _ _ _ _ _ _ _ _ | with_reducible apply Junk.alloc | with_reducible apply Junk.junk | with_reducible apply Junk.drew | with_reducible apply Junk.drewN)))⟩
              | true =>
                cases b1 : sameN t.body u.body t.bl u.bl with
                | false =>
                  have HE := Lib.hid (show T = false by rw [HT.out]; simp only [tcSame, b1, Bool.false_and, Bool.and_false])
                  go_enter Try.func25, Try.ntmps25
                  go_wp2_with (first | (go_at_call 48; refine (equal_any _ _ _ _ _ _ t.body u.body _ (HP.out.body.at_.on (by (repeat (first | with_reducible exact Junk.refl _ | with_reducible exact Junk.app _ _ _ _ _ | with_reducible apply Junk.alloc | with_reducible apply Junk.junk | with_reducible apply Junk.drew | with_reducible apply Junk.drewN)))) (HQ.out.body.at_.on (by (repeat (first | with_reducible exact Junk.refl _ | with_reducible exact Junk.app _ _ _ _ _ | with_reducible apply Junk.alloc | with_reducible apply Junk.junk | with_reducible apply Junk.drew | with_reducible apply Junk.drewN)))) HP.out.body.byte HQ.out.body.byte).mono ?_; rintro e w' ⟨rfl, rfl⟩))
                  go_ret
                  exact ⟨by rw [HE.out] <;> rfl, by ((try simp only [World.junk_junk, Array.append_assoc]); (repeat (first | with_reducible exact Junk.refl _ | with_reducible exact Junk.app _ _ _ _ _ | with_reducible exact Junk.app2 _ _ _ _ _ _ | with_reducible exact Junk.app3 _ _ _ _ _ _ _ | with_reducible exact Junk.app4 _ _ _ _ _ _ _ _ | with_reducible exact Junk.app5 _ _ _ _ _ _ _ _ _ | with_reducible apply Junk.alloc | with_reducible apply Junk.junk | with_reducible apply Junk.drew | with_reducible apply Junk.drewN)))⟩
                | true =>
                  have HE := Lib.hid (show T = ((n == m) && osSame (F.map Ot.d) (G.map Ot.d)) by rw [HT.out, HF.out, HG.out]; have := HL.out; simp only [tcSame, headSameT, *, Bool.true_and, Bool.and_true])
                  go_enter Try.func25, Try.ntmps25
                  go_wp2_with (first | (go_at_call 48; refine (equal_any _ _ _ _ _ _ t.body u.body _ (HP.out.body.at_.on (by (repeat (first | with_reducible exact Junk.refl _ | with_reducible exact Junk.app _ _ _ _ _ | with_reducible apply Junk.alloc | with_reducible apply Junk.junk | with_reducible apply Junk.drew | with_reducible apply Junk.drewN)))) (HQ.out.body.at_.on (by (repeat (first | with_reducible exact Junk.refl _ | with_reducible exact Junk.app _ _ _ _ _ | with_reducible apply Junk.alloc | with_reducible apply Junk.junk | with_reducible apply Junk.drew | with_reducible apply Junk.drewN)))) HP.out.body.byte HQ.out.body.byte).mono ?_; rintro e w' ⟨rfl, rfl⟩) | (go_at_call 53; refine (eqF_any oo oo2 n m co co2 F G _ hn hm HFn.out HGm.out (HP.out.os.on (by ((try simp only [World.junk_junk, Array.append_assoc]); (repeat (first | with_reducible exact Junk.refl _ | with_reducible exact Junk.app _ _ _ _ _ | with_reducible exact Junk.app2 _ _ _ _ _ _ | with_reducible exact Junk.app3 _ _ _ _ _ _ _ | with_reducible exact Junk.app4 _ _ _ _ _ _ _ _ | with_reducible exact Junk.app5 _ _ _ _ _ _ _ _ _ | with_reducible apply Junk.alloc | with_reducible apply Junk.junk | with_reducible apply Junk.drew | with_reducible apply Junk.drewN))))) (HQ.out.os.on (by ((try simp only [World.junk_junk, Array.append_assoc]); (repeat (first | with_reducible exact Junk.refl _ | with_reducible exact Junk.app _ _ _ _ _ | with_reducible exact Junk.app2 _ _ _ _ _ _ | with_reducible exact Junk.app3 _ _ _ _ _ _ _ | with_reducible exact Junk.app4 _ _ _ _ _ _ _ _ | with_reducible exact Junk.app5 _ _ _ _ _ _ _ _ _ | with_reducible apply Junk.alloc | with_reducible apply Junk.junk | with_reducible apply Junk.drew | with_reducible apply Junk.drewN)))))).mono ?_; rintro e w' ⟨rfl, ⟨osj, dj, rfl⟩⟩))
                  go_ret
                  exact ⟨by rw [HE.out] <;> rfl, by ((try simp only [World.junk_junk, Array.append_assoc]); (repeat (first | with_reducible exact Junk.refl _ | with_reducible exact Junk.app _ _ _ _ _ | with_reducible exact Junk.app2 _ _ _ _ _ _ | with_reducible exact Junk.app3 _ _ _ _ _ _ _ | with_reducible exact Junk.app4 _ _ _ _ _ _ _ _ | with_reducible exact Junk.app5 _ _ _ _ _ _ _ _ _ | with_reducible apply Junk.alloc | with_reducible apply Junk.junk | with_reducible apply Junk.drew | with_reducible apply Junk.drewN)))⟩
end Go.Proofs.Ytnefphinmjeacaa
set_option linter.unusedVariables false
set_option maxRecDepth 100000
set_option linter.unusedSimpArgs false
namespace Go.Proofs.Ytnefphinmjeacaa
open Go.RowKit
theorem tupq_guard : Try.prog.eqGuardType Try.prog.depth 28 = false := by kernel_rfl
theorem tupq_equalIn (x y : Tup) (w : World) : (Op.equalIn 10000 28 (.agg #[.int .i64 x.proto, .int .u32 x.src, .int .i64 x.sport, .int .u32 x.dst, .int .i64 x.dport]) (.agg #[.int .i64 y.proto, .int .u32 y.src, .int .i64 y.sport, .int .u32 y.dst, .int .i64 y.dport])).run Try.prog w = .ok (decide (x = y)) w := by
  have u3 := Try.underlying3
  have a3 := Try.isAgg3
  have z3 := Try.sizeOf3
  have u4 := Try.underlying22
  have a4 := Try.isAgg22
  have z4 := Try.sizeOf22
  have hS : Try.prog.underlying 28 = some (.struct (Try.prog.fieldsOf 28)) := by kernel_rfl
  have hp : Try.prog.stoodInHeld 28 = false := by kernel_rfl
  rw [show (10000 : Nat) = 9999 + 1 from rfl, run_equalIn_agg w 9999 28 _ _ hS hp]
  simp only [Program.fieldsOf, Try.underlying28]
  obtain ⟨xp, xi, xn, xo, xt⟩ := x
  obtain ⟨yp, yi, yn, yo, yt⟩ := y
  go_simp
  by_cases h1 : xp = yp <;> by_cases h2 : xi = yi <;> by_cases h3 : xn = yn <;> by_cases h4 : xo = yo <;> by_cases h5 : xt = yt <;> simp [h1, h2, h3, h4, h5]
theorem tupq_eql (x y : Tup) (w : World) : (binOp .eql 28 (.agg #[.int .i64 x.proto, .int .u32 x.src, .int .i64 x.sport, .int .u32 x.dst, .int .i64 x.dport]) (.agg #[.int .i64 y.proto, .int .u32 y.src, .int .i64 y.sport, .int .u32 y.dst, .int .i64 y.dport])).run Try.prog w = .ok (.bool (decide (x = y))) w := by
  rw [run_eql_struct, tupq_equalIn]; rfl
theorem tupq_neq (x y : Tup) (w : World) : (binOp .neq 28 (.agg #[.int .i64 x.proto, .int .u32 x.src, .int .i64 x.sport, .int .u32 x.dst, .int .i64 x.dport]) (.agg #[.int .i64 y.proto, .int .u32 y.src, .int .i64 y.sport, .int .u32 y.dst, .int .i64 y.dport])).run Try.prog w = .ok (.bool (!decide (x = y))) w := by
  rw [run_neq_struct, tupq_equalIn]; rfl
end Go.Proofs.Ytnefphinmjeacaa
set_option linter.unusedVariables false
set_option maxRecDepth 100000
set_option linter.unusedSimpArgs false
namespace Go.Proofs.Ytnefphinmjeacaa
open Go.RowKit
/-- Options in memory stay when two cells of the call's own block become others. -/
theorem os_over_nb {V : World} {cur cur' : Array Value} {t : TypeId} {os : Array Obj} {d : Nat} {oo : Option Addr} {F : List Ot} (h : OsAt ((V.alloc (.cells cur t)).junk os d) oo F) (hn : ∀ (i : Nat) (v : Int), cur[i]? ≠ some (.int .u8 v))
    (hk : ∀ (i : Nat) (k : Int) (o : Option Addr) (l c : Nat), cur[i]? = some (.int .i64 k) → cur[i + 1]? = some (.slice o l c) → cur'[i]? = some (.int .i64 k) ∧ cur'[i + 1]? = some (.slice o l c)) : OsAt ((V.alloc (.cells cur' t)).junk os d) oo F := by
  intro i f hf
  obtain ⟨b, off, he, hlt, c0, c1, hb⟩ := h i f hf
  by_cases hv : b = V.heap.size
  · subst hv
    rw [World.cell?_junk _ _ _ _ _ (by simp), World.cell?_alloc_new] at c0 c1
    obtain ⟨q0, q1⟩ := hk _ _ _ _ _ c0 c1
    refine ⟨V.heap.size, off, he, by simpa using hlt, ?_, ?_, bts_over25 hb hn⟩
    · rw [World.cell?_junk _ _ _ _ _ (by simp), World.cell?_alloc_new]; exact q0
    · rw [World.cell?_junk _ _ _ _ _ (by simp), World.cell?_alloc_new]; exact q1
  · have hblk : ∀ j, ((V.alloc (.cells cur' t)).junk os d).cell? ⟨b, j, none⟩ = ((V.alloc (.cells cur t)).junk os d).cell? ⟨b, j, none⟩ := fun j => by
      apply World.cell?_of_block
      simp only [World.junk, World.alloc]
      rcases Nat.lt_or_gt_of_ne hv with h1 | h1
      · rw [Array.getElem?_append_left (by simp; omega), Array.getElem?_append_left (by simp; omega), Array.getElem?_push, Array.getElem?_push, if_neg hv, if_neg hv]
      · rw [Array.getElem?_append_right (by simp; omega), Array.getElem?_append_right (by simp; omega)]
        simp
    exact ⟨b, off, he, by simpa using hlt, (hblk _).trans c0, (hblk _).trans c1, bts_over25 hb hn⟩
theorem tc_nb (a0 a1 a4 a5 a6 b2 b3 : Int) (o1 o2 : Option Addr) (l1 c1 l2 c2 : Nat) : ∀ (i : Nat) (v : Int), (#[.int .i64 a0, .int .i64 a1, .int .u32 b2, .int .u32 b3, .int .i64 a4, .int .i64 a5, .int .i64 a6, .slice o1 l1 c1, .slice o2 l2 c2] : Array Value)[i]? ≠ some (.int .u8 v) := by
  intro i v h
  rcases i with _ | _ | _ | _ | _ | _ | _ | _ | _ | i <;> simp at h
theorem tc_keep (a0 a1 z0 z1 a4 a5 a6 b2 b3 : Int) (o1 o2 : Option Addr) (l1 c1 l2 c2 : Nat) : ∀ (i : Nat) (k : Int) (o : Option Addr) (l c : Nat), (#[.int .i64 a0, .int .i64 a1, .int .u32 b2, .int .u32 b3, .int .i64 a4, .int .i64 a5, .int .i64 a6, .slice o1 l1 c1, .slice o2 l2 c2] : Array Value)[i]? = some (.int .i64 k) →
    (#[.int .i64 a0, .int .i64 a1, .int .u32 b2, .int .u32 b3, .int .i64 a4, .int .i64 a5, .int .i64 a6, .slice o1 l1 c1, .slice o2 l2 c2] : Array Value)[i + 1]? = some (.slice o l c) →
    (#[.int .i64 z0, .int .i64 z1, .int .u32 b2, .int .u32 b3, .int .i64 a4, .int .i64 a5, .int .i64 a6, .slice o1 l1 c1, .slice o2 l2 c2] : Array Value)[i]? = some (.int .i64 k) ∧ (#[.int .i64 z0, .int .i64 z1, .int .u32 b2, .int .u32 b3, .int .i64 a4, .int .i64 a5, .int .i64 a6, .slice o1 l1 c1, .slice o2 l2 c2] : Array Value)[i + 1]? = some (.slice o l c) := by
  intro i k o l c h1 h2
  rcases i with _ | _ | _ | _ | _ | _ | _ | _ | _ | i <;> simp_all
theorem tcAt_over_nb {V : World} {cur cur' : Array Value} {t : TypeId} {os : Array Obj} {d : Nat} {F : List Ot} {oo ob : Option Addr} {co bl cb : Nat} {body : Nat → Int} (h : TcAt ((V.alloc (.cells cur t)).junk os d) F oo co bl body ob cb) (hn : ∀ (i : Nat) (v : Int), cur[i]? ≠ some (.int .u8 v))
    (hk : ∀ (i : Nat) (k : Int) (o : Option Addr) (l c : Nat), cur[i]? = some (.int .i64 k) → cur[i + 1]? = some (.slice o l c) → cur'[i]? = some (.int .i64 k) ∧ cur'[i + 1]? = some (.slice o l c)) : TcAt ((V.alloc (.cells cur' t)).junk os d) F oo co bl body ob cb :=
  ⟨os_over_nb h.os hn hk, h.nil, h.cap, bts_over25 h.body hn⟩
theorem ud_nb (a0 a1 : Int) (n : Bool) (o1 : Option Addr) (l1 c1 : Nat) : ∀ (i : Nat) (v : Int), (#[.int .i64 a0, .int .i64 a1, .bool n, .slice o1 l1 c1] : Array Value)[i]? ≠ some (.int .u8 v) := by
  intro i v h
  rcases i with _ | _ | _ | _ | i <;> simp at h
theorem of_tcp {m : Bool} {off pr src dst : Int} {xs : Nat → Int} {l : Nat} (h : ofErr m off pr src dst xs l = 0) (h6 : pr = 6) : tcpErr src dst xs l = 0 := by
  unfold ofErr prErr at h
  split at h
  · cases h
  · first | exact h | (rw [if_pos h6] at h; exact h)
theorem of_udp {m : Bool} {off pr src dst : Int} {xs : Nat → Int} {l : Nat} (h : ofErr m off pr src dst xs l = 0) (h17 : pr = 17) : udpErr src dst xs l = 0 := by
  subst h17
  unfold ofErr prErr at h
  split at h
  · cases h
  · first | exact h | (rw [if_neg (by decide), if_pos rfl] at h; exact h)
/-- A turned segment is read as the same but for the ports. -/
theorem turned_tc {p q : Ip} {t : Tup} (h : Rw2 p q t) (h6 : p.proto = 6) (h0 : tcpErr p.src p.dst p.body p.bl = 0) : tcpTc q.body p.bl = { tcpTc p.body p.bl with sport := t.sport, dport := t.dport } := by
  have hs := h.src
  have hd := h.dst
  have hk : rwSum p.proto = 16 := by rw [h6]; rfl
  have e0 : rwAt p.proto 0 = 0 := by rw [h6]; rfl
  have e2 : rwAt p.proto 2 = 2 := by rw [h6]; rfl
  rw [e0] at hs
  rw [e2] at hd
  have hm : ∀ i, 4 ≤ i → i ≠ 16 → i ≠ 17 → q.body i = p.body i := fun i h1 h2 h3 => h.same i (by omega) (by omega) (by omega) (by omega) (fun _ => by omega)
  have eS : tcpSize q.body = tcpSize p.body := by unfold tcpSize; rw [hm 12 (by omega) (by omega) (by omega)]
  have eO : tcpOpts q.body = tcpOpts p.body := by
    unfold tcpOpts
    rw [eS, show (fun i => q.body (20 + i)) = fun i => p.body (20 + i) from funext fun i => hm _ (by omega) (by omega) (by omega)]
  have hsz : 20 ≤ tcpSize p.body := by
    unfold tcpErr at h0
    split at h0
    · cases h0
    · split at h0
      · cases h0
      · split at h0
        · cases h0
        · omega
  unfold tcpTc
  simp only [Tc.mk.injEq]
  refine ⟨hs, hd, ?_, ?_, hm 13 (by omega) (by omega) (by omega), ?_, ?_, by rw [eO], by rw [eS], funext fun i => ?_⟩
  · rw [hm 4 (by omega) (by omega) (by omega), hm 5 (by omega) (by omega) (by omega), hm 6 (by omega) (by omega) (by omega), hm 7 (by omega) (by omega) (by omega)]
  · rw [hm 8 (by omega) (by omega) (by omega), hm 9 (by omega) (by omega) (by omega), hm 10 (by omega) (by omega) (by omega), hm 11 (by omega) (by omega) (by omega)]
  · rw [hm 14 (by omega) (by omega) (by omega), hm 15 (by omega) (by omega) (by omega)]
  · rw [hm 18 (by omega) (by omega) (by omega), hm 19 (by omega) (by omega) (by omega)]
  · rw [eS]; exact hm _ (by omega) (by omega) (by omega)
/-- A turned datagram is read as the same but for the ports. -/
theorem turned_ud {p q : Ip} {t : Tup} (h : Rw2 p q t) (h17 : p.proto = 17) : q.body 0 * 256 + q.body 1 = t.sport ∧ q.body 2 * 256 + q.body 3 = t.dport ∧ uSize q.body = uSize p.body ∧ (uChk q.body == 0) = (uChk p.body == 0) ∧ (fun i => q.body (8 + i)) = fun i => p.body (8 + i) := by
  have hs := h.src
  have hd := h.dst
  have hk : rwSum p.proto = 6 := by rw [h17]; rfl
  have e0 : rwAt p.proto 0 = 0 := by rw [h17]; rfl
  have e2 : rwAt p.proto 2 = 2 := by rw [h17]; rfl
  rw [e0] at hs
  rw [e2] at hd
  have hm : ∀ i, 4 ≤ i → i ≠ 6 → i ≠ 7 → q.body i = p.body i := fun i h1 h2 h3 => h.same i (by omega) (by omega) (by omega) (by omega) (fun _ => by omega)
  refine ⟨hs, hd, ?_, ?_, funext fun i => hm _ (by omega) (by omega) (by omega)⟩
  · unfold uSize; rw [hm 4 (by omega) (by omega) (by omega), hm 5 (by omega) (by omega) (by omega)]
  · have := h.plain
    unfold rwPlain at this
    simp only [h17, true_and, decide_eq_decide] at this
    rw [Bool.eq_iff_iff, beq_iff_eq, beq_iff_eq]
    exact this
end Go.Proofs.Ytnefphinmjeacaa
