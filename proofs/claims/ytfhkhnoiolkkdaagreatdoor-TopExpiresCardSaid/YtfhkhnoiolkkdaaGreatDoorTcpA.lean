/- The contracts of the small functions of tcp, and of the sums with a pseudo head. -/
import Derived.Test.YtfhkhnoiolkkdaaGreatDoorIpA
import Derived.Outline
import Derived.Lib.BytesEntry
set_option linter.unusedVariables false
set_option maxRecDepth 100000
set_option linter.unusedSimpArgs false
namespace Go.Proofs.YtfhkhnoiolkkdaaGreatDoor
open Go.RowKit
theorem IntsAt.congr {w : World} {oa : Option Addr} {l : Nat} {k : IntKind} {xs ys : Nat → Int} (h : IntsAt w oa l k xs) (he : ∀ i, i < l → xs i = ys i) : IntsAt w oa l k ys := fun i hi => by
  rw [← he i hi]; exact h i hi
theorem ints_rowj (V : World) (n : Nat) (xs : Nat → Int) (t : TypeId) (os : Array Obj) (d g off l : Nat) (hg : g = V.heap.size) (h : off + l ≤ n) : IntsAt ((V.alloc (.cells (rowArr n xs) t)).junk os d) (some ⟨g, off, none⟩) l .u8 (fun i => xs (off + i)) :=
  (ints_row V n xs t g off l hg h).on ⟨os, d, rfl⟩
theorem half_row (V : World) (N : Nat) (xs : Nat → Int) (t : TypeId) (os : Array Obj) (d g off l c : Nat) (n : Int) (hg : g = V.heap.size) (hl : 2 ≤ l) (hn0 : 0 ≤ n) (hn1 : n ≤ 65535) (ho : off + 2 ≤ N) :
    Calls Tryz.prog 58 #[.slice (some ⟨g, off, none⟩) l c, .int .i64 n] ((V.alloc (.cells (rowArr N xs) t)).junk os d) fun e w' => e = .returned (.tuple #[]) ∧
      (V.alloc (.cells (rowArr N (upd (upd xs off (n / 256)) (off + 1) (n % 256))) t)).junk os d = w' := by
  subst hg
  have hs : V.heap.size < (V.alloc (.cells (rowArr N xs) t)).heap.size := by simp
  have c0 : ∀ k, k < N → ((V.alloc (.cells (rowArr N xs) t)).junk os d).cell? ⟨V.heap.size, k, none⟩ = some (.int .u8 (xs k)) := fun k hk => by
    rw [World.cell?_junk _ _ _ _ _ hs, World.cell?_alloc_new, rowArr_get _ _ _ hk]
  have f0 : ∀ k, ((V.alloc (.cells (rowArr N xs) t)).junk os d).frozen? ⟨V.heap.size, k, none⟩ = false := fun k => by
    rw [World.frozen?_junk _ _ _ _ _ hs, World.frozen?_alloc_new]
  refine (half_any V.heap.size off l c n _ _ _ hl hn0 hn1 (by simp; omega) (c0 off (by omega)) (c0 (off + 1) (by omega)) (f0 _) (f0 _)).mono fun e w' h => ⟨h.1, ?_⟩
  rw [← h.2, World.setCell_junk _ _ _ _ _ _ hs, World.setCell_alloc_new, rowArr_set]
  have hs2 : V.heap.size < (V.alloc (.cells (rowArr N (upd xs off (n / 256))) t)).heap.size := by simp
  rw [World.setCell_junk _ _ _ _ _ _ hs2, World.setCell_alloc_new, rowArr_set]
set_option maxHeartbeats 400000 in
theorem whole_row (V : World) (N : Nat) (xs : Nat → Int) (t : TypeId) (os : Array Obj) (d g off l c : Nat) (n : Int) (hg : g = V.heap.size) (hl : 4 ≤ l) (hc : l ≤ c) (hc2 : c ≤ 1000000000) (hn0 : 0 ≤ n) (hn1 : n ≤ 4294967295) (ho : off + 4 ≤ N) :
    Calls Tryz.prog 60 #[.slice (some ⟨g, off, none⟩) l c, .int .u32 n] ((V.alloc (.cells (rowArr N xs) t)).junk os d) fun e w' => e = .returned (.tuple #[]) ∧
      (V.alloc (.cells (rowArr N (upd (upd (upd (upd xs off (n / 65536 / 256)) (off + 1) (n / 65536 % 256)) (off + 2) (n % 65536 / 256)) (off + 2 + 1) (n % 256))) t)).junk os d = w' := by
  subst hg
  have c2 : ¬ c = 2 := by omega
  have q0 := and_u32_16 n (by omega) (by omega)
  have j2 : (2 : Int) ≤ (l : Int) := by omega
  go_enter Tryz.func60, Tryz.ntmps60
  go_wp2_with (first | (go_at_call 58; refine (half_row V N _ t os d _ _ _ _ _ rfl (by omega) (by omega) (by omega) (by omega)).mono ?_; rintro e w' ⟨rfl, rfl⟩))
  go_end0
  exact ⟨rfl, rfl⟩
def headB (p : Ip) (c : Int) : Nat → Int
  | 0 => 64 + (20 + (p.ol : Int)) / 4
  | 1 => p.tos
  | 2 => (20 + (p.ol : Int) + p.bl) / 256
  | 3 => (20 + (p.ol : Int) + p.bl) % 256
  | 4 => p.id / 256
  | 5 => p.id % 256
  | 6 => bitsI p / 256
  | 7 => bitsI p % 256
  | 8 => p.ttl
  | 9 => p.proto
  | 10 => c / 256
  | 11 => c % 256
  | 12 => p.src / 65536 / 256
  | 13 => p.src / 65536 % 256
  | 14 => p.src % 65536 / 256
  | 15 => p.src % 256
  | 16 => p.dst / 65536 / 256
  | 17 => p.dst / 65536 % 256
  | 18 => p.dst % 65536 / 256
  | 19 => p.dst % 256
  | k + 20 => p.opts k
def hdrSum (p : Ip) : Int := 65535 - sumN (headB p 0) (20 + p.ol)
def pktB (p : Ip) : Nat → Int := fun k => if k < 20 + p.ol then headB p (hdrSum p) k else p.body (k - (20 + p.ol))
theorem twenty (i : Nat) : i = 0 ∨ i = 1 ∨ i = 2 ∨ i = 3 ∨ i = 4 ∨ i = 5 ∨ i = 6 ∨ i = 7 ∨ i = 8 ∨ i = 9 ∨ i = 10 ∨ i = 11 ∨ i = 12 ∨ i = 13 ∨ i = 14 ∨ i = 15 ∨ i = 16 ∨ i = 17 ∨ i = 18 ∨ i = 19 ∨ ∃ k, i = k + 20 := by
  by_cases h : i < 20
  · omega
  · have : ∃ k, i = k + 20 := ⟨i - 20, by omega⟩
    simp [this]
structure MayP (p : Ip) : Prop where
  tos : 0 ≤ p.tos ∧ p.tos ≤ 255
  ttl : 0 ≤ p.ttl ∧ p.ttl ≤ 255
  proto : 0 ≤ p.proto ∧ p.proto ≤ 255
  id : 0 ≤ p.id ∧ p.id ≤ 65535
  off : 0 ≤ p.off ∧ p.off ≤ 65528
  off8 : p.off % 8 = 0
  ol : p.ol ≤ 40
  ol4 : p.ol % 4 = 0
  fit : 20 + (p.ol : Int) + p.off + p.bl ≤ 65535
  mf : p.mf = true → p.bl % 8 = 0 ∧ 0 < p.bl
theorem may_iff {p : Ip} : mayB p = true ↔ MayP p := by
  simp only [mayB, piecesB, withinB, Bool.and_eq_true, decide_eq_true_eq, Bool.not_eq_true', Bool.and_eq_false_iff, Bool.or_eq_false_iff, decide_eq_false_iff_not]
  constructor
  · rintro ⟨⟨⟨⟨⟨⟨⟨⟨⟨h1, h2⟩, h3⟩, h4⟩, h5⟩, h6⟩, h7⟩, h8⟩, h9⟩, h10, h11⟩
    exact ⟨h1, h2, h3, h4, h5, h6, h7, h8, h11, fun hm => by
      rcases h10 with h | ⟨h, h'⟩
      · rw [hm] at h; cases h
      · omega⟩
  · intro h
    have hf := h.fit
    have ho := h.off
    refine ⟨⟨⟨⟨⟨⟨⟨⟨⟨h.tos, h.ttl⟩, h.proto⟩, h.id⟩, h.off⟩, h.off8⟩, h.ol⟩, h.ol4⟩, by omega⟩, ?_, hf⟩
    cases hm : p.mf with
    | false => exact .inl rfl
    | true => have := h.mf hm; exact .inr (by omega)
theorem bitsI_bd {p : Ip} (h0 : 0 ≤ p.off) (h1 : p.off ≤ 65528) : 0 ≤ bitsI p ∧ bitsI p ≤ 32767 := by
  unfold bitsI; split <;> split <;> omega
theorem headB_byte {p : Ip} {c : Int} (h : MayP p) (hc : 0 ≤ c ∧ c ≤ 65535) (hs : 0 ≤ p.src ∧ p.src ≤ 4294967295) (hd : 0 ≤ p.dst ∧ p.dst ≤ 4294967295) (ho : ∀ i, i < p.ol → 0 ≤ p.opts i ∧ p.opts i ≤ 255) :
    ∀ i, i < 20 + p.ol → 0 ≤ headB p c i ∧ headB p c i ≤ 255 := by
  intro i hi
  have h1 := h.tos
  have h2 := h.ttl
  have h3 := h.proto
  have h4 := h.id
  have h5 := h.off
  have h6 := h.ol
  have h7 := h.fit
  have h8 := bitsI_bd h5.1 h5.2
  rcases twenty i with rfl | rfl | rfl | rfl | rfl | rfl | rfl | rfl | rfl | rfl | rfl | rfl | rfl | rfl | rfl | rfl | rfl | rfl | rfl | rfl | ⟨k, rfl⟩
  all_goals simp only [headB]
  all_goals first | omega | exact ho k (by omega)
theorem hdrSum_bd {p : Ip} (h : MayP p) (hs : 0 ≤ p.src ∧ p.src ≤ 4294967295) (hd : 0 ≤ p.dst ∧ p.dst ≤ 4294967295) (ho : ∀ i, i < p.ol → 0 ≤ p.opts i ∧ p.opts i ≤ 255) : 0 ≤ hdrSum p ∧ hdrSum p ≤ 65535 := by
  have := sumN_bd (headB p 0) (20 + p.ol) (headB_byte h (by omega) hs hd ho)
  unfold hdrSum; omega
theorem pktB_byte {p : Ip} (h : MayP p) (hs : 0 ≤ p.src ∧ p.src ≤ 4294967295) (hd : 0 ≤ p.dst ∧ p.dst ≤ 4294967295) (ho : ∀ i, i < p.ol → 0 ≤ p.opts i ∧ p.opts i ≤ 255) (hb : ∀ i, i < p.bl → 0 ≤ p.body i ∧ p.body i ≤ 255) :
    ∀ i, i < 20 + p.ol + p.bl → 0 ≤ pktB p i ∧ pktB p i ≤ 255 := by
  intro i hi
  unfold pktB
  split
  · exact headB_byte h (hdrSum_bd h hs hd ho) hs hd ho i ‹_›
  · exact hb _ (by omega)
def ipErr (p : Ip) : Int := if mayB p then 0 else 1
def bytesL (n : Nat) (xs : Nat → Int) : List Value := (List.range n).map fun i => Value.int .u8 (xs i)
def IpPutM (w : World) (p : Ip) (e : Ending) (w' : World) : Prop :=
  ∃ (ob : Option Addr) (lb cb : Nat), e = .returned (.tuple #[.slice ob lb cb, .int .i64 (ipErr p)]) ∧ Junk w w' ∧ Bts w' ob lb cb (pktB p) ∧
    ((mayB p = true ∧ lb = 20 + p.ol + p.bl ∧ Own w.heap.size w' 5 1 ob cb lb (bytesL lb (pktB p))) ∨ (mayB p = false ∧ lb = 0 ∧ cb = 0 ∧ ob = none))
theorem ipPutM_bad {w w' : World} {p : Ip} (h : mayB p = false) (hj : Junk w w') : IpPutM w p (.returned (.tuple #[.slice none 0 0, .int .i64 1])) w' :=
  ⟨none, 0, 0, by simp [ipErr, h], hj, ⟨fun i hi => by omega, fun i hi => by omega, fun _ => ⟨rfl, rfl⟩, Nat.le_refl _, Nat.zero_le _⟩, .inr ⟨h, rfl, rfl, rfl⟩⟩
theorem ipPutM_ok {w V : World} {p : Ip} {N : Nat} {xs : Nat → Int} {os : Array Obj} {d g : Nat} (h : mayB p = true) (hj : Junk w V) (hg : g = V.heap.size) (hN : N = 20 + p.ol + p.bl) (hx : ∀ i, i < N → xs i = pktB p i)
    (hb : ∀ i, i < N → 0 ≤ pktB p i ∧ pktB p i ≤ 255) (hm : N ≤ 100000) : IpPutM w p (.returned (.tuple #[.slice (some ⟨g, 0, none⟩) N N, .int .i64 0])) ((V.alloc (.cells (rowArr N xs) 5)).junk os d) := by
  have ho : Own w.heap.size ((V.alloc (.cells (rowArr N xs) 5)).junk os d) 5 1 (some ⟨g, 0, none⟩) N N (bytesL N (pktB p)) := by
    have := own_lit' (B := w.heap.size) (w := V) (e := 5) (n := g) (m := N) (cur := rowArr N xs) os d hg hj.size (by simp) (by simp only [maxLen]; omega)
    rw [rowArr_congr hx] at this
    rw [rowArr_congr hx]
    simpa [rowArr, bytesL] using this
  exact ⟨_, N, N, by simp [ipErr, h], (hj.alloc _).junk _ _, own_bts ho hb, .inl ⟨h, hN, ho⟩⟩
def putX (p : Ip) (S N : Nat) : Nat → Int :=
  putAt (putAt (upd (upd (upd (upd (upd (upd (upd (upd (upd (upd (upd (upd (upd (upd (upd (upd (upd (upd (fun _ => 0) 0 (64 + (S : Int) / 4)) 1 p.tos) 2 ((N : Int) / 256)) (2 + 1) ((N : Int) % 256)) 4 (p.id / 256)) (4 + 1) (p.id % 256)) 6 (bitsI p / 256)) (6 + 1) (bitsI p % 256)) 8 p.ttl) 9 p.proto)
    12 (p.src / 65536 / 256)) (12 + 1) (p.src / 65536 % 256)) (12 + 2) (p.src % 65536 / 256)) (12 + 2 + 1) (p.src % 256)) 16 (p.dst / 65536 / 256)) (16 + 1) (p.dst / 65536 % 256)) (16 + 2) (p.dst % 65536 / 256)) (16 + 2 + 1) (p.dst % 256)) 20 p.ol p.opts) S p.bl p.body
theorem putX_head {p : Ip} {S N : Nat} (hS : S = 20 + p.ol) (hN : N = S + p.bl) (ho : p.ol ≤ 40) : ∀ i, i < S → putX p S N i = headB p 0 i := by
  intro i hi
  subst hS hN
  unfold putX
  rw [putAt, if_neg (by omega)]
  rcases twenty i with rfl | rfl | rfl | rfl | rfl | rfl | rfl | rfl | rfl | rfl | rfl | rfl | rfl | rfl | rfl | rfl | rfl | rfl | rfl | rfl | ⟨k, rfl⟩
  all_goals rw [putAt]
  all_goals first
    | (rw [if_pos (by omega), Nat.add_sub_cancel]; rfl)
    | (rw [if_neg (by omega)]; simp only [upd, headB]; simp; done)
    | (rw [if_neg (by omega)]; simp [upd, headB]; omega)
theorem putX_body {p : Ip} {S N : Nat} (hS : S = 20 + p.ol) (hN : N = S + p.bl) : ∀ i, S ≤ i → i < N → putX p S N i = p.body (i - S) := by
  intro i hi hi2
  unfold putX
  rw [putAt, if_pos (by omega)]
theorem putX_all {p : Ip} {S N : Nat} (hS : S = 20 + p.ol) (hN : N = S + p.bl) (ho : p.ol ≤ 40) : ∀ i, i < N → upd (upd (putX p S N) 10 (hdrSum p / 256)) (10 + 1) (hdrSum p % 256) i = pktB p i := by
  intro i hi
  unfold pktB
  by_cases h : i < S
  · rw [if_pos (by omega)]
    by_cases h10 : i = 10
    · subst h10; rfl
    · by_cases h11 : i = 11
      · subst h11; rfl
      · rw [upd, if_neg (by omega), upd, if_neg h10, putX_head hS hN ho i h]
        rcases twenty i with rfl | rfl | rfl | rfl | rfl | rfl | rfl | rfl | rfl | rfl | rfl | rfl | rfl | rfl | rfl | rfl | rfl | rfl | rfl | rfl | ⟨k, rfl⟩
        all_goals first | rfl | omega
  · rw [if_neg (by omega), upd, if_neg (by omega), upd, if_neg (by omega), putX_body hS hN i (by omega) hi, hS]
theorem of_row (p : Ip) (V : World) (N S : Nat) (xs : Nat → Int) (os : Array Obj) (d g c : Nat) (hg : g = V.heap.size) (hS : S = 20 + p.ol) (hN : S ≤ N) (hx : ∀ i, i < S → xs i = headB p 0 i)
    (hb : ∀ i, i < 20 + p.ol → 0 ≤ headB p 0 i ∧ headB p 0 i ≤ 255) (hl : S ≤ 100) :
    Calls Tryz.prog 61 #[.slice (some ⟨g, 0, none⟩) S c] ((V.alloc (.cells (rowArr N xs) 5)).junk os d) fun e w' => e = .returned (.int .u16 (hdrSum p)) ∧ (V.alloc (.cells (rowArr N xs) 5)).junk os d = w' := by
  have h := of_any (some ⟨g, 0, none⟩) S c (headB p 0) ((V.alloc (.cells (rowArr N xs) 5)).junk os d) (by omega) (IntsAt.congr (ints_rowj V N xs 5 os d g 0 S hg (by omega)) (fun i hi => by rw [Nat.zero_add]; exact hx i hi)) (by rw [hS]; exact hb)
  rwa [show 65535 - sumN (headB p 0) S = hdrSum p from by rw [hdrSum, hS]] at h
theorem make_bytes (w : World) (N : Nat) (hN : N ≤ 100000) : (Instr.makeSlice 27 (.int .i64 (N : Int)) (.int .i64 (N : Int))).run Tryz.prog w = .ok (.slice (some ⟨w.heap.size, 0, none⟩) N N) (w.alloc (.cells (rowArr N (fun _ => 0)) 5)) := by
  obtain ⟨i, hi, hz0, hz1, hz2⟩ := info_parts (P := Tryz.prog) (e := 5) (z := .int .u8 0) (size := 1) (bytes := 1) (by kernel_rfl)
  have h := run_make (P := Tryz.prog) w 27 5 i (.int .u8 0) Tryz.underlying27 hi hz0 .i64 .i64 N N (by omega) (by omega) (by rw [hz2]; omega) (by omega)
  rw [hz1] at h
  rw [h]
  simp only [Int.toNat_natCast, Nat.mul_one]
  rw [← rowArr_made]
  rfl
set_option maxHeartbeats 2000000 in
theorem ipPut_any (p : Ip) (oo ob : Option Addr) (oc bc : Nat) (w : World) (h1 : p.ol ≤ 100000000) (h2 : p.bl ≤ 100000000) (hP : IpAt w p oo oc ob bc) :
    Calls Tryz.prog 28 #[.agg #[.int .i64 p.tos, .int .i64 p.id, .bool p.df, .bool p.mf, .int .i64 p.off, .int .i64 p.ttl, .int .i64 p.proto, .int .u32 p.src, .int .u32 p.dst, .slice oo p.ol oc, .slice ob p.bl bc]] w (IpPutM w p) := by
  cases hm : mayB p with
  | false =>
    clear hP
    go_enter Tryz.func28, Tryz.ntmps28
    go_wp2_with (first | (go_at_call 57; refine (may_any p oo ob oc bc _ h1 h2).mono ?_; rintro e w' ⟨rfl, ⟨osj, dj, rfl⟩⟩))
    go_returns
    exact ipPutM_bad hm (by (exact jkc))
  | true =>
    have HP := Lib.hid hP
    have M := Lib.hid (may_iff.1 hm)
    obtain ⟨a1, a2⟩ := M.out.tos
    obtain ⟨a3, a4⟩ := M.out.ttl
    obtain ⟨a5, a6⟩ := M.out.proto
    obtain ⟨a7, a8⟩ := M.out.id
    obtain ⟨a9, a10⟩ := M.out.off
    have a11 := M.out.ol
    have a12 := M.out.fit
    obtain ⟨b1, b2⟩ := bitsI_bd a9 a10
    obtain ⟨s1, s2⟩ := hP.src
    obtain ⟨u1, u2⟩ := hP.dst
    have Hh := Lib.hid (headB_byte (c := 0) M.out (by omega) hP.src hP.dst hP.opts.byte)
    have Hk := Lib.hid (pktB_byte M.out hP.src hP.dst hP.opts.byte hP.body.byte)
    obtain ⟨k1, k2⟩ := hdrSum_bd M.out hP.src hP.dst hP.opts.byte
    clear hP
    obtain ⟨S, hS⟩ : ∃ S, S = 20 + p.ol := ⟨_, rfl⟩
    obtain ⟨N, hN⟩ : ∃ N, N = S + p.bl := ⟨_, rfl⟩
    have e1 : (20 : Int) + (p.ol : Int) = (S : Int) := by omega
    have e2 : (S : Int) + (p.bl : Int) = (N : Int) := by omega
    have n1 : 20 ≤ S := by omega
    have n2 : S ≤ N := by omega
    have n3 : N ≤ 65535 := by omega
    have n4 : S ≤ 60 := by omega
    have E1 := Lib.hid e1
    have E2 := Lib.hid e2
    have ES := Lib.hid hS
    have EN := Lib.hid hN
    have g64 := or_i64 6 64 ((S : Int) / 4) (by omega) (by omega) (by omega) (by omega) (by omega) (by omega)
    have q0 := wrapk_u8 (64 + (S : Int) / 4) (by omega) (by omega)
    have q1 := wrapk_u8 p.tos (by omega) (by omega)
    have q2 := wrapk_u8 p.ttl (by omega) (by omega)
    have q3 := wrapk_u8 p.proto (by omega) (by omega)
    have hmk := fun w : World => make_bytes w N (by omega)
    have j0 : (0 : Int) < (N : Int) := by omega
    have j1 : (1 : Int) < (N : Int) := by omega
    have j2 : (2 : Int) ≤ (N : Int) := by omega
    have j4 : (4 : Int) ≤ (N : Int) := by omega
    have j6 : (6 : Int) ≤ (N : Int) := by omega
    have j8 : (8 : Int) < (N : Int) := by omega
    have j9 : (9 : Int) < (N : Int) := by omega
    have j10 : (10 : Int) ≤ (N : Int) := by omega
    have j12 : (12 : Int) ≤ (N : Int) := by omega
    have j16 : (16 : Int) ≤ (N : Int) := by omega
    have j20 : (20 : Int) ≤ (N : Int) := by omega
    have js : (S : Int) ≤ (N : Int) := by omega
    have i0 : 0 < N := by omega
    have i1 : 1 < N := by omega
    have i8 : 8 < N := by omega
    have i9 : 9 < N := by omega
    have c2 : ¬ N = 2 := by omega
    have c4 : ¬ N = 4 := by omega
    have c6 : ¬ N = 6 := by omega
    have c10 : ¬ N = 10 := by omega
    have c12 : ¬ N = 12 := by omega
    have c16 : ¬ N = 16 := by omega
    clear hS hN
    go_enter Tryz.func28, Tryz.ntmps28
    go_wp2_with (first | (go_at_call 57; refine (may_any p oo ob oc bc _ h1 h2).mono ?_; rintro e w' ⟨rfl, ⟨osj, dj, rfl⟩⟩))
    refine wp_region_mixj ((w.alloc (.cells #[.int .i64 p.tos, .int .i64 p.id, .bool p.df, .bool p.mf, .int .i64 p.off, .int .i64 p.ttl, .int .i64 p.proto, .int .u32 p.src, .int .u32 p.dst, .slice oo p.ol oc, .slice ob p.bl bc] 36)).junk osj dj) [(0, true), (1, true), (2, true), (3, true), (4, true), (5, true), (6, true), (7, true), (8, true), (9, true), (10, false), (11, true), (12, false)] (by kernel_rfl) (by kernel_rfl) (by (exact jkc)) ?_; (iterate 10 (refine wpMix_q rfl (fun K hK => ?_); (go_simp; try go_bits); (refine hK _ ?_; clear hK K))); refine wpMix_e rfl (fun osm5_0 dm5_0 K hK => ?_); (go_simp; try go_bits); refine hK _ _ (Junk.pair (by (first | exact jkc | repeat (first | with_reducible exact Junk.refl _ | with_reducible exact Junk.app _ _ _ _ _ | with_reducible apply Junk.alloc | with_reducible apply Junk.junk | with_reducible apply Junk.drew | with_reducible apply Junk.drewN | (with_reducible refine Junk.setCell ?_ (by simp) _))))) ?_; clear hK K; (iterate 1 (refine wpMix_q rfl (fun K hK => ?_); (go_simp; try go_bits); (refine hK _ ?_; clear hK K))); refine wpMix_e rfl (fun osm5_1 dm5_1 K hK => ?_); (go_simp; try go_bits); refine hK _ _ (Junk.pair (by (first | exact jkc | repeat (first | with_reducible exact Junk.refl _ | with_reducible exact Junk.app _ _ _ _ _ | with_reducible apply Junk.alloc | with_reducible apply Junk.junk | with_reducible apply Junk.drew | with_reducible apply Junk.drewN | (with_reducible refine Junk.setCell ?_ (by simp) _))))) ?_; clear hK K; refine wpMix_nil (fun osm dm => ?_)
    (try simp only [World.junk_junk]); refine then_gen (fun os1 d1 => ?_)
    go_wp2_with (first | (go_at_call 58; refine (half_row ((w.alloc (.cells #[.int .i64 p.tos, .int .i64 p.id, .bool p.df, .bool p.mf, .int .i64 p.off, .int .i64 p.ttl, .int .i64 p.proto, .int .u32 p.src, .int .u32 p.dst, .slice oo p.ol oc, .slice ob p.bl bc] 36)).junk osj dj) N _ _ _ _ _ _ _ _ _ (by simp) (by omega) (by omega) (by omega) (by omega)).mono ?_; rintro e w' ⟨rfl, rfl⟩))
    refine wp_region_mixj ((w.alloc (.cells #[.int .i64 p.tos, .int .i64 p.id, .bool p.df, .bool p.mf, .int .i64 p.off, .int .i64 p.ttl, .int .i64 p.proto, .int .u32 p.src, .int .u32 p.dst, .slice oo p.ol oc, .slice ob p.bl bc] 36)).junk osj dj) [(0, true), (1, true), (2, true), (3, true), (4, false)] (by kernel_rfl) (by kernel_rfl) (by (exact jkc)) ?_; (iterate 4 (refine wpMix_q rfl (fun K hK => ?_); (go_simp; try go_bits); (refine hK _ ?_; clear hK K))); refine wpMix_e rfl (fun osm7_0 dm7_0 K hK => ?_); (go_simp; try go_bits); (go_at_call 58; refine (half_row ((w.alloc (.cells #[.int .i64 p.tos, .int .i64 p.id, .bool p.df, .bool p.mf, .int .i64 p.off, .int .i64 p.ttl, .int .i64 p.proto, .int .u32 p.src, .int .u32 p.dst, .slice oo p.ol oc, .slice ob p.bl bc] 36)).junk osj dj) N _ _ _ _ _ _ _ _ _ (by simp) (by omega) (by omega) (by omega) (by omega)).mono ?_; rintro e w' ⟨rfl, rfl⟩); refine hK _ _ (Junk.pair (by (first | exact jkc | repeat (first | with_reducible exact Junk.refl _ | with_reducible exact Junk.app _ _ _ _ _ | with_reducible apply Junk.alloc | with_reducible apply Junk.junk | with_reducible apply Junk.drew | with_reducible apply Junk.drewN | (with_reducible refine Junk.setCell ?_ (by simp) _))))) ?_; clear hK K; refine wpMix_nil (fun osm dm => ?_)
    (try simp only [World.junk_junk]); refine then_gen (fun os1 d1 => ?_)
    go_wp2
    refine wp_region_mixj ((w.alloc (.cells #[.int .i64 p.tos, .int .i64 p.id, .bool p.df, .bool p.mf, .int .i64 p.off, .int .i64 p.ttl, .int .i64 p.proto, .int .u32 p.src, .int .u32 p.dst, .slice oo p.ol oc, .slice ob p.bl bc] 36)).junk osj dj) [(0, true), (1, true), (2, true), (3, true), (4, false)] (by kernel_rfl) (by kernel_rfl) (by (exact jkc)) ?_; (iterate 4 (refine wpMix_q rfl (fun K hK => ?_); (go_simp; try go_bits); first | (refine hK _ ?_; clear hK K) | (apply Exists.intro; refine ⟨fun _ => ?_, hK _ ?_⟩; (first | (go_at_call 59; exact (bits_any p oo ob oc bc _ a9 a10))); clear hK K))); refine wpMix_e rfl (fun osm8_0 dm8_0 K hK => ?_); (go_simp; try go_bits); (go_at_call 58; refine (half_row ((w.alloc (.cells #[.int .i64 p.tos, .int .i64 p.id, .bool p.df, .bool p.mf, .int .i64 p.off, .int .i64 p.ttl, .int .i64 p.proto, .int .u32 p.src, .int .u32 p.dst, .slice oo p.ol oc, .slice ob p.bl bc] 36)).junk osj dj) N _ _ _ _ _ _ _ _ _ (by simp) (by omega) (by omega) (by omega) (by omega)).mono ?_; rintro e w' ⟨rfl, rfl⟩); refine hK _ _ (Junk.pair (by (first | exact jkc | repeat (first | with_reducible exact Junk.refl _ | with_reducible exact Junk.app _ _ _ _ _ | with_reducible apply Junk.alloc | with_reducible apply Junk.junk | with_reducible apply Junk.drew | with_reducible apply Junk.drewN | (with_reducible refine Junk.setCell ?_ (by simp) _))))) ?_; clear hK K; refine wpMix_nil (fun osm dm => ?_)
    (try simp only [World.junk_junk]); refine then_gen (fun os1 d1 => ?_)
    go_wp2
    refine wp_region_mixj ((w.alloc (.cells #[.int .i64 p.tos, .int .i64 p.id, .bool p.df, .bool p.mf, .int .i64 p.off, .int .i64 p.ttl, .int .i64 p.proto, .int .u32 p.src, .int .u32 p.dst, .slice oo p.ol oc, .slice ob p.bl bc] 36)).junk osj dj) [(0, true), (1, true), (2, true), (3, true), (4, true), (5, true), (6, true), (7, true), (8, true), (9, false), (10, true), (11, false)] (by kernel_rfl) (by kernel_rfl) (by (exact jkc)) ?_; (iterate 9 (refine wpMix_q rfl (fun K hK => ?_); (go_simp; try go_bits); (refine hK _ ?_; clear hK K))); refine wpMix_e rfl (fun osm9_0 dm9_0 K hK => ?_); (go_simp; try go_bits); refine hK _ _ (Junk.pair (by (first | exact jkc | repeat (first | with_reducible exact Junk.refl _ | with_reducible exact Junk.app _ _ _ _ _ | with_reducible apply Junk.alloc | with_reducible apply Junk.junk | with_reducible apply Junk.drew | with_reducible apply Junk.drewN | (with_reducible refine Junk.setCell ?_ (by simp) _))))) ?_; clear hK K; (iterate 1 (refine wpMix_q rfl (fun K hK => ?_); (go_simp; try go_bits); (refine hK _ ?_; clear hK K))); refine wpMix_e rfl (fun osm9_1 dm9_1 K hK => ?_); (go_simp; try go_bits); refine hK _ _ (Junk.pair (by (first | exact jkc | repeat (first | with_reducible exact Junk.refl _ | with_reducible exact Junk.app _ _ _ _ _ | with_reducible apply Junk.alloc | with_reducible apply Junk.junk | with_reducible apply Junk.drew | with_reducible apply Junk.drewN | (with_reducible refine Junk.setCell ?_ (by simp) _))))) ?_; clear hK K; refine wpMix_nil (fun osm dm => ?_)
    (try simp only [World.junk_junk]); refine then_gen (fun os1 d1 => ?_)
    go_wp2
    refine wp_region_mixj ((w.alloc (.cells #[.int .i64 p.tos, .int .i64 p.id, .bool p.df, .bool p.mf, .int .i64 p.off, .int .i64 p.ttl, .int .i64 p.proto, .int .u32 p.src, .int .u32 p.dst, .slice oo p.ol oc, .slice ob p.bl bc] 36)).junk osj dj) [(0, true), (1, true), (2, true), (3, true), (4, false)] (by kernel_rfl) (by kernel_rfl) (by (exact jkc)) ?_; (iterate 4 (refine wpMix_q rfl (fun K hK => ?_); (go_simp; try go_bits); (refine hK _ ?_; clear hK K))); refine wpMix_e rfl (fun osm10_0 dm10_0 K hK => ?_); (go_simp; try go_bits); (go_at_call 60; refine (whole_row ((w.alloc (.cells #[.int .i64 p.tos, .int .i64 p.id, .bool p.df, .bool p.mf, .int .i64 p.off, .int .i64 p.ttl, .int .i64 p.proto, .int .u32 p.src, .int .u32 p.dst, .slice oo p.ol oc, .slice ob p.bl bc] 36)).junk osj dj) N _ _ _ _ _ _ _ _ _ (by simp) (by omega) (by omega) (by omega) s1 s2 (by omega)).mono ?_; rintro e w' ⟨rfl, rfl⟩); refine hK _ _ (Junk.pair (by (first | exact jkc | repeat (first | with_reducible exact Junk.refl _ | with_reducible exact Junk.app _ _ _ _ _ | with_reducible apply Junk.alloc | with_reducible apply Junk.junk | with_reducible apply Junk.drew | with_reducible apply Junk.drewN | (with_reducible refine Junk.setCell ?_ (by simp) _))))) ?_; clear hK K; refine wpMix_nil (fun osm dm => ?_)
    (try simp only [World.junk_junk]); refine then_gen (fun os1 d1 => ?_)
    go_wp2
    refine wp_region_mixj ((w.alloc (.cells #[.int .i64 p.tos, .int .i64 p.id, .bool p.df, .bool p.mf, .int .i64 p.off, .int .i64 p.ttl, .int .i64 p.proto, .int .u32 p.src, .int .u32 p.dst, .slice oo p.ol oc, .slice ob p.bl bc] 36)).junk osj dj) [(0, true), (1, true), (2, true), (3, true), (4, false)] (by kernel_rfl) (by kernel_rfl) (by (exact jkc)) ?_; (iterate 4 (refine wpMix_q rfl (fun K hK => ?_); (go_simp; try go_bits); (refine hK _ ?_; clear hK K))); refine wpMix_e rfl (fun osm11_0 dm11_0 K hK => ?_); (go_simp; try go_bits); (go_at_call 60; refine (whole_row ((w.alloc (.cells #[.int .i64 p.tos, .int .i64 p.id, .bool p.df, .bool p.mf, .int .i64 p.off, .int .i64 p.ttl, .int .i64 p.proto, .int .u32 p.src, .int .u32 p.dst, .slice oo p.ol oc, .slice ob p.bl bc] 36)).junk osj dj) N _ _ _ _ _ _ _ _ _ (by simp) (by omega) (by omega) (by omega) u1 u2 (by omega)).mono ?_; rintro e w' ⟨rfl, rfl⟩); refine hK _ _ (Junk.pair (by (first | exact jkc | repeat (first | with_reducible exact Junk.refl _ | with_reducible exact Junk.app _ _ _ _ _ | with_reducible apply Junk.alloc | with_reducible apply Junk.junk | with_reducible apply Junk.drew | with_reducible apply Junk.drewN | (with_reducible refine Junk.setCell ?_ (by simp) _))))) ?_; clear hK K; refine wpMix_nil (fun osm dm => ?_)
    (try simp only [World.junk_junk]); refine then_gen (fun os1 d1 => ?_)
    go_wp2
    refine wp_region_mixj ((w.alloc (.cells #[.int .i64 p.tos, .int .i64 p.id, .bool p.df, .bool p.mf, .int .i64 p.off, .int .i64 p.ttl, .int .i64 p.proto, .int .u32 p.src, .int .u32 p.dst, .slice oo p.ol oc, .slice ob p.bl bc] 36)).junk osj dj) [(0, true), (1, true), (2, true), (3, true), (4, false)] (by kernel_rfl) (by kernel_rfl) (by (exact jkc)) ?_; (iterate 4 (refine wpMix_q rfl (fun K hK => ?_); (go_simp; try go_bits); (refine hK _ ?_; clear hK K))); refine wpMix_e1 rfl rfl (fun osm12_0 dm12_0 K hK => ?_); (try simp only [World.drew_junk, World.junk_junk]); (refine cp_bytes_wp _ _ 27 27 rfl 5 Tryz.underlying27 (by kernel_rfl) _ _ _ _ _ _ rfl rfl ((w.alloc (.cells #[.int .i64 p.tos, .int .i64 p.id, .bool p.df, .bool p.mf, .int .i64 p.off, .int .i64 p.ttl, .int .i64 p.proto, .int .u32 p.src, .int .u32 p.dst, .slice oo p.ol oc, .slice ob p.bl bc] 36)).junk osj dj) N _ _ _ _ rfl 20 p.ol p.opts (show Nat.min _ _ = _ from Nat.min_eq_left (by omega)) (fun h => by rw [if_neg (by omega)]; simp) (by omega) (HP.out.opts.at_.on (by (exact jkc))) ?_); refine hK _ _ (Junk.pair (by (first | exact jkc | repeat (first | with_reducible exact Junk.refl _ | with_reducible exact Junk.app _ _ _ _ _ | with_reducible apply Junk.alloc | with_reducible apply Junk.junk | with_reducible apply Junk.drew | with_reducible apply Junk.drewN | (with_reducible refine Junk.setCell ?_ (by simp) _))))) ?_; clear hK K; refine wpMix_nil (fun osm dm => ?_)
    (try simp only [World.junk_junk]); refine then_gen (fun os1 d1 => ?_)
    generalize (if N = 20 then (some (⟨w.heap.size + 1 + osj.size, 0, none⟩ : Addr)) else some ⟨w.heap.size + 1 + osj.size, 20, none⟩) = dp20
    go_wp2
    refine wp_region_mixj ((w.alloc (.cells #[.int .i64 p.tos, .int .i64 p.id, .bool p.df, .bool p.mf, .int .i64 p.off, .int .i64 p.ttl, .int .i64 p.proto, .int .u32 p.src, .int .u32 p.dst, .slice oo p.ol oc, .slice ob p.bl bc] 36)).junk osj dj) [(0, true), (1, true), (2, true), (3, true), (4, true), (5, false)] (by kernel_rfl) (by kernel_rfl) (by (exact jkc)) ?_; (iterate 5 (refine wpMix_q rfl (fun K hK => ?_); (go_simp; try go_bits); (refine hK _ ?_; clear hK K))); refine wpMix_e1 rfl rfl (fun osm13_0 dm13_0 K hK => ?_); (try simp only [World.drew_junk, World.junk_junk]); (refine cp_bytes_wp _ _ 27 27 rfl 5 Tryz.underlying27 (by kernel_rfl) _ _ _ _ _ _ rfl rfl ((w.alloc (.cells #[.int .i64 p.tos, .int .i64 p.id, .bool p.df, .bool p.mf, .int .i64 p.off, .int .i64 p.ttl, .int .i64 p.proto, .int .u32 p.src, .int .u32 p.dst, .slice oo p.ol oc, .slice ob p.bl bc] 36)).junk osj dj) N _ _ _ _ rfl S p.bl p.body (show Nat.min _ _ = _ from Nat.min_eq_left (by omega)) (fun h => by rw [if_neg (by omega)]; simp) (by omega) (HP.out.body.at_.on (by (exact jkc))) ?_); refine hK _ _ (Junk.pair (by (first | exact jkc | repeat (first | with_reducible exact Junk.refl _ | with_reducible exact Junk.app _ _ _ _ _ | with_reducible apply Junk.alloc | with_reducible apply Junk.junk | with_reducible apply Junk.drew | with_reducible apply Junk.drewN | (with_reducible refine Junk.setCell ?_ (by simp) _))))) ?_; clear hK K; refine wpMix_nil (fun osm dm => ?_)
    (try simp only [World.junk_junk]); refine then_gen (fun os1 d1 => ?_)
    generalize (if N = S then (some (⟨w.heap.size + 1 + osj.size, 0, none⟩ : Addr)) else some ⟨w.heap.size + 1 + osj.size, S, none⟩) = dpS
    go_wp2
    refine wp_region_mixj ((w.alloc (.cells #[.int .i64 p.tos, .int .i64 p.id, .bool p.df, .bool p.mf, .int .i64 p.off, .int .i64 p.ttl, .int .i64 p.proto, .int .u32 p.src, .int .u32 p.dst, .slice oo p.ol oc, .slice ob p.bl bc] 36)).junk osj dj) [(0, true), (1, true), (2, true), (3, true), (4, true), (5, false), (6, true), (7, false)] (by kernel_rfl) (by kernel_rfl) (by (exact jkc)) ?_; (iterate 5 (refine wpMix_q rfl (fun K hK => ?_); (go_simp; try go_bits); (refine hK _ ?_; clear hK K))); refine wpMix_e rfl (fun osm14_0 dm14_0 K hK => ?_); (go_simp; try go_bits); (go_at_call 61; refine (of_row p ((w.alloc (.cells #[.int .i64 p.tos, .int .i64 p.id, .bool p.df, .bool p.mf, .int .i64 p.off, .int .i64 p.ttl, .int .i64 p.proto, .int .u32 p.src, .int .u32 p.dst, .slice oo p.ol oc, .slice ob p.bl bc] 36)).junk osj dj) N S _ _ _ _ _ (by simp) ES.out n2 (putX_head ES.out EN.out a11) Hh.out (by omega)).mono ?_; rintro e w' ⟨rfl, rfl⟩); refine hK _ _ (Junk.pair (by (first | exact jkc | repeat (first | with_reducible exact Junk.refl _ | with_reducible exact Junk.app _ _ _ _ _ | with_reducible apply Junk.alloc | with_reducible apply Junk.junk | with_reducible apply Junk.drew | with_reducible apply Junk.drewN | (with_reducible refine Junk.setCell ?_ (by simp) _))))) ?_; clear hK K; (iterate 1 (refine wpMix_q rfl (fun K hK => ?_); (go_simp; try go_bits); (refine hK _ ?_; clear hK K))); refine wpMix_e rfl (fun osm14_1 dm14_1 K hK => ?_); (go_simp; try go_bits); (go_at_call 58; refine (half_row ((w.alloc (.cells #[.int .i64 p.tos, .int .i64 p.id, .bool p.df, .bool p.mf, .int .i64 p.off, .int .i64 p.ttl, .int .i64 p.proto, .int .u32 p.src, .int .u32 p.dst, .slice oo p.ol oc, .slice ob p.bl bc] 36)).junk osj dj) N _ _ _ _ _ _ _ _ _ (by simp) (by omega) (by omega) (by omega) (by omega)).mono ?_; rintro e w' ⟨rfl, rfl⟩); refine hK _ _ (Junk.pair (by (first | exact jkc | repeat (first | with_reducible exact Junk.refl _ | with_reducible exact Junk.app _ _ _ _ _ | with_reducible apply Junk.alloc | with_reducible apply Junk.junk | with_reducible apply Junk.drew | with_reducible apply Junk.drewN | (with_reducible refine Junk.setCell ?_ (by simp) _))))) ?_; clear hK K; refine wpMix_nil (fun osm dm => ?_)
    (try simp only [World.junk_junk]); refine then_gen (fun os1 d1 => ?_)
    go_wp2
    go_returns
    exact ipPutM_ok hm (by (exact jkc)) (by simp) (by rw [EN.out, ES.out]) (putX_all ES.out EN.out a11) (by rw [EN.out, ES.out]; exact Hk.out) (by omega)
end Go.Proofs.YtfhkhnoiolkkdaaGreatDoor
set_option linter.unusedVariables false
set_option maxRecDepth 100000
set_option linter.unusedSimpArgs false
namespace Go.Proofs.YtfhkhnoiolkkdaaGreatDoor
open Go.RowKit
theorem bts_cell {w : World} {b off l c : Nat} {xs : Nat → Int} (h : Bts w (some ⟨b, off, none⟩) l c xs) (i : Nat) (hi : i < l) : b < w.heap.size ∧ w.cell? ⟨b, off + i, none⟩ = some (.int .u8 (xs i)) := by
  obtain ⟨b', off', he, h1, h2⟩ := h.at_ i hi
  cases he
  exact ⟨h1, h2⟩
theorem get_bts {b off l c : Nat} {xs : Nat → Int} {w : World} (h : Bts w (some ⟨b, off, none⟩) l c xs) (i l' c' : Nat) (hi : i + 2 ≤ l) (hl : 2 ≤ l') :
    Calls Tryz.prog 63 #[.slice (some ⟨b, off + i, none⟩) l' c'] w fun e w' => e = .returned (.int .i64 (xs i * 256 + xs (i + 1))) ∧ Junk w w' :=
  get_any b (off + i) l' c' (xs i) (xs (i + 1)) w hl (bts_cell h i (by omega)).1 (bts_cell h i (by omega)).2 (bts_cell h (i + 1) (by omega)).2 (h.byte _ (by omega)) (h.byte _ (by omega))
set_option maxHeartbeats 400000 in
theorem address_bts {b off l c : Nat} {xs : Nat → Int} {w : World} (h : Bts w (some ⟨b, off, none⟩) l c xs) (i l' c' : Nat) (hi : i + 4 ≤ l) (hl : 4 ≤ l') (hc : l' ≤ c') :
    Calls Tryz.prog 64 #[.slice (some ⟨b, off + i, none⟩) l' c'] w fun e w' => e = .returned (.int .u32 ((xs i * 256 + xs (i + 1)) * 65536 + (xs (i + 2) * 256 + xs (i + 3)))) ∧ Junk w w' := by
  have x0 := h.byte i (by omega); have x1 := h.byte (i + 1) (by omega); have x2 := h.byte (i + 2) (by omega); have x3 := h.byte (i + 3) (by omega)
  have H := Lib.hid h
  clear h
  have o1 := or_u32 16 ((xs i * 256 + xs (i + 1)) * 65536) (xs (i + 2) * 256 + xs (i + 3)) (by omega) (by omega) (by omega) (by omega) (by omega) (by omega)
  have r1 := wrapk_u32 (xs i * 256 + xs (i + 1)) (by omega) (by omega)
  have r2 := wrapk_u32 (xs (i + 2) * 256 + xs (i + 3)) (by omega) (by omega)
  have r3 := wrapk_u32 ((xs i * 256 + xs (i + 1)) * 65536) (by omega) (by omega)
  have c2 : ¬ c' = 2 := by omega
  have j2 : (2 : Int) ≤ (l' : Int) := by omega
  have j2' : 2 ≤ c' := by omega
  go_enter Tryz.func64, Tryz.ntmps64
  go_wp2
  refine wp_region_junk (by kernel_rfl) (by kernel_rfl) ?_; (repeat (refine wpQuiet_step (fun K hK => ?_); (go_simp; try go_bits); first | (refine hK _ ?_; clear hK K) | (apply Exists.intro; refine ⟨fun _ => ?_, hK _ ?_⟩; (first | (go_at_call 63; first | with_reducible exact Calls.junk_of (get_bts (H.out.on (by (exact jkc))) i _ _ (by omega) (by omega)) | exact Calls.junk_of (get_bts (H.out.on (by (exact jkc))) (i + 2) _ _ (by omega) (by omega)))); clear hK K))); refine wpQuiet_nil ?_; rintro _ ⟨⟨osq, dq⟩, rfl⟩
  go_wp2
  go_ret
  exact ⟨rfl, by (exact jkc)⟩
def ipSize (xs : Nat → Int) : Nat := (xs 0 % 16 * 4).toNat
def ipTotal (xs : Nat → Int) : Nat := (xs 2 * 256 + xs 3).toNat
def lenErr (xs : Nat → Int) (l : Nat) : Int :=
  if l < 20 then 2 else if ¬ (xs 0 / 16 = 4 ∧ 20 ≤ ipSize xs ∧ ipSize xs ≤ l) then 3 else if ¬ (ipSize xs ≤ ipTotal xs ∧ ipTotal xs ≤ l) then 4 else if sumN xs (ipSize xs) = 65535 then 0 else 5
structure LenOk (xs : Nat → Int) (l : Nat) : Prop where
  l20 : 20 ≤ l
  ver : xs 0 / 16 = 4
  s20 : 20 ≤ ipSize xs
  sl : ipSize xs ≤ l
  st : ipSize xs ≤ ipTotal xs
  tl : ipTotal xs ≤ l
  sum : sumN xs (ipSize xs) = 65535
theorem lenErr_zero {xs : Nat → Int} {l : Nat} (h : lenErr xs l = 0) : LenOk xs l := by
  unfold lenErr at h
  split at h
  · cases h
  · split at h
    · cases h
    · split at h
      · cases h
      · split at h
        · rename_i h1 h2 h3 h4
          refine ⟨by omega, ?_, ?_, ?_, ?_, ?_, h4⟩ <;> omega
        · cases h
theorem lenErr_of {xs : Nat → Int} {l : Nat} (h : LenOk xs l) : lenErr xs l = 0 := by
  obtain ⟨h1, h2, h3, h4, h5, h6, h7⟩ := h
  unfold lenErr
  rw [if_neg (by omega), if_neg (by omega), if_neg (by omega), if_pos h7]
def lenRes (xs : Nat → Int) (l : Nat) : Value :=
  if lenErr xs l = 0 then .tuple #[.int .i64 (ipSize xs : Int), .int .i64 (ipTotal xs : Int), .int .i64 0] else .tuple #[.int .i64 0, .int .i64 0, .int .i64 (lenErr xs l)]
theorem lenRes_bad {xs : Nat → Int} {l : Nat} {n : Int} (h : lenErr xs l = n) (hn : n ≠ 0) : Ending.returned (.tuple #[.int .i64 0, .int .i64 0, .int .i64 n]) = .returned (lenRes xs l) := by
  unfold lenRes; rw [h, if_neg hn]
theorem lenRes_ok {xs : Nat → Int} {l : Nat} (h : lenErr xs l = 0) : Ending.returned (.tuple #[.int .i64 (ipSize xs : Int), .int .i64 (ipTotal xs : Int), .int .i64 0]) = .returned (lenRes xs l) := by
  unfold lenRes; rw [if_pos h]
theorem bts_short {w : World} {oa : Option Addr} {l c : Nat} {xs : Nat → Int} (h : Bts w oa l c xs) (m : Nat) (hm : m ≤ l) : Bts w oa m c xs :=
  ⟨fun i hi => h.at_ i (by omega), fun i hi => h.byte i (by omega), fun hn => by have := h.nil hn; omega, by have := h.le; omega, h.cap⟩
set_option maxHeartbeats 1000000 in
theorem lengths_any (oa : Option Addr) (l c : Nat) (xs : Nat → Int) (w : World) (hl : l ≤ 100000000) (hB : Bts w oa l c xs) :
    Calls Tryz.prog 62 #[.slice oa l c] w fun e w' => e = .returned (lenRes xs l) ∧ Junk w w' := by
  by_cases h20 : l < 20
  · clear hB
    go_enter Tryz.func62, Tryz.ntmps62
    go_wp2
    go_returns
    exact ⟨lenRes_bad (by unfold lenErr; rw [if_pos h20]) (by decide), by (exact jkc)⟩
  · have hlc := hB.le
    have x0 := hB.byte 0 (by omega); have x2 := hB.byte 2 (by omega); have x3 := hB.byte 3 (by omega)
    have hsz : ((ipSize xs : Nat) : Int) = xs 0 % 16 * 4 := by unfold ipSize; omega
    have htt : ((ipTotal xs : Nat) : Int) = xs 2 * 256 + xs 3 := by unfold ipTotal; omega
    have Hsum := fun h => sumN_bd xs (ipSize xs) (fun i hi => hB.byte i (Nat.lt_of_lt_of_le hi h))
    obtain ⟨b, off, rfl, hblk, hc0⟩ := hB.at_ 0 (by omega)
    have H := Lib.hid hB
    clear hB
    simp only [Nat.add_zero] at hc0
    obtain ⟨S, hS⟩ : ∃ S, S = ipSize xs := ⟨_, rfl⟩
    obtain ⟨T, hT⟩ : ∃ T, T = ipTotal xs := ⟨_, rfl⟩
    rw [← hS] at hsz
    rw [← hT] at htt
    have e1 : xs 0 % 16 * 4 = (S : Int) := hsz.symm
    have e2 : xs 2 * 256 + xs 3 = (T : Int) := htt.symm
    have ES := Lib.hid hS
    have ET := Lib.hid hT
    have E1 := Lib.hid hsz
    have E2 := Lib.hid htt
    have b1 : S ≤ 60 := by omega
    have b2 : T ≤ 65535 := by omega
    rw [← hS] at Hsum
    clear hS hT hsz htt
    have a0 := and_u8_4 (xs 0) (by omega) (by omega)
    have c2 : ¬ c = 2 := by omega
    have c20 : 20 ≤ c := by omega
    have j0 : (0 : Int) < (l : Int) := by omega
    have j0' : 0 < l := by omega
    have j2 : (2 : Int) ≤ (l : Int) := by omega
    have q0 := wrapk_i64 (xs 0 % 16) (by omega) (by omega)
    have q1 := wrapk_i64 (S : Int) (by omega) (by omega)
    by_cases hv : xs 0 / 16 = 4
    case neg =>
      have ev : (xs 0 / 16 != 4) = true := by simp [hv]
      have HV := Lib.hid hv
      clear hv
      (go_enter Tryz.func62, Tryz.ntmps62; go_wp2; refine wp_region_junk (by kernel_rfl) (by kernel_rfl) ?_; (repeat (refine wpQuiet_step (fun K hK => ?_); (go_simp; try go_bits); first | (refine hK _ ?_; clear hK K) | (apply Exists.intro; refine ⟨fun _ => ?_, hK _ ?_⟩; (first | (go_at_call 63; exact Calls.junk_of (get_bts (H.out.on (by (exact jkc))) 2 _ _ (by omega) (by omega)))); clear hK K))); refine wpQuiet_nil ?_; rintro _ ⟨⟨osq, dq⟩, rfl⟩; go_wp2; go_returns)
      exact ⟨lenRes_bad (by unfold lenErr; rw [if_neg h20, if_pos (fun h => HV.out h.1)]) (by decide), by (exact jkc)⟩
    have ev : (xs 0 / 16 != 4) = false := by simp [hv]
    have HV := Lib.hid hv
    clear hv
    by_cases hs1 : 20 ≤ S ∧ S ≤ l
    case neg =>
      by_cases hs2 : 20 ≤ S
      · have hs3 : ¬ S ≤ l := fun h => hs1 ⟨hs2, h⟩
        clear hs1
        (go_enter Tryz.func62, Tryz.ntmps62; go_wp2; refine wp_region_junk (by kernel_rfl) (by kernel_rfl) ?_; (repeat (refine wpQuiet_step (fun K hK => ?_); (go_simp; try go_bits); first | (refine hK _ ?_; clear hK K) | (apply Exists.intro; refine ⟨fun _ => ?_, hK _ ?_⟩; (first | (go_at_call 63; exact Calls.junk_of (get_bts (H.out.on (by (exact jkc))) 2 _ _ (by omega) (by omega)))); clear hK K))); refine wpQuiet_nil ?_; rintro _ ⟨⟨osq, dq⟩, rfl⟩; go_wp2; go_returns)
        exact ⟨lenRes_bad (by unfold lenErr; rw [if_neg h20, if_pos (fun h => hs3 (ES.out ▸ h.2.2))]) (by decide), by (exact jkc)⟩
      · clear hs1
        (go_enter Tryz.func62, Tryz.ntmps62; go_wp2; refine wp_region_junk (by kernel_rfl) (by kernel_rfl) ?_; (repeat (refine wpQuiet_step (fun K hK => ?_); (go_simp; try go_bits); first | (refine hK _ ?_; clear hK K) | (apply Exists.intro; refine ⟨fun _ => ?_, hK _ ?_⟩; (first | (go_at_call 63; exact Calls.junk_of (get_bts (H.out.on (by (exact jkc))) 2 _ _ (by omega) (by omega)))); clear hK K))); refine wpQuiet_nil ?_; rintro _ ⟨⟨osq, dq⟩, rfl⟩; go_wp2; go_returns)
        exact ⟨lenRes_bad (by unfold lenErr; rw [if_neg h20, if_pos (fun h => hs2 (ES.out ▸ h.2.1))]) (by decide), by (exact jkc)⟩
    obtain ⟨hs1, hs2⟩ := hs1
    by_cases ht1 : S ≤ T ∧ T ≤ l
    case neg =>
      by_cases ht2 : S ≤ T
      · have ht3 : ¬ T ≤ l := fun h => ht1 ⟨ht2, h⟩
        clear ht1
        (go_enter Tryz.func62, Tryz.ntmps62; go_wp2; refine wp_region_junk (by kernel_rfl) (by kernel_rfl) ?_; (repeat (refine wpQuiet_step (fun K hK => ?_); (go_simp; try go_bits); first | (refine hK _ ?_; clear hK K) | (apply Exists.intro; refine ⟨fun _ => ?_, hK _ ?_⟩; (first | (go_at_call 63; exact Calls.junk_of (get_bts (H.out.on (by (exact jkc))) 2 _ _ (by omega) (by omega)))); clear hK K))); refine wpQuiet_nil ?_; rintro _ ⟨⟨osq, dq⟩, rfl⟩; go_wp2; go_returns)
        exact ⟨lenRes_bad (by unfold lenErr; rw [if_neg h20, ← ES.out, ← ET.out, if_neg (fun h => h ⟨HV.out, hs1, hs2⟩), if_pos (fun h => ht3 h.2)]) (by decide), by (exact jkc)⟩
      · clear ht1
        (go_enter Tryz.func62, Tryz.ntmps62; go_wp2; refine wp_region_junk (by kernel_rfl) (by kernel_rfl) ?_; (repeat (refine wpQuiet_step (fun K hK => ?_); (go_simp; try go_bits); first | (refine hK _ ?_; clear hK K) | (apply Exists.intro; refine ⟨fun _ => ?_, hK _ ?_⟩; (first | (go_at_call 63; exact Calls.junk_of (get_bts (H.out.on (by (exact jkc))) 2 _ _ (by omega) (by omega)))); clear hK K))); refine wpQuiet_nil ?_; rintro _ ⟨⟨osq, dq⟩, rfl⟩; go_wp2; go_returns)
        exact ⟨lenRes_bad (by unfold lenErr; rw [if_neg h20, ← ES.out, ← ET.out, if_neg (fun h => h ⟨HV.out, hs1, hs2⟩), if_pos (fun h => ht2 h.1)]) (by decide), by (exact jkc)⟩
    obtain ⟨ht1, ht2⟩ := ht1
    obtain ⟨m1, m2⟩ := Hsum hs2
    have HI := Lib.hid (bts_short H.out S hs2)
    by_cases hm : sumN xs S = 65535
    case neg =>
      have em : (sumN xs S != 65535) = true := by simp [hm]
      have HM := Lib.hid hm
      clear hm
      (go_enter Tryz.func62, Tryz.ntmps62; go_wp2; refine wp_region_junk (by kernel_rfl) (by kernel_rfl) ?_; (repeat (refine wpQuiet_step (fun K hK => ?_); (go_simp; try go_bits); first | (refine hK _ ?_; clear hK K) | (apply Exists.intro; refine ⟨fun _ => ?_, hK _ ?_⟩; (first | (go_at_call 63; exact Calls.junk_of (get_bts (H.out.on (by (exact jkc))) 2 _ _ (by omega) (by omega)))); clear hK K))); refine wpQuiet_nil ?_; rintro _ ⟨⟨osq, dq⟩, rfl⟩; go_wp2_with (first | (go_at_call 93; refine (sum_any _ _ _ _ _ (by omega) (HI.out.at_.on (by (exact jkc))) HI.out.byte).mono ?_; rintro e w' ⟨rfl, rfl⟩)); go_returns)
      exact ⟨lenRes_bad (by unfold lenErr; rw [if_neg h20, ← ES.out, ← ET.out, if_neg (fun h => h ⟨HV.out, hs1, hs2⟩), if_neg (fun h => h ⟨ht1, ht2⟩), if_neg HM.out]) (by decide), by (exact jkc)⟩
    have em : (sumN xs S != 65535) = false := by simp [hm]
    have HM := Lib.hid hm
    clear hm
    (go_enter Tryz.func62, Tryz.ntmps62; go_wp2; refine wp_region_junk (by kernel_rfl) (by kernel_rfl) ?_; (repeat (refine wpQuiet_step (fun K hK => ?_); (go_simp; try go_bits); first | (refine hK _ ?_; clear hK K) | (apply Exists.intro; refine ⟨fun _ => ?_, hK _ ?_⟩; (first | (go_at_call 63; exact Calls.junk_of (get_bts (H.out.on (by (exact jkc))) 2 _ _ (by omega) (by omega)))); clear hK K))); refine wpQuiet_nil ?_; rintro _ ⟨⟨osq, dq⟩, rfl⟩; go_wp2_with (first | (go_at_call 93; refine (sum_any _ _ _ _ _ (by omega) (HI.out.at_.on (by (exact jkc))) HI.out.byte).mono ?_; rintro e w' ⟨rfl, rfl⟩)); go_returns)
    have hz : lenErr xs l = 0 := by unfold lenErr; rw [if_neg h20, ← ES.out, ← ET.out, if_neg (fun h => h ⟨HV.out, hs1, hs2⟩), if_neg (fun h => h ⟨ht1, ht2⟩), if_pos HM.out]
    have hr := lenRes_ok hz
    rw [← ES.out, ← ET.out] at hr
    exact ⟨hr, by (exact jkc)⟩
theorem wp_gen {P : Program} {c : Code} {Q : Exit → Act → World → Prop} {a : Act} {w : World} {os : Array Obj} {d : Nat} (h : ∀ os d, c.wp P Q a (w.junk os d)) : c.wp P Q a (w.junk os d) := h os d
theorem bts_over2 {V V' : World} {cur cur' : Array Value} {t : TypeId} {os os' : Array Obj} {d d' : Nat} {oa : Option Addr} {l c : Nat} {xs : Nat → Int} (hs : V'.heap.size = V.heap.size)
    (h : Bts ((V.alloc (.cells cur t)).junk os d) oa l c xs) (hf : Fresh (V.heap.size + 1) oa) (ho : ∃ x, os' = os ++ x) : Bts ((V'.alloc (.cells cur' t)).junk os' d') oa l c xs := by
  obtain ⟨x, rfl⟩ := ho
  refine ⟨fun i hi => ?_, h.byte, h.nil, h.le, h.cap⟩
  obtain ⟨b, off, he, hlt, hc⟩ := h.at_ i hi
  have hb := hf _ he
  simp only at hb
  refine ⟨b, off, he, by simp at hlt ⊢; omega, ?_⟩
  rw [← hc]
  apply World.cell?_of_block
  simp only [World.junk, World.alloc]
  rw [← Array.append_assoc, Array.getElem?_append_left (by simp at hlt ⊢; omega), Array.getElem?_append_right (by simp; omega), Array.getElem?_append_right (by simp; omega)]
  simp [hs]
def ipFlags (xs : Nat → Int) : Int := xs 6 * 256 + xs 7
def mkIp (xs : Nat → Int) (S T : Nat) : Ip where
  tos := xs 1
  id := xs 4 * 256 + xs 5
  df := ipFlags xs / 16384 % 2 == 1
  mf := ipFlags xs / 8192 % 2 == 1
  off := ipFlags xs % 8192 * 8
  ttl := xs 8
  proto := xs 9
  src := (xs 12 * 256 + xs 13) * 65536 + (xs 14 * 256 + xs 15)
  dst := (xs 16 * 256 + xs 17) * 65536 + (xs 18 * 256 + xs 19)
  ol := S - 20
  opts := fun k => xs (20 + k)
  bl := T - S
  body := fun k => xs (S + k)
def parseIp (xs : Nat → Int) : Ip := mkIp xs (ipSize xs) (ipTotal xs)
def parseErr (xs : Nat → Int) (l : Nat) : Int := if lenErr xs l ≠ 0 then lenErr xs l else if ipFlags xs / 32768 = 0 ∧ piecesB (parseIp xs) = true then 0 else 7
def zeroIp : Ip := ⟨0, 0, false, false, 0, 0, 0, 0, 0, 0, fun _ => 0, 0, fun _ => 0⟩
def IpParseM (w : World) (xs : Nat → Int) (l : Nat) (e : Ending) (w' : World) : Prop :=
  ∃ (p : Ip) (oo ob : Option Addr) (oc bc : Nat), e = .returned (.tuple #[.agg #[.int .i64 p.tos, .int .i64 p.id, .bool p.df, .bool p.mf, .int .i64 p.off, .int .i64 p.ttl, .int .i64 p.proto, .int .u32 p.src, .int .u32 p.dst, .slice oo p.ol oc, .slice ob p.bl bc], .int .i64 (parseErr xs l)]) ∧ Junk w w' ∧ IpAt w' p oo oc ob bc ∧
    ((parseErr xs l = 0 ∧ p = parseIp xs) ∨ (parseErr xs l ≠ 0 ∧ p = zeroIp ∧ oo = none ∧ oc = 0 ∧ ob = none ∧ bc = 0))
theorem bts_none (w : World) (xs : Nat → Int) : Bts w none 0 0 xs := ⟨fun i hi => by omega, fun i hi => by omega, fun _ => ⟨rfl, rfl⟩, Nat.le_refl _, Nat.zero_le _⟩
theorem ipParseM_bad {w w' : World} {xs : Nat → Int} {l : Nat} {n : Int} (h : parseErr xs l = n) (hn : n ≠ 0) (hj : Junk w w') : IpParseM w xs l (.returned (.tuple #[.agg #[.int .i64 zeroIp.tos, .int .i64 zeroIp.id, .bool zeroIp.df, .bool zeroIp.mf, .int .i64 zeroIp.off, .int .i64 zeroIp.ttl, .int .i64 zeroIp.proto, .int .u32 zeroIp.src, .int .u32 zeroIp.dst, .slice none zeroIp.ol 0, .slice none zeroIp.bl 0], .int .i64 n])) w' :=
  ⟨zeroIp, none, none, 0, 0, by rw [h], hj, ⟨bts_none _ _, bts_none _ _, by decide, by decide⟩, .inr ⟨by rw [h]; exact hn, rfl, rfl, rfl, rfl, rfl⟩⟩
theorem ipParseM_ok {w w' : World} {xs : Nat → Int} {l : Nat} {oo ob : Option Addr} {oc bc : Nat} (h : parseErr xs l = 0) (hj : Junk w w') {S T : Nat} (hS : S = ipSize xs) (hT : T = ipTotal xs) (ho : Bts w' oo (S - 20) oc (fun k => xs (20 + k))) (hb : Bts w' ob (T - S) bc (fun k => xs (S + k)))
    (hx : ∀ i, i < 20 → 0 ≤ xs i ∧ xs i ≤ 255) : IpParseM w xs l (.returned (.tuple #[.agg #[.int .i64 (mkIp xs S T).tos, .int .i64 (mkIp xs S T).id, .bool (mkIp xs S T).df, .bool (mkIp xs S T).mf, .int .i64 (mkIp xs S T).off, .int .i64 (mkIp xs S T).ttl, .int .i64 (mkIp xs S T).proto, .int .u32 (mkIp xs S T).src, .int .u32 (mkIp xs S T).dst, .slice oo (mkIp xs S T).ol oc, .slice ob (mkIp xs S T).bl bc], .int .i64 0])) w' := by
  subst hS hT
  have x12 := hx 12 (by omega); have x13 := hx 13 (by omega); have x14 := hx 14 (by omega); have x15 := hx 15 (by omega)
  have x16 := hx 16 (by omega); have x17 := hx 17 (by omega); have x18 := hx 18 (by omega); have x19 := hx 19 (by omega)
  exact ⟨parseIp xs, oo, ob, oc, bc, by rw [h]; rfl, hj, ⟨ho, hb, by simp only [parseIp, mkIp]; omega, by simp only [parseIp, mkIp]; omega⟩, .inl ⟨h, rfl⟩⟩
set_option maxHeartbeats 2000000 in
theorem ipParse_any (oa : Option Addr) (l c : Nat) (xs : Nat → Int) (w : World) (hl : l ≤ 100000000) (hB : Bts w oa l c xs) :
    Calls Tryz.prog 29 #[.slice oa l c] w (IpParseM w xs l) := by
  by_cases hz : lenErr xs l = 0
  case neg =>
    have hz2 : (lenErr xs l != 0) = true := by simp [hz]
    have hr : lenRes xs l = .tuple #[.int .i64 0, .int .i64 0, .int .i64 (lenErr xs l)] := by unfold lenRes; rw [if_neg hz]
    have HZ := Lib.hid hz
    clear hz
    have H := Lib.hid hB
    clear hB
    go_enter Tryz.func29, Tryz.ntmps29
    go_wp2_with (go_at_call 62; refine (lengths_any oa l c xs _ hl (H.out.on (by (exact jkc)))).mono ?_; rintro e w' ⟨rfl, ⟨osj, dj, rfl⟩⟩; rw [hr])
    go_returns
    exact ipParseM_bad (by unfold parseErr; rw [if_pos HZ.out]) HZ.out (by (exact jkc))
  have K := lenErr_zero hz
  have hz2 : (lenErr xs l != 0) = false := by simp [hz]
  have hr : lenRes xs l = .tuple #[.int .i64 (ipSize xs : Int), .int .i64 (ipTotal xs : Int), .int .i64 0] := by unfold lenRes; rw [if_pos hz]
  obtain ⟨k1, _, k2, k3, k4, k5, _⟩ := K
  obtain ⟨S, hS⟩ : ∃ S, S = ipSize xs := ⟨_, rfl⟩
  obtain ⟨T, hT⟩ : ∃ T, T = ipTotal xs := ⟨_, rfl⟩
  rw [← hS] at k2 k3 k4 hr
  rw [← hT] at k4 k5 hr
  have ES := Lib.hid hS
  have ET := Lib.hid hT
  have hpe : parseIp xs = mkIp xs S T := by rw [hS, hT]; rfl
  have HP := Lib.hid hpe
  clear hS hT hpe
  have HZ := Lib.hid hz
  clear hz
  have Hx := Lib.hid (fun i (hi : i < 20) => hB.byte i (by omega))
  have x1 := hB.byte 1 (by omega); have x4 := hB.byte 4 (by omega); have x5 := hB.byte 5 (by omega); have x6 := hB.byte 6 (by omega); have x7 := hB.byte 7 (by omega); have x8 := hB.byte 8 (by omega); have x9 := hB.byte 9 (by omega)
  have hlc := hB.le
  obtain ⟨b, off, rfl, hblk, _⟩ := hB.at_ 0 (by omega)
  have hc1 := (bts_cell hB 1 (by omega)).2
  have hc8 := (bts_cell hB 8 (by omega)).2
  have hc9 := (bts_cell hB 9 (by omega)).2
  have H := Lib.hid hB
  clear hB
  have hfl : xs 6 * 256 + xs 7 = ipFlags xs := rfl
  have f1 : 0 ≤ ipFlags xs := by unfold ipFlags; omega
  have f2 : ipFlags xs ≤ 65535 := by unfold ipFlags; omega
  have g1 := bit_i64_14 (ipFlags xs) f1 (by omega)
  have g2 := bit_i64_13 (ipFlags xs) f1 (by omega)
  have g3 := and_i64_13 (ipFlags xs) f1 (by omega)
  have g4 : (ipFlags xs / 16384 % 2 * 16384 != 0) = (ipFlags xs / 16384 % 2 == 1) := by rw [Bool.eq_iff_iff]; simp; omega
  have g5 : (ipFlags xs / 8192 % 2 * 8192 != 0) = (ipFlags xs / 8192 % 2 == 1) := by rw [Bool.eq_iff_iff]; simp; omega
  have p1 : 0 ≤ (mkIp xs S T).off := by show 0 ≤ ipFlags xs % 8192 * 8; omega
  have p2 : (mkIp xs S T).off ≤ 65528 := by show ipFlags xs % 8192 * 8 ≤ 65528; omega
  have p3 : (mkIp xs S T).ol ≤ 100000000 := by show S - 20 ≤ _; omega
  have p4 : (mkIp xs S T).bl ≤ 100000000 := by show T - S ≤ _; omega
  have c6 : ¬ c = 6 := by omega
  have c4 : ¬ c = 4 := by omega
  have c12 : ¬ c = 12 := by omega
  have c16 : ¬ c = 16 := by omega
  have i1 : 1 < l := by omega
  have i8 : 8 < l := by omega
  have i9 : 9 < l := by omega
  have j1 : (1 : Int) < (l : Int) := by omega
  have j4 : (4 : Int) ≤ (l : Int) := by omega
  have j6 : (6 : Int) ≤ (l : Int) := by omega
  have j8 : (8 : Int) < (l : Int) := by omega
  have j9 : (9 : Int) < (l : Int) := by omega
  have j12 : (12 : Int) ≤ (l : Int) := by omega
  have j16 : (16 : Int) ≤ (l : Int) := by omega
  have j20 : (20 : Int) ≤ (S : Int) := by omega
  have js : (S : Int) ≤ (T : Int) := by omega
  have jt : (T : Int) ≤ (c : Int) := by omega
  have jc : (S : Int) ≤ (c : Int) := by omega
  have Hfl := Lib.hid hfl
  clear hfl
  go_enter Tryz.func29, Tryz.ntmps29
  go_wp2_with (first
    | (go_at_call 62; refine (lengths_any _ l c xs _ hl (H.out.on (by (exact jkc)))).mono ?_; rintro e w' ⟨rfl, ⟨osj, dj, rfl⟩⟩; rw [hr])
    | (go_at_call 63; refine (get_bts (H.out.on (by (exact jkc))) 6 _ _ (by omega) (by omega)).mono ?_; rintro e w' ⟨rfl, ⟨osj, dj, rfl⟩⟩; rw [Hfl.out]))
  (try simp only [World.junk_junk]); refine wp_gen (fun osA dA => ?_)
  refine wp_region_mixj ((w.alloc (.cells #[.int .i64 0, .int .i64 0, .bool false, .bool false, .int .i64 0, .int .i64 0, .int .i64 0, .int .u32 0, .int .u32 0, .slice none 0 0, .slice none 0 0] 36)).junk osA dA) [(0, true), (1, true), (2, true), (3, true), (4, true), (5, true), (6, true), (7, true), (8, true), (9, true), (10, true), (11, true), (12, true), (13, true), (14, true), (15, true), (16, true), (17, true), (18, true), (19, true), (20, true), (21, true), (22, true), (23, true), (24, true), (25, true), (26, true), (27, true), (28, true), (29, true), (30, true), (31, false), (32, false)] (by kernel_rfl) (by kernel_rfl) (by (exact jkc)) ?_; (iterate 31 (refine wpMix_q rfl (fun K hK => ?_); (go_simp; try go_bits); first | (refine hK _ ?_; clear hK K) | (apply Exists.intro; refine ⟨fun _ => ?_, hK _ ?_⟩; (first | (go_at_call 63; exact get_bts (H.out.on (by (exact jkc))) 4 _ _ (by omega) (by omega)) | (go_at_call 64; first | with_reducible exact address_bts (H.out.on (by (exact jkc))) 12 _ _ (by omega) (by omega) (by omega) | exact address_bts (H.out.on (by (exact jkc))) 16 _ _ (by omega) (by omega) (by omega))); clear hK K))); refine wpMix_e rfl (fun osm5_0 dm5_0 K hK => ?_); (go_simp; try go_bits); refine hK _ _ (Junk.pair (by (first | exact jkc | repeat (first | with_reducible exact Junk.refl _ | with_reducible exact Junk.app _ _ _ _ _ | with_reducible apply Junk.alloc | with_reducible apply Junk.junk | with_reducible apply Junk.drew | with_reducible apply Junk.drewN | (with_reducible refine Junk.setCell ?_ (by simp) _))))) ?_; clear hK K; refine wpMix_e rfl (fun osm5_1 dm5_1 K hK => ?_); (go_simp; try go_bits); refine hK _ _ (Junk.pair (by (first | exact jkc | repeat (first | with_reducible exact Junk.refl _ | with_reducible exact Junk.app _ _ _ _ _ | with_reducible apply Junk.alloc | with_reducible apply Junk.junk | with_reducible apply Junk.drew | with_reducible apply Junk.drewN | (with_reducible refine Junk.setCell ?_ (by simp) _))))) ?_; clear hK K; refine wpMix_nil (fun osm dm => ?_)
  go_wp2
  (try simp only [World.junk_junk]); refine wp_gen (fun osB dB => ?_)
  refine wp_region_mixj ((w.alloc (.cells #[.int .i64 0, .int .i64 0, .bool false, .bool false, .int .i64 0, .int .i64 0, .int .i64 0, .int .u32 0, .int .u32 0, .slice none 0 0, .slice none 0 0] 36)).junk (osA ++ osm5_0) dm5_0) [(0, true), (1, true), (2, true), (4, true), (5, true), (6, true), (7, true), (3, false), (9, true), (8, false), (10, false), (11, true), (12, false)] (by kernel_rfl) (by kernel_rfl) (by (exact jkc)) ?_; (iterate 7 (refine wpMix_q rfl (fun K hK => ?_); (go_simp; try go_bits); (refine hK _ ?_; clear hK K))); refine wpMix_e rfl (fun osm6_0 dm6_0 K hK => ?_); (go_simp; try go_bits); (go_at_call 44; refine (clone_any _ _ _ _ _ (by omega) ((bts_sub H.out 20 S (by omega) (by omega)).on (by (exact jkc)))).mono ?_; rintro e w' ⟨oc1, cc1, rfl, ⟨osj1, dj1, rfl⟩, hcb, hcn, hcf⟩; rw [World.junk_junk] at hcb; have Hcb1 := Lib.hid hcb; have Hcf1 := Lib.hid hcf; clear hcb hcn hcf); refine hK _ _ (Junk.pair (by (first | exact jkc | repeat (first | with_reducible exact Junk.refl _ | with_reducible exact Junk.app _ _ _ _ _ | with_reducible apply Junk.alloc | with_reducible apply Junk.junk | with_reducible apply Junk.drew | with_reducible apply Junk.drewN | (with_reducible refine Junk.setCell ?_ (by simp) _))))) ?_; clear hK K; (iterate 1 (refine wpMix_q rfl (fun K hK => ?_); (go_simp; try go_bits); (refine hK _ ?_; clear hK K))); refine wpMix_e rfl (fun osm6_1 dm6_1 K hK => ?_); (go_simp; try go_bits); (go_at_call 44; refine (clone_any _ _ _ _ _ (by omega) ((bts_sub H.out S T (by omega) (by omega)).on (by (exact jkc)))).mono ?_; rintro e w' ⟨oc2, cc2, rfl, ⟨osj2, dj2, rfl⟩, hcb, hcn, hcf⟩; rw [World.junk_junk] at hcb; have Hcb2 := Lib.hid hcb; have Hcf2 := Lib.hid hcf; clear hcb hcn hcf); refine hK _ _ (Junk.pair (by (first | exact jkc | repeat (first | with_reducible exact Junk.refl _ | with_reducible exact Junk.app _ _ _ _ _ | with_reducible apply Junk.alloc | with_reducible apply Junk.junk | with_reducible apply Junk.drew | with_reducible apply Junk.drewN | (with_reducible refine Junk.setCell ?_ (by simp) _))))) ?_; clear hK K; refine wpMix_e rfl (fun osm6_2 dm6_2 K hK => ?_); (go_simp; try go_bits); refine hK _ _ (Junk.pair (by (first | exact jkc | repeat (first | with_reducible exact Junk.refl _ | with_reducible exact Junk.app _ _ _ _ _ | with_reducible apply Junk.alloc | with_reducible apply Junk.junk | with_reducible apply Junk.drew | with_reducible apply Junk.drewN | (with_reducible refine Junk.setCell ?_ (by simp) _))))) ?_; clear hK K; (iterate 1 (refine wpMix_q rfl (fun K hK => ?_); (go_simp; try go_bits); (refine hK _ ?_; clear hK K))); refine wpMix_e rfl (fun osm6_3 dm6_3 K hK => ?_); (go_simp; try go_bits); refine hK _ _ (Junk.pair (by (first | exact jkc | repeat (first | with_reducible exact Junk.refl _ | with_reducible exact Junk.app _ _ _ _ _ | with_reducible apply Junk.alloc | with_reducible apply Junk.junk | with_reducible apply Junk.drew | with_reducible apply Junk.drewN | (with_reducible refine Junk.setCell ?_ (by simp) _))))) ?_; clear hK K; refine wpMix_nil (fun osm dm => ?_)
  generalize (if c = 20 then (some (⟨b, off, none⟩ : Addr)) else some ⟨b, off + 20, none⟩) = dp20
  generalize (if c = S then (some (⟨b, off, none⟩ : Addr)) else some ⟨b, off + S, none⟩) = dpS
  by_cases hf : ipFlags xs / 32768 = 0
  case neg =>
    have ef : (ipFlags xs / 32768 != 0) = true := by simp [hf]
    have HF := Lib.hid hf
    clear hf
    go_wp2
    go_returns
    exact ipParseM_bad (by unfold parseErr; rw [if_neg (by simp [HZ.out]), if_neg (fun h => HF.out h.1)]) (by decide) (by (exact jkc))
  have ef : (ipFlags xs / 32768 != 0) = false := by simp [hf]
  have HF := Lib.hid hf
  clear hf
  cases hp : piecesB (mkIp xs S T) with
  | false =>
    go_wp2_with (first | (go_at_call 65; refine (pieces_any (mkIp xs S T) _ _ _ _ _ p3 p4 p1 p2).mono ?_; rintro e w' ⟨rfl, ⟨osp, djp, rfl⟩⟩))
    go_returns
    exact ipParseM_bad (by unfold parseErr; rw [if_neg (by simp [HZ.out]), if_neg (fun h => by rw [HP.out, hp] at h; cases h.2)]) (by decide) (by (exact jkc))
  | true =>
    go_wp2_with (first | (go_at_call 65; refine (pieces_any (mkIp xs S T) _ _ _ _ _ p3 p4 p1 p2).mono ?_; rintro e w' ⟨rfl, ⟨osp, djp, rfl⟩⟩))
    go_returns
    exact ipParseM_ok (by unfold parseErr; rw [if_neg (by simp [HZ.out]), if_pos ⟨HF.out, by rw [HP.out, hp]⟩]) (by (exact jkc)) ES.out ET.out (bts_over2 (by simp) Hcb1.out (Hcf1.out.lower (by simp)) ⟨_, by repeat rw [Array.append_assoc]⟩) (bts_over2 (by simp) Hcb2.out (Hcf2.out.lower (by simp)) ⟨_, by repeat rw [Array.append_assoc]⟩) Hx.out
end Go.Proofs.YtfhkhnoiolkkdaaGreatDoor
set_option linter.unusedVariables false
set_option maxRecDepth 100000
set_option linter.unusedSimpArgs false
namespace Go.Proofs.YtfhkhnoiolkkdaaGreatDoor
open Go.RowKit
theorem foldI_full {n : Int} (h : 0 ≤ n) : foldI (n + (65535 - foldI n)) = 65535 := by
  by_cases h0 : n = 0
  · subst h0; decide
  · unfold foldI
    rw [if_neg h0, if_neg (by omega)]
    omega
theorem foldI_iff {n : Int} (h : 0 ≤ n) : foldI n = 65535 ↔ 0 < n ∧ n % 65535 = 0 := by
  unfold foldI
  split <;> omega
theorem rawN_upd (xs : Nat → Int) (k : Nat) (v : Int) : ∀ n, rawN (upd xs k v) n = rawN xs n + if k < n then (if k % 2 = 0 then (v - xs k) * 256 else v - xs k) else 0
  | 0 => by simp [rawN]
  | n + 1 => by
    have h := rawN_upd xs k v n
    simp only [rawN]
    rw [h]
    by_cases hk : n = k
    · subst hk
      rw [upd_same]
      simp only [Nat.lt_irrefl, if_false, Nat.lt_succ_self, if_true]
      split <;> omega
    · rw [upd_other _ _ _ _ hk]
      by_cases hlt : k < n
      · rw [if_pos hlt, if_pos (show k < n + 1 by omega)]; exact Int.add_right_comm _ _ _
      · rw [if_neg hlt, if_neg (show ¬ k < n + 1 by omega)]; exact Int.add_right_comm _ _ _
theorem rawN_congr {xs ys : Nat → Int} : ∀ n, (∀ i, i < n → xs i = ys i) → rawN xs n = rawN ys n
  | 0, _ => rfl
  | n + 1, h => by
    simp only [rawN]
    rw [rawN_congr n (fun i hi => h i (by omega)), h n (by omega)]
theorem sumN_congr {xs ys : Nat → Int} {n : Nat} (h : ∀ i, i < n → xs i = ys i) : sumN xs n = sumN ys n := by unfold sumN; rw [rawN_congr n h]
end Go.Proofs.YtfhkhnoiolkkdaaGreatDoor
namespace Go
open Go.ChangeShapes Go.WideShapes Go.ChangeAt Go.RowKit Go.WideMaps Go.WideElems Go.Deep
end Go
set_option linter.unusedVariables false
set_option maxRecDepth 100000
set_option linter.unusedSimpArgs false
namespace Go.Proofs.YtfhkhnoiolkkdaaGreatDoor
open Go.RowKit
end Go.Proofs.YtfhkhnoiolkkdaaGreatDoor
set_option linter.unusedVariables false
set_option maxRecDepth 100000
set_option linter.unusedSimpArgs false
namespace Go.Proofs.YtfhkhnoiolkkdaaGreatDoor
open Go.RowKit
theorem own_some {B : Nat} {w : World} {e : TypeId} {size : Nat} {oa : Option Addr} {cap n : Nat} {xs : List Value} (h : Own B w e size oa cap n xs) (hn : 0 < n) : ∃ g, oa = some ⟨g, 0, none⟩ ∧ B ≤ g ∧ g < w.heap.size ∧ ∀ j u, xs[j]? = some u → w.cell? ⟨g, j, none⟩ = some u ∧ w.frozen? ⟨g, j, none⟩ = false := by
  rcases h.form with ⟨_, h2, _⟩ | ⟨g, cur, h1, h2, h3, _⟩
  · omega
  · refine ⟨g, h1, h2, (Array.getElem?_eq_some_iff.1 h3).1, fun j u hu => ?_⟩
    obtain ⟨g', he, _, _, hc, hf⟩ := h.cells j u hu
    rw [h1] at he
    cases he
    exact ⟨hc, hf⟩
theorem bts_set {w : World} {g off n cap : Nat} {xs : Nat → Int} (h : Bts w (some ⟨g, off, none⟩) n cap xs) (i : Nat) (v : Int) (hv : 0 ≤ v ∧ v ≤ 255) :
    Bts (w.setCell ⟨g, off + i, none⟩ (.int .u8 v)) (some ⟨g, off, none⟩) n cap (fun k => if k = i then v else xs k) := by
  refine ⟨fun k hk => ?_, fun k hk => ?_, h.nil, h.le, h.cap⟩
  · obtain ⟨b, o, he, hlt, hc⟩ := h.at_ k hk
    cases he
    refine ⟨g, off, rfl, by simpa [World.setCell] using hlt, ?_⟩
    by_cases hki : k = i
    · subst hki
      rw [if_pos rfl]
      exact World.cell?_setCell_same _ _ _ hc
    · rw [if_neg hki, World.cell?_setCell_other _ _ _ _ (by intro he; simp only [Addr.mk.injEq, Nat.add_left_cancel_iff] at he; omega)]
      exact hc
  · by_cases hki : k = i
    · simp only [hki, if_true]; exact hv
    · simp only [hki, if_false]; exact h.byte k hk
theorem bts_set0 {w : World} {g n cap : Nat} {xs : Nat → Int} (h : Bts w (some ⟨g, 0, none⟩) n cap xs) (i : Nat) (v : Int) (hv : 0 ≤ v ∧ v ≤ 255) :
    Bts (w.setCell ⟨g, i, none⟩ (.int .u8 v)) (some ⟨g, 0, none⟩) n cap (fun k => if k = i then v else xs k) := by
  have := bts_set h i v hv
  rwa [Nat.zero_add] at this
end Go.Proofs.YtfhkhnoiolkkdaaGreatDoor
set_option linter.unusedVariables false
set_option maxRecDepth 100000
set_option linter.unusedSimpArgs false
namespace Go.Proofs.YtfhkhnoiolkkdaaGreatDoor
open Go.RowKit
def mendI (c o n : Int) : Int := 65535 - foldI ((65535 - c) + (65535 - o) + n)
theorem mendI_bd {c o n : Int} (hc : 0 ≤ c ∧ c ≤ 65535) (ho : 0 ≤ o ∧ o ≤ 65535) (hn : 0 ≤ n ∧ n ≤ 65535) : 0 ≤ mendI c o n ∧ mendI c o n ≤ 65535 := by
  have := foldI_bd ((65535 - c) + (65535 - o) + n) (by omega)
  unfold mendI; omega
theorem cmend_any (c o n : Int) (w : World) (hc : 0 ≤ c ∧ c ≤ 65535) (ho : 0 ≤ o ∧ o ≤ 65535) (hn : 0 ≤ n ∧ n ≤ 65535) :
    Calls Tryz.prog 301 #[.int .u16 c, .int .u16 o, .int .u16 n] w fun e w' => e = .returned (.int .u16 (mendI c o n)) ∧ w = w' := by
  have x1 := xor_u16 c hc.1 (by omega)
  have x2 := xor_u16 o ho.1 (by omega)
  obtain ⟨F, hF⟩ : ∃ F, foldI ((65535 - c) + (65535 - o) + n) = F := ⟨_, rfl⟩
  have hFb : 0 ≤ F ∧ F ≤ 65535 := by rw [← hF]; exact foldI_bd _ (by omega)
  have x3 := xor_u16 F hFb.1 (by omega)
  have HM := Lib.hid (show mendI c o n = 65535 - F by unfold mendI; rw [hF])
  have HFD := Lib.hid (fun w1 => show Calls Tryz.prog 159 #[.int .u64 ((65535 - c) + (65535 - o) + n)] w1 fun e w' => e = .returned (.int .u16 F) ∧ w1 = w' by rw [← hF]; exact fold_any _ w1 (by omega) (by omega))
  clear hF
  rw [HM.out]
  obtain ⟨c', hc'⟩ : ∃ x, 65535 - c = x := ⟨_, rfl⟩
  obtain ⟨o', ho'⟩ : ∃ x, 65535 - o = x := ⟨_, rfl⟩
  have y1 : bits .xor .u16 IntKind.u16.max c = c' := by rw [← hc']; exact x1
  have y2 : bits .xor .u16 IntKind.u16.max o = o' := by rw [← ho']; exact x2
  have y3 : bits .xor .u16 IntKind.u16.max F = 65535 - F := x3
  rw [hc', ho'] at HFD
  have hcb : 0 ≤ c' ∧ c' ≤ 65535 := by omega
  have hob : 0 ≤ o' ∧ o' ≤ 65535 := by omega
  have k1 := wrapk_u64 c' (by omega) (by omega)
  have k2 := wrapk_u64 o' (by omega) (by omega)
  have k3 := wrapk_u64 n (by omega) (by omega)
  have k4 := wrapk_u64 (c' + o') (by omega) (by omega)
  have k5 := wrapk_u64 (c' + o' + n) (by omega) (by omega)
  clear x1 x2 x3 hc' ho' HM
  go_enter Tryz.func301, Tryz.ntmps301
  go_wp2_with (first | (go_at_call 159; (with_reducible refine (HFD.out _).mono ?_); rintro e w' ⟨rfl, rfl⟩))
  go_ret
  exact ⟨rfl, rfl⟩
structure Keeps (g : Nat) (F : World → Prop) : Prop where
  on : ∀ V V', F V → Junk V V' → F V'
  set : ∀ V i v, F V → F (V.setCell ⟨g, i, none⟩ v)
structure St (F : World → Prop) (W0 V : World) (g l cap : Nat) (xs : Nat → Int) : Prop where
  j : Junk W0 V
  lt : W0.heap.size ≤ g
  gs : g < V.heap.size
  b : Bts V (some ⟨g, 0, none⟩) l cap xs
  fz : ∀ i, i < l → V.frozen? ⟨g, i, none⟩ = false
  f : F V
section
variable {F : World → Prop} {W0 V V' : World} {g l cap : Nat} {xs : Nat → Int}
theorem St.on (h : St F W0 V g l cap xs) (hK : Keeps g F) (hj : Junk V V') : St F W0 V' g l cap xs :=
  ⟨h.j.trans hj, h.lt, Nat.lt_of_lt_of_le h.gs hj.size, h.b.on hj, fun i hi => by
    obtain ⟨os, d, rfl⟩ := hj
    rw [World.frozen?_junk _ _ _ _ _ h.gs]; exact h.fz i hi, hK.on _ _ h.f hj⟩
theorem St.set (h : St F W0 V g l cap xs) (hK : Keeps g F) (i : Nat) (v : Int) (hv : 0 ≤ v ∧ v ≤ 255) : St F W0 (V.setCell ⟨g, i, none⟩ (.int .u8 v)) g l cap (upd xs i v) :=
  ⟨h.j.setCell h.lt _, h.lt, by simpa [World.setCell] using h.gs, bts_set0 h.b i v hv, fun k hk => by rw [World.frozen?_setCell]; exact h.fz k hk, hK.set _ _ _ h.f⟩
theorem St.congr {ys : Nat → Int} (h : St F W0 V g l cap xs) (he : ∀ i, i < l → xs i = ys i) : St F W0 V g l cap ys :=
  ⟨h.j, h.lt, h.gs, ⟨fun i hi => by obtain ⟨b, off, h1, h2, h3⟩ := h.b.at_ i hi; exact ⟨b, off, h1, h2, by rw [← he i hi]; exact h3⟩, fun i hi => by rw [← he i hi]; exact h.b.byte i hi, h.b.nil, h.b.le, h.b.cap⟩, h.fz, h.f⟩
theorem St.cell (h : St F W0 V g l cap xs) (i : Nat) (hi : i < l) : V.cell? ⟨g, i, none⟩ = some (.int .u8 (xs i)) := by
  obtain ⟨b, off, he, _, hc⟩ := h.b.at_ i hi
  cases he
  rw [Nat.zero_add] at hc
  exact hc
end
def wd (xs : Nat → Int) (i : Nat) : Int := xs i * 256 + xs (i + 1)
theorem wd_bd {xs : Nat → Int} {i : Nat} (h0 : 0 ≤ xs i ∧ xs i ≤ 255) (h1 : 0 ≤ xs (i + 1) ∧ xs (i + 1) ≤ 255) : 0 ≤ wd xs i ∧ wd xs i ≤ 65535 := by unfold wd; omega
def w2 (xs : Nat → Int) (i : Nat) (v : Int) : Nat → Int := upd (upd xs i (v / 256)) (i + 1) (v % 256)
set_option maxHeartbeats 400000 in
theorem clone_own (a : Addr) (l c : Nat) (xs : Nat → Int) (w : World) (hl : l ≤ 100000000) (hB : Bts w (some a) l c xs) :
    Calls Tryz.prog 44 #[.slice (some a) l c] w fun e w' => ∃ oc cc, e = .returned (.slice oc l cc) ∧ Junk w w' ∧ Own w.heap.size w' 5 1 oc cc l (bytesL l xs) := by
  have hB2 := Lib.hid hB
  clear hB
  have hne := fun (w : World) => Lib.run_eql_slice_nil (P := Tryz.prog) w 27 5 (some a) l c 0 0 Tryz.underlying27
  go_enter Tryz.func44, Tryz.ntmps44
  go_wp2_with (at_builtin; (refine ap_own (W0 := w) rfl _ _ 27 rfl 5 (.int .u8 0) 1 1 (by kernel_rfl) rfl (by decide) Tryz.underlying27 (by (exact jkc)) _ _ 0 [] rfl (World.ownsRow_made w _ 0 (Nat.le_refl _) (Nat.zero_le _) rfl) _ _ c rfl ((List.range l).map fun i => .int .u8 (xs i)) (by simp; try omega) (hB2.out.at_.on (by (exact jkc))).src (fun h => by cases h) (by simp [Value.oneCell']) (by simp only [maxLen]; omega) (by omega) ?_; intro oa' co' os' d' hown' hnn))
  rw [List.nil_append, Nat.zero_add] at hown'
  go_ret
  exact ⟨_, _, rfl, by (exact jkc), hown'⟩
def CsH (L : List (Nat × Nat × Value)) (V : World) : Prop := ∀ q ∈ L, q.1 < V.heap.size ∧ V.cell? ⟨q.1, q.2.1, none⟩ = some q.2.2 ∧ V.frozen? ⟨q.1, q.2.1, none⟩ = false
theorem CsH.cons {b i : Nat} {u : Value} {L : List (Nat × Nat × Value)} {V : World} : CsH ((b, i, u) :: L) V ↔ (b < V.heap.size ∧ V.cell? ⟨b, i, none⟩ = some u ∧ V.frozen? ⟨b, i, none⟩ = false) ∧ CsH L V := by
  unfold CsH
  rw [List.forall_mem_cons]
theorem CsH.nil (V : World) : CsH [] V := fun q hq => by cases hq
theorem CsH.app {L M : List (Nat × Nat × Value)} {V : World} (h1 : CsH L V) (h2 : CsH M V) : CsH (L ++ M) V := fun q hq => by
  rcases List.mem_append.1 hq with h | h
  · exact h1 q h
  · exact h2 q h
theorem CsH.on {L : List (Nat × Nat × Value)} {V V' : World} (h : CsH L V) (hj : Junk V V') : CsH L V' := fun q hq => by
  obtain ⟨os, d, rfl⟩ := hj
  obtain ⟨h1, h2, h3⟩ := h q hq
  exact ⟨by simp; omega, by rw [World.cell?_junk _ _ _ _ _ h1]; exact h2, by rw [World.frozen?_junk _ _ _ _ _ h1]; exact h3⟩
theorem CsH.sub {L M : List (Nat × Nat × Value)} {V : World} (h : CsH L V) (hs : ∀ q ∈ M, q ∈ L) : CsH M V := fun q hq => h q (hs q hq)
theorem CsH.keeps {g : Nat} {L : List (Nat × Nat × Value)} (h : ∀ q ∈ L, q.1 ≠ g) : Keeps g (CsH L) :=
  ⟨fun V V' hF hj => hF.on hj, fun V i v hF q hq => by
    obtain ⟨h1, h2, h3⟩ := hF q hq
    exact ⟨by simpa [World.setCell] using h1, by rw [World.cell?_setCell_other _ _ _ _ (by intro he; have he2 := congrArg Addr.block he; exact (h q hq) (by first | exact he2 | exact he2.symm))]; exact h2, by rw [World.frozen?_setCell]; exact h3⟩⟩
structure WF (L : List (Nat × Nat × Value)) where
  V : World
  h : CsH L V
theorem wp_region_mixf {P : Program} {id : Nat} {Q : Exit → Act → World → Prop} {a : Act} {w1 : World} {l : List Oper} (L : List (Nat × Nat × Value)) (π : List (Nat × Bool)) (hm : P.follows .mixedOrders = true)
    (hB : (Region.noSelect l.toArray && decide (π.length = l.length) && Region.mixB .any l.toArray π (Array.replicate l.length false)) = true) (h0 : CsH L w1)
    (h : wpMix P l.toArray (fun w' => ∃ x : WF L, w' = x.V) (fun a' w' => Q .normal a' w') π a w1.drew) : (Code.region id l.toArray true).wp P Q a w1 :=
  wp_region_mix _ π hm hB (fun w1 w2 h1 h2 => by
    obtain ⟨x, rfl⟩ := h1
    exact ⟨⟨w2, x.h.on h2⟩, rfl⟩) ⟨⟨_, h0.on (Junk.refl _).drew⟩, rfl⟩ h
theorem w2_ne {xs : Nat → Int} {i k : Nat} {v : Int} (h1 : k ≠ i) (h2 : k ≠ i + 1) : w2 xs i v k = xs k := by
  unfold w2; rw [upd_other _ _ _ _ h2, upd_other _ _ _ _ h1]
theorem w2_hi {xs : Nat → Int} {i : Nat} {v : Int} : w2 xs i v i = v / 256 := by
  unfold w2; rw [upd_other _ _ _ _ (by omega), upd_same]
theorem w2_lo {xs : Nat → Int} {i : Nat} {v : Int} : w2 xs i v (i + 1) = v % 256 := by
  unfold w2; rw [upd_same]
theorem wd_w2_ne {xs : Nat → Int} {i j : Nat} {v : Int} (h : j + 1 < i ∨ i + 1 < j) : wd (w2 xs i v) j = wd xs j := by
  unfold wd; rw [w2_ne (by omega) (by omega), w2_ne (by omega) (by omega)]
theorem rawN_w2 (xs : Nat → Int) (i : Nat) (v : Int) (n : Nat) (he : i % 2 = 0) (hn : i + 2 ≤ n) : rawN (w2 xs i v) n = rawN xs n + v - wd xs i := by
  unfold w2 wd
  rw [rawN_upd, rawN_upd, upd_other _ _ _ _ (by omega), if_pos (show i + 1 < n by omega), if_neg (show ¬ (i + 1) % 2 = 0 by omega), if_pos (show i < n by omega), if_pos he]
  omega
theorem mendI_mod {c o n : Int} (hc : 0 ≤ c ∧ c ≤ 65535) (ho : 0 ≤ o ∧ o ≤ 65535) (hn : 0 ≤ n ∧ n ≤ 65535) : (mendI c o n - (c + o - n)) % 65535 = 0 := by
  unfold mendI foldI
  split <;> omega
end Go.Proofs.YtfhkhnoiolkkdaaGreatDoor
set_option linter.unusedVariables false
set_option maxRecDepth 100000
set_option linter.unusedSimpArgs false
namespace Go.Proofs.YtfhkhnoiolkkdaaGreatDoor
open Go.RowKit
def bodyL (bb g l cap : Nat) (sum : Int) (plain : Bool) : List (Nat × Nat × Value) := [(bb, 0, .slice (some ⟨g, 0, none⟩) l cap), (bb, 1, .int .i64 sum), (bb, 2, .bool plain)]
structure BSt (L : List (Nat × Nat × Value)) (W0 V : World) (bb g l cap : Nat) (sum : Int) (plain : Bool) (xs : Nat → Int) : Prop where
  st : St (CsH (bodyL bb g l cap sum plain ++ L)) W0 V g l cap xs
  ne : ∀ q ∈ bodyL bb g l cap sum plain ++ L, q.1 ≠ g
section
variable {L : List (Nat × Nat × Value)} {W0 V V' : World} {bb g l cap : Nat} {sum : Int} {plain : Bool} {xs : Nat → Int}
theorem BSt.keeps (h : BSt L W0 V bb g l cap sum plain xs) : Keeps g (CsH (bodyL bb g l cap sum plain ++ L)) := CsH.keeps h.ne
theorem BSt.on (h : BSt L W0 V bb g l cap sum plain xs) (hj : Junk V V') : BSt L W0 V' bb g l cap sum plain xs := ⟨h.st.on h.keeps hj, h.ne⟩
theorem BSt.w2 (h : BSt L W0 V bb g l cap sum plain xs) (i : Nat) (n : Int) (hn : 0 ≤ n ∧ n ≤ 65535) :
    BSt L W0 ((V.setCell ⟨g, i, none⟩ (.int .u8 (n / 256))).setCell ⟨g, i + 1, none⟩ (.int .u8 (n % 256))) bb g l cap sum plain (w2 xs i n) :=
  ⟨(h.st.set h.keeps i (n / 256) (by omega)).set h.keeps (i + 1) (n % 256) (by omega), h.ne⟩
theorem BSt.c0 (h : BSt L W0 V bb g l cap sum plain xs) : bb < V.heap.size ∧ V.cell? ⟨bb, 0, none⟩ = some (.slice (some ⟨g, 0, none⟩) l cap) := by
  obtain ⟨h1, h2, _⟩ := h.st.f (bb, 0, .slice (some ⟨g, 0, none⟩) l cap) (by simp [bodyL])
  exact ⟨h1, h2⟩
theorem BSt.c1 (h : BSt L W0 V bb g l cap sum plain xs) : V.cell? ⟨bb, 1, none⟩ = some (.int .i64 sum) := by
  obtain ⟨_, h2, _⟩ := h.st.f (bb, 1, .int .i64 sum) (by simp [bodyL])
  exact h2
theorem BSt.c2 (h : BSt L W0 V bb g l cap sum plain xs) : V.cell? ⟨bb, 2, none⟩ = some (.bool plain) := by
  obtain ⟨_, h2, _⟩ := h.st.f (bb, 2, .bool plain) (by simp [bodyL])
  exact h2
theorem BSt.neg (h : BSt L W0 V bb g l cap sum plain xs) : bb ≠ g := h.ne (bb, 1, .int .i64 sum) (by simp [bodyL])
end
theorem bget_st {L : List (Nat × Nat × Value)} {W0 V : World} {bb g l cap : Nat} {sum : Int} {plain : Bool} {xs : Nat → Int} (h : BSt L W0 V bb g l cap sum plain xs) (i : Nat) (j : Int) (v : Int) (hv : wd xs i = v) (hj : j = (i : Int)) (hi : i + 2 ≤ l) (hl : l ≤ 100000000) :
    Calls Tryz.prog 315 #[.pointer (some ⟨bb, 0, none⟩), .int .i64 j] V fun e w' => e = .returned (.int .u16 v) ∧ Junk V w' := by
  subst hj
  obtain ⟨hs, k0⟩ := h.c0
  have hgs := h.st.gs
  have y0 := h.st.cell i (by omega)
  have y1 := h.st.cell (i + 1) (by omega)
  have b0 := h.st.b.byte i (by omega)
  have b1 := h.st.b.byte (i + 1) (by omega)
  obtain ⟨x0, hx0⟩ : ∃ x, xs i = x := ⟨_, rfl⟩
  obtain ⟨x1, hx1⟩ : ∃ x, xs (i + 1) = x := ⟨_, rfl⟩
  rw [hx0] at y0 b0
  rw [hx1] at y1 b1
  have HV := Lib.hid (show v = x0 * 256 + x1 by rw [← hv, ← hx0, ← hx1]; rfl)
  have q0 := or_u16 8 (x0 * 256) x1 (by omega) (by omega) (by omega) (by omega) (by omega) (by omega)
  have q1 := wrapk_u16 x0 (by omega) (by omega)
  have q2 := wrapk_u16 x1 (by omega) (by omega)
  have q3 := wrapk_u16 (x0 * 256) (by omega) (by omega)
  have q5 := wrapk_i64 ((i : Int) + 1) (by omega) (by omega)
  have u1 : ((i : Int) + 1).toNat = i + 1 := by omega
  have j0 : (i : Int) < (l : Int) := by omega
  have j1 : (i : Int) + 1 < (l : Int) := by omega
  have i0 : i < l := by omega
  have i1 : i + 1 < l := by omega
  have n0 : (0 : Int) ≤ (i : Int) := by omega
  have n1 : (0 : Int) ≤ (i : Int) + 1 := by omega
  rw [HV.out]
  clear hv hx0 hx1 h
  go_enter Tryz.func315, Tryz.ntmps315
  go_wp2
  refine wp_region_junk (by kernel_rfl) (by kernel_rfl) ?_; (repeat (go_big_quiet_step (first | fail))); refine wpQuiet_nil ?_; rintro _ ⟨⟨osq, dq⟩, rfl⟩
  go_wp2
  go_ret
  exact ⟨rfl, by (exact jkc)⟩
set_option maxHeartbeats 4000000 in
theorem bset_st {L : List (Nat × Nat × Value)} {W0 V : World} {bb g l cap : Nat} {sum : Int} {plain : Bool} {xs : Nat → Int} (h : BSt L W0 V bb g l cap sum plain xs) (i : Nat) (j : Int) (n : Int) (hj : j = (i : Int)) (hi : i + 2 ≤ l) (hl : l ≤ 100000000) (hn : 0 ≤ n ∧ n ≤ 65535) :
    Calls Tryz.prog 316 #[.pointer (some ⟨bb, 0, none⟩), .int .i64 j, .int .u16 n] V fun e w' => e = .returned (.tuple #[]) ∧ BSt L W0 w' bb g l cap sum plain (w2 xs i n) := by
  subst hj
  obtain ⟨hs, k0⟩ := h.c0
  have hgs := h.st.gs
  have hbg := h.neg
  have HH := Lib.hid h
  have y0 := h.st.cell i (by omega)
  have y1 := h.st.cell (i + 1) (by omega)
  have f0 := h.st.fz i (by omega)
  have f1 := h.st.fz (i + 1) (by omega)
  have HF := Lib.hid (show CsH [(bb, 0, .slice (some ⟨g, 0, none⟩) l cap)] V from h.st.f.sub (fun q hq => by simp at hq; subst hq; simp [bodyL]))
  have HK := Lib.hid (CsH.keeps (g := g) (L := [(bb, 0, .slice (some ⟨g, 0, none⟩) l cap)]) (by simp; exact hbg))
  have hq8 : ∀ x : WF [(bb, 0, .slice (some ⟨g, 0, none⟩) l cap)], x.V.cell? ⟨bb, 0, none⟩ = some (.slice (some ⟨g, 0, none⟩) l cap) := fun x => (x.h (bb, 0, .slice (some ⟨g, 0, none⟩) l cap) (by simp)).2.1
  have hq9 : ∀ x : WF [(bb, 0, .slice (some ⟨g, 0, none⟩) l cap)], bb < x.V.heap.size := fun x => (x.h (bb, 0, .slice (some ⟨g, 0, none⟩) l cap) (by simp)).1
  haveI : Inhabited (WF [(bb, 0, .slice (some ⟨g, 0, none⟩) l cap)]) := ⟨⟨V, HF.out⟩⟩
  have q1 := wrapk_u8 (n / 256) (by omega) (by omega)
  have q2 : IntKind.u8.wrap n = n % 256 := IntKind.wrap_u8 _
  have q5 := wrapk_i64 ((i : Int) + 1) (by omega) (by omega)
  have u1 : ((i : Int) + 1).toNat = i + 1 := by omega
  have j0 : (i : Int) < (l : Int) := by omega
  have j1 : (i : Int) + 1 < (l : Int) := by omega
  have i0 : i < l := by omega
  have i1 : i + 1 < l := by omega
  have n0 : (0 : Int) ≤ (i : Int) := by omega
  have n1 : (0 : Int) ≤ (i : Int) + 1 := by omega
  clear h
  go_enter Tryz.func316, Tryz.ntmps316
  refine wp_region_mixf ([(bb, 0, .slice (some ⟨g, 0, none⟩) l cap)]) [(0, true), (1, true), (2, true), (3, true), (4, true), (5, true), (6, true), (7, true), (8, true), (9, true), (10, true), (11, true), (12, true), (13, true), (14, true), (15, true), (16, true), (17, false), (18, true), (19, false)] (by kernel_rfl) (by kernel_rfl) (HF.out) ?_; (iterate 17 (refine wpMix_q rfl (fun K hK => ?_); (go_simp; try go_bits); (refine hK _ ?_; clear hK K))); refine wpMix_e rfl (fun osm0_0 dm0_0 K hK => ?_); (go_simp; try go_bits); refine hK _ _ (⟨⟨_, by (repeat (first | exact HF.out | refine CsH.on ?_ ⟨_, _, rfl⟩ | refine HK.out.set _ _ _ ?_))⟩, rfl⟩) ?_; clear hK K; (iterate 1 (refine wpMix_q rfl (fun K hK => ?_); (go_simp; try go_bits); (refine hK _ ?_; clear hK K))); refine wpMix_e rfl (fun osm0_1 dm0_1 K hK => ?_); (go_simp; try go_bits); refine hK _ _ (⟨⟨_, by (repeat (first | exact HF.out | refine CsH.on ?_ ⟨_, _, rfl⟩ | refine HK.out.set _ _ _ ?_))⟩, rfl⟩) ?_; clear hK K; refine wpMix_nil (fun osm dm => ?_)
  go_wp2
  go_returns
  exact ⟨rfl, (HH.out.w2 i n hn).on (by (exact jkc))⟩
end Go.Proofs.YtfhkhnoiolkkdaaGreatDoor
set_option linter.unusedVariables false
set_option maxRecDepth 100000
namespace Go
section
variable {P : Program} {ops : Array Oper} {md : Region.Mode} {D : World → Prop} {last : Nat}
def wpAnyL (P : Program) (md : Region.Mode) (ops : Array Oper) (D : World → Prop) (last : Nat) (Q : Act → World → Prop) : Nat → Array Bool → Act → World → Prop
  | 0, listed, a, w => Region.ready md ops listed = [] ∧ ∀ w', Junk w w' → Q a w'
  | f + 1, listed, a, w => (Region.ready md ops listed = [] → ∀ w', Junk w w' → Q a w') ∧
    ∀ i ∈ Region.ready md ops listed, ∀ w', Junk w w' → wpE P ops i (fun a' w'' => (i = last ∨ D w'') ∧ wpAnyL P md ops D last Q f (listed.setIfInBounds i true) a' w'') a w'
theorem wpAnyL_junk {Q : Act → World → Prop} : ∀ {f : Nat} {listed : Array Bool} {a : Act} {w w' : World}, Junk w w' → wpAnyL P md ops D last Q f listed a w → wpAnyL P md ops D last Q f listed a w'
  | 0, _, _, _, _, hj, h => ⟨h.1, fun _ h' => h.2 _ (hj.trans h')⟩
  | _ + 1, _, _, _, _, hj, h => ⟨fun h0 _ h' => h.1 h0 _ (hj.trans h'), fun i hi _ h' => h.2 i hi _ (hj.trans h')⟩
theorem wpAny_of_L {Q : Act → World → Prop} {Q' : Exit → Act → World → Prop} (hQ : ∀ a w, Q a w → Q' .normal a w) : ∀ (f : Nat) (listed : Array Bool) (a : Act) (w : World), wpAnyL P md ops D last Q f listed a w → wpAny P md ops Q' f listed a w
  | 0, _, _, _, h => ⟨h.1, hQ _ _ (h.2 _ (Junk.refl _))⟩
  | f + 1, _, _, _, h => ⟨fun h0 => hQ _ _ (h.1 h0 _ (Junk.refl _)), fun i hi => wpOp_mono (fun a' w' h' => wpAny_of_L hQ f _ a' w' h'.2) (wpOp_of_wpE (h.2 i hi _ (Junk.refl _)))⟩
def Region.Closed (md : Region.Mode) (ops : Array Oper) (listed : Array Bool) : Prop :=
  ∀ j oj, ops[j]? = some oj → listed.getD j false = true → ∀ e ∈ oj.after, Region.binds md e = true → listed.getD e.on false = true
theorem getD_set_keep {listed : Array Bool} {i j : Nat} (h : listed.getD j false = true) : (listed.setIfInBounds i true).getD j false = true := by
  by_cases hij : i = j
  · subst hij
    have hlt : i < listed.size := by
      rcases Nat.lt_or_ge i listed.size with h' | h'
      · exact h'
      · simp [Array.getElem?_eq_none h'] at h
    simp [hlt]
  · rwa [getD_set_ne false hij]
theorem Region.Closed.set {listed : Array Bool} {i : Nat} (h : Region.Closed md ops listed) (hr : i ∈ Region.ready md ops listed) : Region.Closed md ops (listed.setIfInBounds i true) := by
  intro j oj hj hl e he hb
  by_cases hij : i = j
  · subst hij
    obtain ⟨_, o, ho, hall⟩ := mem_ready.1 hr
    rw [hj] at ho
    cases ho
    exact getD_set_keep (hall e he hb)
  · rw [getD_set_ne false hij] at hl
    exact getD_set_keep (h j oj hj hl e he hb)
theorem Region.Closed.none (n : Nat) : Region.Closed md ops (Array.replicate n false) := by
  intro j oj hj hl
  exfalso
  by_cases h : j < n <;> simp [h] at hl
def Region.lastB (md : Region.Mode) (ops : Array Oper) (last : Nat) : Bool :=
  match ops[last]? with
  | none => false
  | some o => (List.range ops.size).all fun i => i == last || (o.after.any fun e => Region.binds md e && e.on == i) ||
      o.after.any fun e => Region.binds md e && match ops[e.on]? with | none => false | some m => m.after.any fun f => Region.binds md f && f.on == i
theorem Region.lastB_spec (h : Region.lastB md ops last = true) {listed : Array Bool} {i : Nat} (hc : Region.Closed md ops listed) (hr : last ∈ Region.ready md ops listed) (hi : i ≠ last) (his : i < ops.size) : listed.getD i false = true := by
  unfold Region.lastB at h
  obtain ⟨_, o, ho, hall⟩ := mem_ready.1 hr
  simp only [ho, List.all_eq_true, List.mem_range, Bool.or_eq_true, beq_iff_eq, Array.any_eq_true', Bool.and_eq_true] at h
  rcases h i his with (h1 | ⟨e, he, hb, he2⟩) | ⟨e, he, hb, he2⟩
  · exact absurd h1 hi
  · rw [← he2]; exact hall e he hb
  · cases hm : ops[e.on]? with
    | none => simp [hm] at he2
    | some m =>
      simp only [hm, Array.any_eq_true', Bool.and_eq_true, beq_iff_eq] at he2
      obtain ⟨f, hf, hfb, hf2⟩ := he2
      rw [← hf2]
      exact hc _ m hm (hall e he hb) f hf hfb
theorem wpAnyL_first (hcl : ∀ w w', D w → Junk w w' → D w') {Q : Act → World → Prop} {i : Nat} {oi : Oper} {v : Value} (hi : ops[i]? = some oi) (hsel : ∀ (j : Nat) (o : Oper) cs b, ops[j]? = some o → o.op ≠ .select cs b) (hlast : Region.lastB md ops last = true) (hil : i ≠ last) :
    ∀ (f : Nat) (listed : Array Bool) (a : Act) (w : World),
      (∀ j oj, ops[j]? = some oj → j ≠ i → listed.getD j true = false → (∀ e ∈ oj.after, Region.binds md e = true → e.on ≠ i) → oi.apart ops oj = true) →
      i ∈ Region.ready md ops listed → Region.Closed md ops listed → YieldsJ P ops D oi v a → D w →
      wpAnyL P md ops D last Q f (listed.setIfInBounds i true) (a.put oi.dst v) w → wpAnyL P md ops D last Q (f + 1) listed a w := by
  intro f
  induction f with
  | zero =>
    intro listed a w _ hr hcs hy hD H
    refine ⟨fun h => (by rw [h] at hr; cases hr), fun j hj w' hw' => ?_⟩
    by_cases hji : j = i
    · subst hji; exact hy.wpE hi (hcl _ _ hD hw') fun w'' hw'' => ⟨.inr (hcl _ _ (hcl _ _ hD hw') hw''), wpAnyL_junk (hw'.trans hw'') H⟩
    · have := ready_mono hj hji
      rw [H.1] at this
      cases this
  | succ f ih =>
    intro listed a w hfree hr hcs hy hD H
    refine ⟨fun h => (by rw [h] at hr; cases hr), fun j hj w' hw' => ?_⟩
    by_cases hji : j = i
    · subst hji; exact hy.wpE hi (hcl _ _ hD hw') fun w'' hw'' => ⟨.inr (hcl _ _ (hcl _ _ hD hw') hw''), wpAnyL_junk (hw'.trans hw'') H⟩
    · have hjl : j ≠ last := fun h => by
        subst h
        have h0 := (mem_ready.1 hr).1
        have h1 := Region.lastB_spec hlast hcs hj hil (Array.getElem?_eq_some_iff.1 hi).1
        rcases Nat.lt_or_ge i listed.size with h' | h'
        · simp [h'] at h0 h1; rw [h0] at h1; cases h1
        · simp [Array.getElem?_eq_none h'] at h1
      have h1 := H.2 j (ready_mono hj hji) w' hw'
      obtain ⟨hjun, oj, hoj, hall⟩ := mem_ready.1 hj
      have hnot : ∀ e ∈ oj.after, Region.binds md e = true → e.on ≠ i := fun e he hb heq => by
        have h1 := hall e he hb
        have h0 := (mem_ready.1 hr).1
        rw [heq] at h1
        rcases Nat.lt_or_ge i listed.size with h' | h'
        · simp [h'] at h0 h1; rw [h0] at h1; cases h1
        · simp [Array.getElem?_eq_none h'] at h1
      have h2 := wpE_put hoj (hfree j oj hoj hji hjun hnot) (fun cs b => hsel i oi cs b hi) (fun cs b => hsel j oj cs b hoj) hy h1
      have hfree' : ∀ k ok, ops[k]? = some ok → k ≠ i → (listed.setIfInBounds j true).getD k true = false →
          (∀ e ∈ ok.after, Region.binds md e = true → e.on ≠ i) → oi.apart ops ok = true := fun k ok hk hki hun hno => by
        refine hfree k ok hk hki ?_ hno
        by_cases hjk : j = k
        · subst hjk; exact hjun
        · rw [getD_set_ne true hjk] at hun; exact hun
      refine wpE_mono (fun a' w'' h3 => ⟨h3.2.1, ih (listed.setIfInBounds j true) a' w'' hfree' (ready_mono hr (Ne.symm hji)) (hcs.set hj) h3.1 (h3.2.1.resolve_left hjl) ?_⟩) h2
      rw [Array.setIfInBounds_comm _ _ hji]
      exact h3.2.2
def wpMixL (P : Program) (ops : Array Oper) (D : World → Prop) (last : Nat) (Q : Act → World → Prop) : List (Nat × Bool) → Act → World → Prop
  | [], a, w => ∀ w', Junk w w' → Q a w'
  | (k, true) :: r, a, w => match ops[k]? with
    | none => False
    | some o => if Region.wanted o (yielded ops a.tmps) then ∃ v, (∀ w, D w → o.quietAt P a (Junk w) w v) ∧ wpMixL P ops D last Q r (a.put o.dst v) w else wpMixL P ops D last Q r (a.put o.dst undef) w
  | (k, false) :: r, a, w => ∀ w', Junk w w' → wpE P ops k (fun a' w'' => (k = last ∨ D w'') ∧ wpMixL P ops D last Q r a' w'') a w'
theorem wpMixL_q {Q : Act → World → Prop} {k : Nat} {r : List (Nat × Bool)} {o : Oper} {a : Act} {w : World} (ho : ops[k]? = some o)
    (h : ∀ K : Act → Prop, (∀ a, wpMixL P ops D last Q r a w → K a) → if Region.wanted o (yielded ops a.tmps) then ∃ v, (∀ w, D w → o.quietAt P a (Junk w) w v) ∧ K (a.put o.dst v) else K (a.put o.dst undef)) :
    wpMixL P ops D last Q ((k, true) :: r) a w := by
  unfold wpMixL
  simp only [ho]
  exact h _ (fun _ h => h)
theorem wpMixL_e {Q : Act → World → Prop} {k : Nat} {r : List (Nat × Bool)} {o : Oper} {a : Act} {w : World} (ho : ops[k]? = some o)
    (h : ∀ os d, ∀ K : Act → World → Prop, (∀ a w', D w' → wpMixL P ops D last Q r a w' → K a w') → if Region.wanted o (yielded ops a.tmps) then o.wp P a (w.junk os d) K NoExit else K (a.put o.dst undef) (w.junk os d)) :
    wpMixL P ops D last Q ((k, false) :: r) a w := by
  unfold wpMixL
  rintro w' ⟨os, d, rfl⟩
  unfold wpE
  simp only [ho]
  exact h os d _ (fun _ _ hd h => ⟨.inr hd, h⟩)
theorem wpMixL_last {Q : Act → World → Prop} {o : Oper} {r : List (Nat × Bool)} {a : Act} {w : World} (ho : ops[last]? = some o)
    (h : ∀ os d, ∀ K : Act → World → Prop, (∀ a w', wpMixL P ops D last Q r a w' → K a w') → if Region.wanted o (yielded ops a.tmps) then o.wp P a (w.junk os d) K NoExit else K (a.put o.dst undef) (w.junk os d)) :
    wpMixL P ops D last Q ((last, false) :: r) a w := by
  unfold wpMixL
  rintro w' ⟨os, d, rfl⟩
  unfold wpE
  simp only [ho]
  exact h os d _ (fun _ _ h => ⟨by simp, h⟩)
theorem wpMixL_nil {Q : Act → World → Prop} {a : Act} {w : World} (h : ∀ os d, Q a (w.junk os d)) : wpMixL P ops D last Q [] a w := by
  rintro w' ⟨os, d, rfl⟩
  exact h os d
theorem wpMixL_e1 {Q : Act → World → Prop} {k : Nat} {r : List (Nat × Bool)} {o : Oper} {a : Act} {w : World} (ho : ops[k]? = some o) (hg : o.guard = none)
    (h : ∀ os d, ∀ K : Act → World → Prop, (∀ a w', D w' → wpMixL P ops D last Q r a w' → K a w') → o.wp P a (w.junk os d) K NoExit) :
    wpMixL P ops D last Q ((k, false) :: r) a w :=
  wpMixL_e ho fun os d K hK => by
    have hw : Region.wanted o (yielded ops a.tmps) = true := by simp [Region.wanted, hg]
    rw [if_pos hw]
    exact h os d K hK
def Region.endsB (last : Nat) : List (Nat × Bool) → Bool
  | [] => true
  | [(k, q)] => !q || k != last
  | (k, _) :: r => k != last && Region.endsB last r
theorem wpAnyL_mix (hcl : ∀ w w', D w → Junk w w' → D w') {Q : Act → World → Prop} (hsel : Region.noSelect ops = true) (hlast : Region.lastB md ops last = true) : ∀ (π : List (Nat × Bool)) (listed : Array Bool) (a : Act) (w : World),
    Region.mixB md ops π listed = true → Region.endsB last π = true → Region.Closed md ops listed → (π = [] ∨ D w) → wpMixL P ops D last Q π a w → wpAnyL P md ops D last Q π.length listed a w
  | [], _, _, _, hB, _, _, _, h => ⟨by simpa [Region.mixB] using hB, h⟩
  | (k, true) :: r, listed, a, w, hB, hE, hcs, hD, h => by
    have hD := hD.resolve_left (by simp)
    simp only [Region.mixB, if_true, Bool.and_eq_true] at hB
    obtain ⟨⟨hr, hf⟩, hB'⟩ := hB
    have hkl : k ≠ last ∧ Region.endsB last r = true := by
      cases r with
      | nil => simpa [Region.endsB] using hE
      | cons x r => simpa [Region.endsB] using hE
    unfold wpMixL at h
    split at h
    · exact h.elim
    · rename_i o ho
      have hk : ∃ v, YieldsJ P ops D o v a ∧ wpMixL P ops D last Q r (a.put o.dst v) w := by
        split at h
        · rename_i hw; obtain ⟨v, h1, h2⟩ := h; exact ⟨v, .inl ⟨hw, h1⟩, h2⟩
        · rename_i hw; exact ⟨undef, .inr ⟨by simpa using hw, rfl⟩, h⟩
      obtain ⟨v, hy, h2⟩ := hk
      exact wpAnyL_first hcl ho (Region.noSelect_spec hsel) hlast hkl.1 r.length listed a w (Region.free_spec ho hf) (by simpa using hr) hcs hy hD (wpAnyL_mix hcl hsel hlast r _ _ w hB' hkl.2 (hcs.set (by simpa using hr)) (.inr hD) h2)
  | (k, false) :: r, listed, a, w, hB, hE, hcs, hD, h => by
    simp only [Region.mixB, Bool.false_eq_true, if_false, Bool.and_eq_true, decide_eq_true_eq] at hB
    obtain ⟨hr, hB'⟩ := hB
    have hE' : Region.endsB last r = true ∧ (r = [] ∨ k ≠ last) := by
      cases r with
      | nil => simp [Region.endsB]
      | cons x r => simp only [Region.endsB, Bool.and_eq_true, bne_iff_ne] at hE; exact ⟨hE.2, .inr hE.1⟩
    unfold wpMixL at h
    refine ⟨fun h0 => (by rw [hr] at h0; cases h0), fun i hi w' hw' => ?_⟩
    rw [hr] at hi
    obtain rfl : i = k := by simpa using hi
    exact wpE_mono (fun a' w'' h' => ⟨h'.1, wpAnyL_mix hcl hsel hlast r _ a' w'' hB' hE'.1 (hcs.set (by rw [hr]; simp)) (hE'.2.elim .inl fun hne => .inr (h'.1.resolve_left hne)) h'.2⟩) (h w' hw')
theorem wp_region_mixl {id : Nat} {Q : Exit → Act → World → Prop} {a : Act} {w1 : World} {l : List Oper} (w : World) (last : Nat) (π : List (Nat × Bool)) (hm : P.follows .mixedOrders = true)
    (hB : (Region.noSelect l.toArray && decide (π.length = l.length) && Region.mixB .any l.toArray π (Array.replicate l.length false) && Region.lastB .any l.toArray last && Region.endsB last π) = true) (hj : Junk w w1)
    (h : wpMixL P l.toArray (fun w' => ∃ x : Jk, w' = w.junk x.os x.d) last (fun a' w' => Q .normal a' w') π a w1.drew) : (Code.region id l.toArray true).wp P Q a w1 := by
  simp only [Bool.and_eq_true, decide_eq_true_eq] at hB
  refine wp_region_any hm (wpAny_of_L (D := fun w' => ∃ x : Jk, w' = w.junk x.os x.d) (last := last) (Q := fun a' w' => Q .normal a' w') (fun _ _ h => h) _ _ _ _ ?_)
  have := wpAnyL_mix (P := P) (md := .any) (D := fun w' => ∃ x : Jk, w' = w.junk x.os x.d) (last := last) (fun _ _ h1 h2 => InJunk.on (w := w) h1 h2) hB.1.1.1.1 hB.1.2 π _ a w1.drew hB.1.1.2 hB.2 (Region.Closed.none _) (.inr hj.drew.pair) h
  rw [hB.1.1.1.2] at this
  simpa using this
end
end Go
set_option linter.unusedVariables false
set_option maxRecDepth 100000
namespace Go
section
variable {P : Program} {ops : Array Oper} {md : Region.Mode} {D : World → Prop} {last : Nat}
def Region.downB (md : Region.Mode) (ops : Array Oper) : Nat → Nat → Nat → Bool
  | 0, _, _ => false
  | f + 1, i, k => match ops[k]? with
    | none => false
    | some o => o.after.any fun e => Region.binds md e && (e.on == i || Region.downB md ops f i e.on)
def Region.lastT (md : Region.Mode) (ops : Array Oper) (last : Nat) : Bool := (List.range ops.size).all fun i => i == last || Region.downB md ops ops.size i last
theorem Region.downB_listed {listed : Array Bool} {i : Nat} (hc : Region.Closed md ops listed) : ∀ (f k : Nat), (∀ o, ops[k]? = some o → ∀ e ∈ o.after, Region.binds md e = true → listed.getD e.on false = true) → Region.downB md ops f i k = true → listed.getD i false = true
  | 0, _, _, h => by cases h
  | f + 1, k, hk, h => by
    unfold Region.downB at h
    cases hm : ops[k]? with
    | none => simp [hm] at h
    | some o =>
      simp only [hm, Array.any_eq_true', Bool.and_eq_true, Bool.or_eq_true, beq_iff_eq] at h
      obtain ⟨e, he, hb, h1 | h1⟩ := h
      · rw [← h1]; exact hk o hm e he hb
      · exact Region.downB_listed hc f e.on (fun o' ho' e' he' hb' => hc _ o' ho' (hk o hm e he hb) e' he' hb') h1
theorem Region.lastT_spec (h : Region.lastT md ops last = true) {listed : Array Bool} {i : Nat} (hc : Region.Closed md ops listed) (hr : last ∈ Region.ready md ops listed) (hi : i ≠ last) (his : i < ops.size) : listed.getD i false = true := by
  unfold Region.lastT at h
  obtain ⟨_, o, ho, hall⟩ := mem_ready.1 hr
  simp only [List.all_eq_true, List.mem_range, Bool.or_eq_true, beq_iff_eq] at h
  rcases h i his with h1 | h1
  · exact absurd h1 hi
  · refine Region.downB_listed hc _ last (fun o' ho' e he hb => ?_) h1
    rw [ho] at ho'
    cases ho'
    exact hall e he hb
theorem wpAnyT_first (hcl : ∀ w w', D w → Junk w w' → D w') {Q : Act → World → Prop} {i : Nat} {oi : Oper} {v : Value} (hi : ops[i]? = some oi) (hsel : ∀ (j : Nat) (o : Oper) cs b, ops[j]? = some o → o.op ≠ .select cs b) (hlast : Region.lastT md ops last = true) (hil : i ≠ last) :
    ∀ (f : Nat) (listed : Array Bool) (a : Act) (w : World),
      (∀ j oj, ops[j]? = some oj → j ≠ i → listed.getD j true = false → (∀ e ∈ oj.after, Region.binds md e = true → e.on ≠ i) → oi.apart ops oj = true) →
      i ∈ Region.ready md ops listed → Region.Closed md ops listed → YieldsJ P ops D oi v a → D w →
      wpAnyL P md ops D last Q f (listed.setIfInBounds i true) (a.put oi.dst v) w → wpAnyL P md ops D last Q (f + 1) listed a w := by
  intro f
  induction f with
  | zero =>
    intro listed a w _ hr hcs hy hD H
    refine ⟨fun h => (by rw [h] at hr; cases hr), fun j hj w' hw' => ?_⟩
    by_cases hji : j = i
    · subst hji; exact hy.wpE hi (hcl _ _ hD hw') fun w'' hw'' => ⟨.inr (hcl _ _ (hcl _ _ hD hw') hw''), wpAnyL_junk (hw'.trans hw'') H⟩
    · have := ready_mono hj hji
      rw [H.1] at this
      cases this
  | succ f ih =>
    intro listed a w hfree hr hcs hy hD H
    refine ⟨fun h => (by rw [h] at hr; cases hr), fun j hj w' hw' => ?_⟩
    by_cases hji : j = i
    · subst hji; exact hy.wpE hi (hcl _ _ hD hw') fun w'' hw'' => ⟨.inr (hcl _ _ (hcl _ _ hD hw') hw''), wpAnyL_junk (hw'.trans hw'') H⟩
    · have hjl : j ≠ last := fun h => by
        subst h
        have h0 := (mem_ready.1 hr).1
        have h1 := Region.lastT_spec hlast hcs hj hil (Array.getElem?_eq_some_iff.1 hi).1
        rcases Nat.lt_or_ge i listed.size with h' | h'
        · simp [h'] at h0 h1; rw [h0] at h1; cases h1
        · simp [Array.getElem?_eq_none h'] at h1
      have h1 := H.2 j (ready_mono hj hji) w' hw'
      obtain ⟨hjun, oj, hoj, hall⟩ := mem_ready.1 hj
      have hnot : ∀ e ∈ oj.after, Region.binds md e = true → e.on ≠ i := fun e he hb heq => by
        have h1 := hall e he hb
        have h0 := (mem_ready.1 hr).1
        rw [heq] at h1
        rcases Nat.lt_or_ge i listed.size with h' | h'
        · simp [h'] at h0 h1; rw [h0] at h1; cases h1
        · simp [Array.getElem?_eq_none h'] at h1
      have h2 := wpE_put hoj (hfree j oj hoj hji hjun hnot) (fun cs b => hsel i oi cs b hi) (fun cs b => hsel j oj cs b hoj) hy h1
      have hfree' : ∀ k ok, ops[k]? = some ok → k ≠ i → (listed.setIfInBounds j true).getD k true = false →
          (∀ e ∈ ok.after, Region.binds md e = true → e.on ≠ i) → oi.apart ops ok = true := fun k ok hk hki hun hno => by
        refine hfree k ok hk hki ?_ hno
        by_cases hjk : j = k
        · subst hjk; exact hjun
        · rw [getD_set_ne true hjk] at hun; exact hun
      refine wpE_mono (fun a' w'' h3 => ⟨h3.2.1, ih (listed.setIfInBounds j true) a' w'' hfree' (ready_mono hr (Ne.symm hji)) (hcs.set hj) h3.1 (h3.2.1.resolve_left hjl) ?_⟩) h2
      rw [Array.setIfInBounds_comm _ _ hji]
      exact h3.2.2
theorem wpAnyT_mix (hcl : ∀ w w', D w → Junk w w' → D w') {Q : Act → World → Prop} (hsel : Region.noSelect ops = true) (hlast : Region.lastT md ops last = true) : ∀ (π : List (Nat × Bool)) (listed : Array Bool) (a : Act) (w : World),
    Region.mixB md ops π listed = true → Region.endsB last π = true → Region.Closed md ops listed → (π = [] ∨ D w) → wpMixL P ops D last Q π a w → wpAnyL P md ops D last Q π.length listed a w
  | [], _, _, _, hB, _, _, _, h => ⟨by simpa [Region.mixB] using hB, h⟩
  | (k, true) :: r, listed, a, w, hB, hE, hcs, hD, h => by
    have hD := hD.resolve_left (by simp)
    simp only [Region.mixB, if_true, Bool.and_eq_true] at hB
    obtain ⟨⟨hr, hf⟩, hB'⟩ := hB
    have hkl : k ≠ last ∧ Region.endsB last r = true := by
      cases r with
      | nil => simpa [Region.endsB] using hE
      | cons x r => simpa [Region.endsB] using hE
    unfold wpMixL at h
    split at h
    · exact h.elim
    · rename_i o ho
      have hk : ∃ v, YieldsJ P ops D o v a ∧ wpMixL P ops D last Q r (a.put o.dst v) w := by
        split at h
        · rename_i hw; obtain ⟨v, h1, h2⟩ := h; exact ⟨v, .inl ⟨hw, h1⟩, h2⟩
        · rename_i hw; exact ⟨undef, .inr ⟨by simpa using hw, rfl⟩, h⟩
      obtain ⟨v, hy, h2⟩ := hk
      exact wpAnyT_first hcl ho (Region.noSelect_spec hsel) hlast hkl.1 r.length listed a w (Region.free_spec ho hf) (by simpa using hr) hcs hy hD (wpAnyT_mix hcl hsel hlast r _ _ w hB' hkl.2 (hcs.set (by simpa using hr)) (.inr hD) h2)
  | (k, false) :: r, listed, a, w, hB, hE, hcs, hD, h => by
    simp only [Region.mixB, Bool.false_eq_true, if_false, Bool.and_eq_true, decide_eq_true_eq] at hB
    obtain ⟨hr, hB'⟩ := hB
    have hE' : Region.endsB last r = true ∧ (r = [] ∨ k ≠ last) := by
      cases r with
      | nil => simp [Region.endsB]
      | cons x r => simp only [Region.endsB, Bool.and_eq_true, bne_iff_ne] at hE; exact ⟨hE.2, .inr hE.1⟩
    unfold wpMixL at h
    refine ⟨fun h0 => (by rw [hr] at h0; cases h0), fun i hi w' hw' => ?_⟩
    rw [hr] at hi
    obtain rfl : i = k := by simpa using hi
    exact wpE_mono (fun a' w'' h' => ⟨h'.1, wpAnyT_mix hcl hsel hlast r _ a' w'' hB' hE'.1 (hcs.set (by rw [hr]; simp)) (hE'.2.elim .inl fun hne => .inr (h'.1.resolve_left hne)) h'.2⟩) (h w' hw')
theorem wp_region_mixn {id : Nat} {Q : Exit → Act → World → Prop} {a : Act} {w1 : World} {l : List Oper} (w : World) (last : Nat) (π : List (Nat × Bool)) (hm : P.follows .mixedOrders = true)
    (hB : (Region.noSelect l.toArray && decide (π.length = l.length) && Region.mixB .any l.toArray π (Array.replicate l.length false) && Region.lastT .any l.toArray last && Region.endsB last π) = true) (hj : Junk w w1)
    (h : wpMixL P l.toArray (fun w' => ∃ x : Jk, w' = w.junk x.os x.d) last (fun a' w' => Q .normal a' w') π a w1.drew) : (Code.region id l.toArray true).wp P Q a w1 := by
  simp only [Bool.and_eq_true, decide_eq_true_eq] at hB
  refine wp_region_any hm (wpAny_of_L (D := fun w' => ∃ x : Jk, w' = w.junk x.os x.d) (last := last) (Q := fun a' w' => Q .normal a' w') (fun _ _ h => h) _ _ _ _ ?_)
  have := wpAnyT_mix (P := P) (md := .any) (D := fun w' => ∃ x : Jk, w' = w.junk x.os x.d) (last := last) (fun _ _ h1 h2 => InJunk.on (w := w) h1 h2) hB.1.1.1.1 hB.1.2 π _ a w1.drew hB.1.1.2 hB.2 (Region.Closed.none _) (.inr hj.drew.pair) h
  rw [hB.1.1.1.2] at this
  simpa using this
end
end Go
set_option linter.unusedVariables false
set_option maxRecDepth 100000
set_option linter.unusedSimpArgs false
namespace Go.Proofs.YtfhkhnoiolkkdaaGreatDoor
open Go.RowKit
structure Tup where
  proto : Int
  src : Int
  sport : Int
  dst : Int
  dport : Int
deriving DecidableEq
structure TupWf (t : Tup) : Prop where
  src : 0 ≤ t.src ∧ t.src ≤ 4294967295
  dst : 0 ≤ t.dst ∧ t.dst ≤ 4294967295
def portB (n : Int) : Bool := decide (0 ≤ n) && decide (n ≤ 65535)
def tupRight (t : Tup) : Bool := decide (0 ≤ t.proto) && decide (t.proto ≤ 255) && portB t.sport && portB t.dport
def sideL (a p : Int) : List Int := [a / 16777216, a / 65536 % 256, a / 256 % 256, a % 256, p / 256 % 256, p % 256]
def tupRaw (t : Tup) : List Int := t.proto % 256 :: (sideL t.src t.sport ++ sideL t.dst t.dport)
theorem tupRaw_byte {t : Tup} (h : TupWf t) : ∀ x ∈ tupRaw t, 0 ≤ x ∧ x ≤ 255 := by
  intro x hx
  have h1 := h.src
  have h2 := h.dst
  simp only [tupRaw, sideL, List.cons_append, List.nil_append, List.mem_cons, List.not_mem_nil, or_false] at hx
  omega
def hashStep (h c : Int) : Int := ((h.toNat ^^^ c.toNat : Nat) : Int) * 16777619 % 4294967296
def tupHash (t : Tup) (seed : Int) : Int := (tupRaw t).foldl hashStep ((2166136261 ^^^ seed.toNat : Nat) : Int)
end Go.Proofs.YtfhkhnoiolkkdaaGreatDoor
set_option linter.unusedVariables false
set_option maxRecDepth 100000
set_option linter.unusedSimpArgs false
namespace Go.Proofs.YtfhkhnoiolkkdaaGreatDoor
open Go.RowKit
theorem tupq_equalIn (x y : Tup) (w : World) : (Op.equalIn 10000 38 (.agg #[.int .i64 x.proto, .int .u32 x.src, .int .i64 x.sport, .int .u32 x.dst, .int .i64 x.dport]) (.agg #[.int .i64 y.proto, .int .u32 y.src, .int .i64 y.sport, .int .u32 y.dst, .int .i64 y.dport])).run Tryz.prog w = .ok (decide (x = y)) w := by
  have u3 := Tryz.underlying3
  have a3 := Tryz.isAgg3
  have z3 := Tryz.sizeOf3
  have u4 := Tryz.underlying30
  have a4 := Tryz.isAgg30
  have z4 := Tryz.sizeOf30
  have hS : Tryz.prog.underlying 38 = some (.struct (Tryz.prog.fieldsOf 38)) := by kernel_rfl
  have hp : Tryz.prog.stoodInHeld 38 = false := by kernel_rfl
  rw [show (10000 : Nat) = 9999 + 1 from rfl, run_equalIn_agg w 9999 38 _ _ hS hp]
  simp only [Program.fieldsOf, Tryz.underlying38]
  obtain ⟨xp, xi, xn, xo, xt⟩ := x
  obtain ⟨yp, yi, yn, yo, yt⟩ := y
  go_simp
  by_cases h1 : xp = yp <;> by_cases h2 : xi = yi <;> by_cases h3 : xn = yn <;> by_cases h4 : xo = yo <;> by_cases h5 : xt = yt <;> simp [h1, h2, h3, h4, h5]
theorem tupq_eql (x y : Tup) (w : World) : (binOp .eql 38 (.agg #[.int .i64 x.proto, .int .u32 x.src, .int .i64 x.sport, .int .u32 x.dst, .int .i64 x.dport]) (.agg #[.int .i64 y.proto, .int .u32 y.src, .int .i64 y.sport, .int .u32 y.dst, .int .i64 y.dport])).run Tryz.prog w = .ok (.bool (decide (x = y))) w := by
  rw [run_eql_struct, tupq_equalIn]; rfl
end Go.Proofs.YtfhkhnoiolkkdaaGreatDoor
set_option linter.unusedVariables false
set_option maxRecDepth 100000
set_option linter.unusedSimpArgs false
namespace Go.Proofs.YtfhkhnoiolkkdaaGreatDoor
open Go.RowKit
theorem t_bts_cell {w : World} {b off l c : Nat} {xs : Nat → Int} (h : Bts w (some ⟨b, off, none⟩) l c xs) (i : Nat) (hi : i < l) : b < w.heap.size ∧ w.cell? ⟨b, off + i, none⟩ = some (.int .u8 (xs i)) := by
  obtain ⟨b', off', he, h1, h2⟩ := h.at_ i hi
  cases he
  exact ⟨h1, h2⟩
theorem cjoin_any (a b : Int) (w : World) (ha : 0 ≤ a ∧ a ≤ 65535) (hb : 0 ≤ b ∧ b ≤ 65535) :
    Calls Tryz.prog 91 #[.int .u16 a, .int .u16 b] w fun e w' => e = .returned (.int .u16 (foldI (a + b))) ∧ w = w' := by
  go_enter Tryz.func91, Tryz.ntmps91
  go_wp2_with (first | (go_at_call 159; refine (fold_any _ _ (by omega) (by omega)).mono ?_; rintro e w' ⟨rfl, rfl⟩))
  go_ret
  exact ⟨rfl, rfl⟩
def pseudoN (src dst proto size : Int) : Int := src / 65536 + src % 65536 + dst / 65536 + dst % 65536 + proto + size
set_option maxHeartbeats 400000 in
theorem cpseudo_any (src dst proto size : Int) (w : World) (h1 : 0 ≤ src ∧ src ≤ 4294967295) (h2 : 0 ≤ dst ∧ dst ≤ 4294967295) (h3 : 0 ≤ proto ∧ proto ≤ 65535) (h4 : 0 ≤ size ∧ size ≤ 65535) :
    Calls Tryz.prog 92 #[.int .u32 src, .int .u32 dst, .int .i64 proto, .int .i64 size] w fun e w' => e = .returned (.int .u16 (foldI (pseudoN src dst proto size))) ∧ w = w' := by
  have q0 := and_u32_16 src (by omega) (by omega)
  have q1 := and_u32_16 dst (by omega) (by omega)
  go_enter Tryz.func92, Tryz.ntmps92
  go_wp2_with (first | (go_at_call 159; refine (fold_any _ _ (by omega) (by omega)).mono ?_; rintro e w' ⟨rfl, rfl⟩))
  go_ret
  exact ⟨rfl, rfl⟩
theorem foldI_add {a b : Int} (ha : 0 ≤ a) (hb : 0 ≤ b) : foldI (foldI a + foldI b) = foldI (a + b) := by
  unfold foldI
  by_cases h0 : a = 0
  · subst h0
    by_cases h1 : b = 0
    · subst h1; rfl
    · simp only [if_true]
      rw [if_neg h1, if_neg (by omega), if_neg (by omega)]
      omega
  · by_cases h1 : b = 0
    · subst h1
      simp only [if_true]
      rw [if_neg h0, if_neg (by omega), if_neg (by omega)]
      omega
    · rw [if_neg h0, if_neg h1, if_neg (by omega), if_neg (by omega)]
      omega
theorem pseudoN_bd {src dst proto size : Int} (h1 : 0 ≤ src ∧ src ≤ 4294967295) (h2 : 0 ≤ dst ∧ dst ≤ 4294967295) (h3 : 0 ≤ proto ∧ proto ≤ 65535) (h4 : 0 ≤ size ∧ size ≤ 65535) : 0 ≤ pseudoN src dst proto size := by unfold pseudoN; omega
end Go.Proofs.YtfhkhnoiolkkdaaGreatDoor
