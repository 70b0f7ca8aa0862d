/- The contract of ip.Put. -/
import Derived.Test.YtgjppmkadmfibaaIpA
import Derived.Outline
set_option linter.unusedVariables false
set_option maxRecDepth 100000
set_option linter.unusedSimpArgs false
namespace Go.Proofs.Ytgjppmkadmfibaa
open Go.RowKit
theorem IntsAt.congr {w : World} {oa : Option Addr} {l : Nat} {k : IntKind} {xs ys : Nat → Int} (h : IntsAt w oa l k xs) (he : ∀ i, i < l → xs i = ys i) : IntsAt w oa l k ys := fun i hi => by
  rw [← he i hi]; exact h i hi
theorem ints_rowj (V : World) (n : Nat) (xs : Nat → Int) (t : TypeId) (os : Array Obj) (d g off l : Nat) (hg : g = V.heap.size) (h : off + l ≤ n) : IntsAt ((V.alloc (.cells (rowArr n xs) t)).junk os d) (some ⟨g, off, none⟩) l .u8 (fun i => xs (off + i)) :=
  (ints_row V n xs t g off l hg h).on ⟨os, d, rfl⟩
theorem half_row (V : World) (N : Nat) (xs : Nat → Int) (t : TypeId) (os : Array Obj) (d g off l c : Nat) (n : Int) (hg : g = V.heap.size) (hl : 2 ≤ l) (hn0 : 0 ≤ n) (hn1 : n ≤ 65535) (ho : off + 2 ≤ N) :
    Calls Try.prog 45 #[.slice (some ⟨g, off, none⟩) l c, .int .i64 n] ((V.alloc (.cells (rowArr N xs) t)).junk os d) fun e w' => e = .returned (.tuple #[]) ∧
      (V.alloc (.cells (rowArr N (upd (upd xs off (n / 256)) (off + 1) (n % 256))) t)).junk os d = w' := by
  subst hg
  have hs : V.heap.size < (V.alloc (.cells (rowArr N xs) t)).heap.size := by simp
  have c0 : ∀ k, k < N → ((V.alloc (.cells (rowArr N xs) t)).junk os d).cell? ⟨V.heap.size, k, none⟩ = some (.int .u8 (xs k)) := fun k hk => by
    rw [World.cell?_junk _ _ _ _ _ hs, World.cell?_alloc_new, rowArr_get _ _ _ hk]
  have f0 : ∀ k, ((V.alloc (.cells (rowArr N xs) t)).junk os d).frozen? ⟨V.heap.size, k, none⟩ = false := fun k => by
    rw [World.frozen?_junk _ _ _ _ _ hs, World.frozen?_alloc_new]
  refine (half_any V.heap.size off l c n _ _ _ hl hn0 hn1 (by simp; omega) (c0 off (by omega)) (c0 (off + 1) (by omega)) (f0 _) (f0 _)).mono fun e w' h => ⟨h.1, ?_⟩
  rw [← h.2, World.setCell_junk _ _ _ _ _ _ hs, World.setCell_alloc_new, rowArr_set]
  have hs2 : V.heap.size < (V.alloc (.cells (rowArr N (upd xs off (n / 256))) t)).heap.size := by simp
  rw [World.setCell_junk _ _ _ _ _ _ hs2, World.setCell_alloc_new, rowArr_set]
set_option maxHeartbeats 400000 in
theorem whole_row (V : World) (N : Nat) (xs : Nat → Int) (t : TypeId) (os : Array Obj) (d g off l c : Nat) (n : Int) (hg : g = V.heap.size) (hl : 4 ≤ l) (hc : l ≤ c) (hc2 : c ≤ 1000000000) (hn0 : 0 ≤ n) (hn1 : n ≤ 4294967295) (ho : off + 4 ≤ N) :
    Calls Try.prog 47 #[.slice (some ⟨g, off, none⟩) l c, .int .u32 n] ((V.alloc (.cells (rowArr N xs) t)).junk os d) fun e w' => e = .returned (.tuple #[]) ∧
      (V.alloc (.cells (rowArr N (upd (upd (upd (upd xs off (n / 65536 / 256)) (off + 1) (n / 65536 % 256)) (off + 2) (n % 65536 / 256)) (off + 2 + 1) (n % 256))) t)).junk os d = w' := by
  subst hg
  have c2 : ¬ c = 2 := by omega
  have q0 := and_u32_16 n (by omega) (by omega)
  have j2 : (2 : Int) ≤ (l : Int) := by omega
  go_enter Try.func47, Try.ntmps47
  go_wp2_with (first | (go_at_call 45; refine (half_row V N _ t os d _ _ _ _ _ rfl (by omega) (by omega) (by omega) (by omega)).mono ?_; rintro e w' ⟨rfl, rfl⟩))
  go_end0
  exact ⟨rfl, rfl⟩
/-- The bytes of a head, with a check sum. -/
def headB (p : Ip) (c : Int) : Nat → Int
  | 0 => 64 + (20 + (p.ol : Int)) / 4
  | 1 => p.tos
  | 2 => (20 + (p.ol : Int) + p.bl) / 256
  | 3 => (20 + (p.ol : Int) + p.bl) % 256
  | 4 => p.id / 256
  | 5 => p.id % 256
  | 6 => bitsI p / 256
  | 7 => bitsI p % 256
  | 8 => p.ttl
  | 9 => p.proto
  | 10 => c / 256
  | 11 => c % 256
  | 12 => p.src / 65536 / 256
  | 13 => p.src / 65536 % 256
  | 14 => p.src % 65536 / 256
  | 15 => p.src % 256
  | 16 => p.dst / 65536 / 256
  | 17 => p.dst / 65536 % 256
  | 18 => p.dst % 65536 / 256
  | 19 => p.dst % 256
  | k + 20 => p.opts k
def hdrSum (p : Ip) : Int := 65535 - sumN (headB p 0) (20 + p.ol)
def pktB (p : Ip) : Nat → Int := fun k => if k < 20 + p.ol then headB p (hdrSum p) k else p.body (k - (20 + p.ol))
theorem twenty (i : Nat) : i = 0 ∨ i = 1 ∨ i = 2 ∨ i = 3 ∨ i = 4 ∨ i = 5 ∨ i = 6 ∨ i = 7 ∨ i = 8 ∨ i = 9 ∨ i = 10 ∨ i = 11 ∨ i = 12 ∨ i = 13 ∨ i = 14 ∨ i = 15 ∨ i = 16 ∨ i = 17 ∨ i = 18 ∨ i = 19 ∨ ∃ k, i = k + 20 := by
  by_cases h : i < 20
  · omega
  · have : ∃ k, i = k + 20 := ⟨i - 20, by omega⟩
    simp [this]
/-- What 'may' says. -/
structure MayP (p : Ip) : Prop where
  tos : 0 ≤ p.tos ∧ p.tos ≤ 255
  ttl : 0 ≤ p.ttl ∧ p.ttl ≤ 255
  proto : 0 ≤ p.proto ∧ p.proto ≤ 255
  id : 0 ≤ p.id ∧ p.id ≤ 65535
  off : 0 ≤ p.off ∧ p.off ≤ 65528
  off8 : p.off % 8 = 0
  ol : p.ol ≤ 40
  ol4 : p.ol % 4 = 0
  fit : 20 + (p.ol : Int) + p.off + p.bl ≤ 65535
  mf : p.mf = true → p.bl % 8 = 0 ∧ 0 < p.bl
theorem may_iff {p : Ip} : mayB p = true ↔ MayP p := by
  simp only [mayB, piecesB, withinB, Bool.and_eq_true, decide_eq_true_eq, Bool.not_eq_true', Bool.and_eq_false_iff, Bool.or_eq_false_iff, decide_eq_false_iff_not]
  constructor
  · rintro ⟨⟨⟨⟨⟨⟨⟨⟨⟨h1, h2⟩, h3⟩, h4⟩, h5⟩, h6⟩, h7⟩, h8⟩, h9⟩, h10, h11⟩
    exact ⟨h1, h2, h3, h4, h5, h6, h7, h8, h11, fun hm => by
      rcases h10 with h | ⟨h, h'⟩
      · rw [hm] at h; cases h
      · omega⟩
  · intro h
    have hf := h.fit
    have ho := h.off
    refine ⟨⟨⟨⟨⟨⟨⟨⟨⟨h.tos, h.ttl⟩, h.proto⟩, h.id⟩, h.off⟩, h.off8⟩, h.ol⟩, h.ol4⟩, by omega⟩, ?_, hf⟩
    cases hm : p.mf with
    | false => exact .inl rfl
    | true => have := h.mf hm; exact .inr (by omega)
theorem bitsI_bd {p : Ip} (h0 : 0 ≤ p.off) (h1 : p.off ≤ 65528) : 0 ≤ bitsI p ∧ bitsI p ≤ 32767 := by
  unfold bitsI; split <;> split <;> omega
theorem headB_byte {p : Ip} {c : Int} (h : MayP p) (hc : 0 ≤ c ∧ c ≤ 65535) (hs : 0 ≤ p.src ∧ p.src ≤ 4294967295) (hd : 0 ≤ p.dst ∧ p.dst ≤ 4294967295) (ho : ∀ i, i < p.ol → 0 ≤ p.opts i ∧ p.opts i ≤ 255) :
    ∀ i, i < 20 + p.ol → 0 ≤ headB p c i ∧ headB p c i ≤ 255 := by
  intro i hi
  have h1 := h.tos
  have h2 := h.ttl
  have h3 := h.proto
  have h4 := h.id
  have h5 := h.off
  have h6 := h.ol
  have h7 := h.fit
  have h8 := bitsI_bd h5.1 h5.2
  rcases twenty i with rfl | rfl | rfl | rfl | rfl | rfl | rfl | rfl | rfl | rfl | rfl | rfl | rfl | rfl | rfl | rfl | rfl | rfl | rfl | rfl | ⟨k, rfl⟩
  all_goals simp only [headB]
  all_goals first | omega | exact ho k (by omega)
theorem hdrSum_bd {p : Ip} (h : MayP p) (hs : 0 ≤ p.src ∧ p.src ≤ 4294967295) (hd : 0 ≤ p.dst ∧ p.dst ≤ 4294967295) (ho : ∀ i, i < p.ol → 0 ≤ p.opts i ∧ p.opts i ≤ 255) : 0 ≤ hdrSum p ∧ hdrSum p ≤ 65535 := by
  have := sumN_bd (headB p 0) (20 + p.ol) (headB_byte h (by omega) hs hd ho)
  unfold hdrSum; omega
theorem pktB_byte {p : Ip} (h : MayP p) (hs : 0 ≤ p.src ∧ p.src ≤ 4294967295) (hd : 0 ≤ p.dst ∧ p.dst ≤ 4294967295) (ho : ∀ i, i < p.ol → 0 ≤ p.opts i ∧ p.opts i ≤ 255) (hb : ∀ i, i < p.bl → 0 ≤ p.body i ∧ p.body i ≤ 255) :
    ∀ i, i < 20 + p.ol + p.bl → 0 ≤ pktB p i ∧ pktB p i ≤ 255 := by
  intro i hi
  unfold pktB
  split
  · exact headB_byte h (hdrSum_bd h hs hd ho) hs hd ho i ‹_›
  · exact hb _ (by omega)
def ipErr (p : Ip) : Int := if mayB p then 0 else 1
def bytesL (n : Nat) (xs : Nat → Int) : List Value := (List.range n).map fun i => Value.int .u8 (xs i)
def IpPutM (w : World) (p : Ip) (e : Ending) (w' : World) : Prop :=
  ∃ (ob : Option Addr) (lb cb : Nat), e = .returned (.tuple #[.slice ob lb cb, .int .i64 (ipErr p)]) ∧ Junk w w' ∧ Bts w' ob lb cb (pktB p) ∧
    ((mayB p = true ∧ lb = 20 + p.ol + p.bl ∧ Own w.heap.size w' 5 1 ob cb lb (bytesL lb (pktB p))) ∨ (mayB p = false ∧ lb = 0 ∧ cb = 0 ∧ ob = none))
theorem ipPutM_bad {w w' : World} {p : Ip} (h : mayB p = false) (hj : Junk w w') : IpPutM w p (.returned (.tuple #[.slice none 0 0, .int .i64 1])) w' :=
  ⟨none, 0, 0, by simp [ipErr, h], hj, ⟨fun i hi => by omega, fun i hi => by omega, fun _ => ⟨rfl, rfl⟩, Nat.le_refl _, Nat.zero_le _⟩, .inr ⟨h, rfl, rfl, rfl⟩⟩
theorem ipPutM_ok {w V : World} {p : Ip} {N : Nat} {xs : Nat → Int} {os : Array Obj} {d g : Nat} (h : mayB p = true) (hj : Junk w V) (hg : g = V.heap.size) (hN : N = 20 + p.ol + p.bl) (hx : ∀ i, i < N → xs i = pktB p i)
    (hb : ∀ i, i < N → 0 ≤ pktB p i ∧ pktB p i ≤ 255) (hm : N ≤ 100000) : IpPutM w p (.returned (.tuple #[.slice (some ⟨g, 0, none⟩) N N, .int .i64 0])) ((V.alloc (.cells (rowArr N xs) 5)).junk os d) := by
  have ho : Own w.heap.size ((V.alloc (.cells (rowArr N xs) 5)).junk os d) 5 1 (some ⟨g, 0, none⟩) N N (bytesL N (pktB p)) := by
    have := own_lit' (B := w.heap.size) (w := V) (e := 5) (n := g) (m := N) (cur := rowArr N xs) os d hg hj.size (by simp) (by simp only [maxLen]; omega)
    rw [rowArr_congr hx] at this
    rw [rowArr_congr hx]
    simpa [rowArr, bytesL] using this
  exact ⟨_, N, N, by simp [ipErr, h], (hj.alloc _).junk _ _, own_bts ho hb, .inl ⟨h, hN, ho⟩⟩
/-- What the block holds ahead of the check sum. -/
def putX (p : Ip) (S N : Nat) : Nat → Int :=
  putAt (putAt (upd (upd (upd (upd (upd (upd (upd (upd (upd (upd (upd (upd (upd (upd (upd (upd (upd (upd (fun _ => 0) 0 (64 + (S : Int) / 4)) 1 p.tos) 2 ((N : Int) / 256)) (2 + 1) ((N : Int) % 256)) 4 (p.id / 256)) (4 + 1) (p.id % 256)) 6 (bitsI p / 256)) (6 + 1) (bitsI p % 256)) 8 p.ttl) 9 p.proto)
    12 (p.src / 65536 / 256)) (12 + 1) (p.src / 65536 % 256)) (12 + 2) (p.src % 65536 / 256)) (12 + 2 + 1) (p.src % 256)) 16 (p.dst / 65536 / 256)) (16 + 1) (p.dst / 65536 % 256)) (16 + 2) (p.dst % 65536 / 256)) (16 + 2 + 1) (p.dst % 256)) 20 p.ol p.opts) S p.bl p.body
theorem putX_head {p : Ip} {S N : Nat} (hS : S = 20 + p.ol) (hN : N = S + p.bl) (ho : p.ol ≤ 40) : ∀ i, i < S → putX p S N i = headB p 0 i := by
  intro i hi
  subst hS hN
  unfold putX
  rw [putAt, if_neg (by omega)]
  rcases twenty i with rfl | rfl | rfl | rfl | rfl | rfl | rfl | rfl | rfl | rfl | rfl | rfl | rfl | rfl | rfl | rfl | rfl | rfl | rfl | rfl | ⟨k, rfl⟩
  all_goals rw [putAt]
  all_goals first
    | (rw [if_pos (by omega), Nat.add_sub_cancel]; rfl)
    | (rw [if_neg (by omega)]; simp only [upd, headB]; simp; done)
    | (rw [if_neg (by omega)]; simp [upd, headB]; omega)
theorem putX_body {p : Ip} {S N : Nat} (hS : S = 20 + p.ol) (hN : N = S + p.bl) : ∀ i, S ≤ i → i < N → putX p S N i = p.body (i - S) := by
  intro i hi hi2
  unfold putX
  rw [putAt, if_pos (by omega)]
theorem putX_all {p : Ip} {S N : Nat} (hS : S = 20 + p.ol) (hN : N = S + p.bl) (ho : p.ol ≤ 40) : ∀ i, i < N → upd (upd (putX p S N) 10 (hdrSum p / 256)) (10 + 1) (hdrSum p % 256) i = pktB p i := by
  intro i hi
  unfold pktB
  by_cases h : i < S
  · rw [if_pos (by omega)]
    by_cases h10 : i = 10
    · subst h10; rfl
    · by_cases h11 : i = 11
      · subst h11; rfl
      · rw [upd, if_neg (by omega), upd, if_neg h10, putX_head hS hN ho i h]
        rcases twenty i with rfl | rfl | rfl | rfl | rfl | rfl | rfl | rfl | rfl | rfl | rfl | rfl | rfl | rfl | rfl | rfl | rfl | rfl | rfl | rfl | ⟨k, rfl⟩
        all_goals first | rfl | omega
  · rw [if_neg (by omega), upd, if_neg (by omega), upd, if_neg (by omega), putX_body hS hN i (by omega) hi, hS]
theorem of_row (p : Ip) (V : World) (N S : Nat) (xs : Nat → Int) (os : Array Obj) (d g c : Nat) (hg : g = V.heap.size) (hS : S = 20 + p.ol) (hN : S ≤ N) (hx : ∀ i, i < S → xs i = headB p 0 i)
    (hb : ∀ i, i < 20 + p.ol → 0 ≤ headB p 0 i ∧ headB p 0 i ≤ 255) (hl : S ≤ 100) :
    Calls Try.prog 48 #[.slice (some ⟨g, 0, none⟩) S c] ((V.alloc (.cells (rowArr N xs) 5)).junk os d) fun e w' => e = .returned (.int .u16 (hdrSum p)) ∧ (V.alloc (.cells (rowArr N xs) 5)).junk os d = w' := by
  have h := of_any (some ⟨g, 0, none⟩) S c (headB p 0) ((V.alloc (.cells (rowArr N xs) 5)).junk os d) (by omega) (IntsAt.congr (ints_rowj V N xs 5 os d g 0 S hg (by omega)) (fun i hi => by rw [Nat.zero_add]; exact hx i hi)) (by rw [hS]; exact hb)
  rwa [show 65535 - sumN (headB p 0) S = hdrSum p from by rw [hdrSum, hS]] at h
theorem make_bytes (w : World) (N : Nat) (hN : N ≤ 100000) : (Instr.makeSlice 23 (.int .i64 (N : Int)) (.int .i64 (N : Int))).run Try.prog w = .ok (.slice (some ⟨w.heap.size, 0, none⟩) N N) (w.alloc (.cells (rowArr N (fun _ => 0)) 5)) := by
  obtain ⟨i, hi, hz0, hz1, hz2⟩ := info_parts (P := Try.prog) (e := 5) (z := .int .u8 0) (size := 1) (bytes := 1) (by kernel_rfl)
  have h := run_make (P := Try.prog) w 23 5 i (.int .u8 0) Try.underlying23 hi hz0 .i64 .i64 N N (by omega) (by omega) (by rw [hz2]; omega) (by omega)
  rw [hz1] at h
  rw [h]
  simp only [Int.toNat_natCast, Nat.mul_one]
  rw [← rowArr_made]
  rfl
set_option maxHeartbeats 2000000 in
theorem ipPut_any (p : Ip) (oo ob : Option Addr) (oc bc : Nat) (w : World) (h1 : p.ol ≤ 100000000) (h2 : p.bl ≤ 100000000) (hP : IpAt w p oo oc ob bc) :
    Calls Try.prog 25 #[.agg #[.int .i64 p.tos, .int .i64 p.id, .bool p.df, .bool p.mf, .int .i64 p.off, .int .i64 p.ttl, .int .i64 p.proto, .int .u32 p.src, .int .u32 p.dst, .slice oo p.ol oc, .slice ob p.bl bc]] w (IpPutM w p) := by
  cases hm : mayB p with
  | false =>
    clear hP
    go_enter Try.func25, Try.ntmps25
    go_wp2_with (first | (go_at_call 44; refine (may_any p oo ob oc bc _ h1 h2).mono ?_; rintro e w' ⟨rfl, ⟨osj, dj, rfl⟩⟩))
    go_returns
    exact ipPutM_bad hm (by (exact jkc))
  | true =>
    have HP := Lib.hid hP
    have M := Lib.hid (may_iff.1 hm)
    obtain ⟨a1, a2⟩ := M.out.tos
    obtain ⟨a3, a4⟩ := M.out.ttl
    obtain ⟨a5, a6⟩ := M.out.proto
    obtain ⟨a7, a8⟩ := M.out.id
    obtain ⟨a9, a10⟩ := M.out.off
    have a11 := M.out.ol
    have a12 := M.out.fit
    obtain ⟨b1, b2⟩ := bitsI_bd a9 a10
    obtain ⟨s1, s2⟩ := hP.src
    obtain ⟨u1, u2⟩ := hP.dst
    have Hh := Lib.hid (headB_byte (c := 0) M.out (by omega) hP.src hP.dst hP.opts.byte)
    have Hk := Lib.hid (pktB_byte M.out hP.src hP.dst hP.opts.byte hP.body.byte)
    obtain ⟨k1, k2⟩ := hdrSum_bd M.out hP.src hP.dst hP.opts.byte
    clear hP
    obtain ⟨S, hS⟩ : ∃ S, S = 20 + p.ol := ⟨_, rfl⟩
    obtain ⟨N, hN⟩ : ∃ N, N = S + p.bl := ⟨_, rfl⟩
    have e1 : (20 : Int) + (p.ol : Int) = (S : Int) := by omega
    have e2 : (S : Int) + (p.bl : Int) = (N : Int) := by omega
    have n1 : 20 ≤ S := by omega
    have n2 : S ≤ N := by omega
    have n3 : N ≤ 65535 := by omega
    have n4 : S ≤ 60 := by omega
    have E1 := Lib.hid e1
    have E2 := Lib.hid e2
    have ES := Lib.hid hS
    have EN := Lib.hid hN
    have g64 := or_i64 6 64 ((S : Int) / 4) (by omega) (by omega) (by omega) (by omega) (by omega) (by omega)
    have q0 := wrapk_u8 (64 + (S : Int) / 4) (by omega) (by omega)
    have q1 := wrapk_u8 p.tos (by omega) (by omega)
    have q2 := wrapk_u8 p.ttl (by omega) (by omega)
    have q3 := wrapk_u8 p.proto (by omega) (by omega)
    have hmk := fun w : World => make_bytes w N (by omega)
    have j0 : (0 : Int) < (N : Int) := by omega
    have j1 : (1 : Int) < (N : Int) := by omega
    have j2 : (2 : Int) ≤ (N : Int) := by omega
    have j4 : (4 : Int) ≤ (N : Int) := by omega
    have j6 : (6 : Int) ≤ (N : Int) := by omega
    have j8 : (8 : Int) < (N : Int) := by omega
    have j9 : (9 : Int) < (N : Int) := by omega
    have j10 : (10 : Int) ≤ (N : Int) := by omega
    have j12 : (12 : Int) ≤ (N : Int) := by omega
    have j16 : (16 : Int) ≤ (N : Int) := by omega
    have j20 : (20 : Int) ≤ (N : Int) := by omega
    have js : (S : Int) ≤ (N : Int) := by omega
    have i0 : 0 < N := by omega
    have i1 : 1 < N := by omega
    have i8 : 8 < N := by omega
    have i9 : 9 < N := by omega
    have c2 : ¬ N = 2 := by omega
    have c4 : ¬ N = 4 := by omega
    have c6 : ¬ N = 6 := by omega
    have c10 : ¬ N = 10 := by omega
    have c12 : ¬ N = 12 := by omega
    have c16 : ¬ N = 16 := by omega
    clear hS hN
    go_enter Try.func25, Try.ntmps25
    go_wp2_with (first | (go_at_call 44; refine (may_any p oo ob oc bc _ h1 h2).mono ?_; rintro e w' ⟨rfl, ⟨osj, dj, rfl⟩⟩))
    refine wp_region_mixj ((w.alloc (.cells #[.int .i64 p.tos, .int .i64 p.id, .bool p.df, .bool p.mf, .int .i64 p.off, .int .i64 p.ttl, .int .i64 p.proto, .int .u32 p.src, .int .u32 p.dst, .slice oo p.ol oc, .slice ob p.bl bc] 25)).junk osj dj) [(0, true), (1, true), (2, true), (3, true), (4, true), (5, true), (6, true), (7, true), (8, true), (9, true), (10, false), (11, true), (12, false)] (by kernel_rfl) (by kernel_rfl) (by (exact jkc)) ?_; (iterate 10 (refine wpMix_q rfl (fun K hK => ?_); (go_simp; try go_bits); (refine hK _ ?_; clear hK K))); refine wpMix_e rfl (fun osm5_0 dm5_0 K hK => ?_); (go_simp; try go_bits); refine hK _ _ (Junk.pair (by (first | exact jkc | repeat (first | with_reducible exact Junk.refl _ | with_reducible exact Junk.app _ _ _ _ _ | with_reducible apply Junk.alloc | with_reducible apply Junk.junk | with_reducible apply Junk.drew | with_reducible apply Junk.drewN | (with_reducible refine Junk.setCell ?_ (by simp) _))))) ?_; clear hK K; (iterate 1 (refine wpMix_q rfl (fun K hK => ?_); (go_simp; try go_bits); (refine hK _ ?_; clear hK K))); refine wpMix_e rfl (fun osm5_1 dm5_1 K hK => ?_); (go_simp; try go_bits); refine hK _ _ (Junk.pair (by (first | exact jkc | repeat (first | with_reducible exact Junk.refl _ | with_reducible exact Junk.app _ _ _ _ _ | with_reducible apply Junk.alloc | with_reducible apply Junk.junk | with_reducible apply Junk.drew | with_reducible apply Junk.drewN | (with_reducible refine Junk.setCell ?_ (by simp) _))))) ?_; clear hK K; refine wpMix_nil (fun osm dm => ?_)
    (try simp only [World.junk_junk]); refine then_gen (fun os1 d1 => ?_)
    go_wp2_with (first | (go_at_call 45; refine (half_row ((w.alloc (.cells #[.int .i64 p.tos, .int .i64 p.id, .bool p.df, .bool p.mf, .int .i64 p.off, .int .i64 p.ttl, .int .i64 p.proto, .int .u32 p.src, .int .u32 p.dst, .slice oo p.ol oc, .slice ob p.bl bc] 25)).junk osj dj) N _ _ _ _ _ _ _ _ _ (by simp) (by omega) (by omega) (by omega) (by omega)).mono ?_; rintro e w' ⟨rfl, rfl⟩))
    refine wp_region_mixj ((w.alloc (.cells #[.int .i64 p.tos, .int .i64 p.id, .bool p.df, .bool p.mf, .int .i64 p.off, .int .i64 p.ttl, .int .i64 p.proto, .int .u32 p.src, .int .u32 p.dst, .slice oo p.ol oc, .slice ob p.bl bc] 25)).junk osj dj) [(0, true), (1, true), (2, true), (3, true), (4, false)] (by kernel_rfl) (by kernel_rfl) (by (exact jkc)) ?_; (iterate 4 (refine wpMix_q rfl (fun K hK => ?_); (go_simp; try go_bits); (refine hK _ ?_; clear hK K))); refine wpMix_e rfl (fun osm7_0 dm7_0 K hK => ?_); (go_simp; try go_bits); (go_at_call 45; refine (half_row ((w.alloc (.cells #[.int .i64 p.tos, .int .i64 p.id, .bool p.df, .bool p.mf, .int .i64 p.off, .int .i64 p.ttl, .int .i64 p.proto, .int .u32 p.src, .int .u32 p.dst, .slice oo p.ol oc, .slice ob p.bl bc] 25)).junk osj dj) N _ _ _ _ _ _ _ _ _ (by simp) (by omega) (by omega) (by omega) (by omega)).mono ?_; rintro e w' ⟨rfl, rfl⟩); refine hK _ _ (Junk.pair (by (first | exact jkc | repeat (first | with_reducible exact Junk.refl _ | with_reducible exact Junk.app _ _ _ _ _ | with_reducible apply Junk.alloc | with_reducible apply Junk.junk | with_reducible apply Junk.drew | with_reducible apply Junk.drewN | (with_reducible refine Junk.setCell ?_ (by simp) _))))) ?_; clear hK K; refine wpMix_nil (fun osm dm => ?_)
    (try simp only [World.junk_junk]); refine then_gen (fun os1 d1 => ?_)
    go_wp2
    refine wp_region_mixj ((w.alloc (.cells #[.int .i64 p.tos, .int .i64 p.id, .bool p.df, .bool p.mf, .int .i64 p.off, .int .i64 p.ttl, .int .i64 p.proto, .int .u32 p.src, .int .u32 p.dst, .slice oo p.ol oc, .slice ob p.bl bc] 25)).junk osj dj) [(0, true), (1, true), (2, true), (3, true), (4, false)] (by kernel_rfl) (by kernel_rfl) (by (exact jkc)) ?_; (iterate 4 (refine wpMix_q rfl (fun K hK => ?_); (go_simp; try go_bits); first | (refine hK _ ?_; clear hK K) | (apply Exists.intro; refine ⟨fun _ => ?_, hK _ ?_⟩; (first | (go_at_call 46; exact (bits_any p oo ob oc bc _ a9 a10))); clear hK K))); refine wpMix_e rfl (fun osm8_0 dm8_0 K hK => ?_); (go_simp; try go_bits); (go_at_call 45; refine (half_row ((w.alloc (.cells #[.int .i64 p.tos, .int .i64 p.id, .bool p.df, .bool p.mf, .int .i64 p.off, .int .i64 p.ttl, .int .i64 p.proto, .int .u32 p.src, .int .u32 p.dst, .slice oo p.ol oc, .slice ob p.bl bc] 25)).junk osj dj) N _ _ _ _ _ _ _ _ _ (by simp) (by omega) (by omega) (by omega) (by omega)).mono ?_; rintro e w' ⟨rfl, rfl⟩); refine hK _ _ (Junk.pair (by (first | exact jkc | repeat (first | with_reducible exact Junk.refl _ | with_reducible exact Junk.app _ _ _ _ _ | with_reducible apply Junk.alloc | with_reducible apply Junk.junk | with_reducible apply Junk.drew | with_reducible apply Junk.drewN | (with_reducible refine Junk.setCell ?_ (by simp) _))))) ?_; clear hK K; refine wpMix_nil (fun osm dm => ?_)
    (try simp only [World.junk_junk]); refine then_gen (fun os1 d1 => ?_)
    go_wp2
    refine wp_region_mixj ((w.alloc (.cells #[.int .i64 p.tos, .int .i64 p.id, .bool p.df, .bool p.mf, .int .i64 p.off, .int .i64 p.ttl, .int .i64 p.proto, .int .u32 p.src, .int .u32 p.dst, .slice oo p.ol oc, .slice ob p.bl bc] 25)).junk osj dj) [(0, true), (1, true), (2, true), (3, true), (4, true), (5, true), (6, true), (7, true), (8, true), (9, false), (10, true), (11, false)] (by kernel_rfl) (by kernel_rfl) (by (exact jkc)) ?_; (iterate 9 (refine wpMix_q rfl (fun K hK => ?_); (go_simp; try go_bits); (refine hK _ ?_; clear hK K))); refine wpMix_e rfl (fun osm9_0 dm9_0 K hK => ?_); (go_simp; try go_bits); refine hK _ _ (Junk.pair (by (first | exact jkc | repeat (first | with_reducible exact Junk.refl _ | with_reducible exact Junk.app _ _ _ _ _ | with_reducible apply Junk.alloc | with_reducible apply Junk.junk | with_reducible apply Junk.drew | with_reducible apply Junk.drewN | (with_reducible refine Junk.setCell ?_ (by simp) _))))) ?_; clear hK K; (iterate 1 (refine wpMix_q rfl (fun K hK => ?_); (go_simp; try go_bits); (refine hK _ ?_; clear hK K))); refine wpMix_e rfl (fun osm9_1 dm9_1 K hK => ?_); (go_simp; try go_bits); refine hK _ _ (Junk.pair (by (first | exact jkc | repeat (first | with_reducible exact Junk.refl _ | with_reducible exact Junk.app _ _ _ _ _ | with_reducible apply Junk.alloc | with_reducible apply Junk.junk | with_reducible apply Junk.drew | with_reducible apply Junk.drewN | (with_reducible refine Junk.setCell ?_ (by simp) _))))) ?_; clear hK K; refine wpMix_nil (fun osm dm => ?_)
    (try simp only [World.junk_junk]); refine then_gen (fun os1 d1 => ?_)
    go_wp2
    refine wp_region_mixj ((w.alloc (.cells #[.int .i64 p.tos, .int .i64 p.id, .bool p.df, .bool p.mf, .int .i64 p.off, .int .i64 p.ttl, .int .i64 p.proto, .int .u32 p.src, .int .u32 p.dst, .slice oo p.ol oc, .slice ob p.bl bc] 25)).junk osj dj) [(0, true), (1, true), (2, true), (3, true), (4, false)] (by kernel_rfl) (by kernel_rfl) (by (exact jkc)) ?_; (iterate 4 (refine wpMix_q rfl (fun K hK => ?_); (go_simp; try go_bits); (refine hK _ ?_; clear hK K))); refine wpMix_e rfl (fun osm10_0 dm10_0 K hK => ?_); (go_simp; try go_bits); (go_at_call 47; refine (whole_row ((w.alloc (.cells #[.int .i64 p.tos, .int .i64 p.id, .bool p.df, .bool p.mf, .int .i64 p.off, .int .i64 p.ttl, .int .i64 p.proto, .int .u32 p.src, .int .u32 p.dst, .slice oo p.ol oc, .slice ob p.bl bc] 25)).junk osj dj) N _ _ _ _ _ _ _ _ _ (by simp) (by omega) (by omega) (by omega) s1 s2 (by omega)).mono ?_; rintro e w' ⟨rfl, rfl⟩); refine hK _ _ (Junk.pair (by (first | exact jkc | repeat (first | with_reducible exact Junk.refl _ | with_reducible exact Junk.app _ _ _ _ _ | with_reducible apply Junk.alloc | with_reducible apply Junk.junk | with_reducible apply Junk.drew | with_reducible apply Junk.drewN | (with_reducible refine Junk.setCell ?_ (by simp) _))))) ?_; clear hK K; refine wpMix_nil (fun osm dm => ?_)
    (try simp only [World.junk_junk]); refine then_gen (fun os1 d1 => ?_)
    go_wp2
    refine wp_region_mixj ((w.alloc (.cells #[.int .i64 p.tos, .int .i64 p.id, .bool p.df, .bool p.mf, .int .i64 p.off, .int .i64 p.ttl, .int .i64 p.proto, .int .u32 p.src, .int .u32 p.dst, .slice oo p.ol oc, .slice ob p.bl bc] 25)).junk osj dj) [(0, true), (1, true), (2, true), (3, true), (4, false)] (by kernel_rfl) (by kernel_rfl) (by (exact jkc)) ?_; (iterate 4 (refine wpMix_q rfl (fun K hK => ?_); (go_simp; try go_bits); (refine hK _ ?_; clear hK K))); refine wpMix_e rfl (fun osm11_0 dm11_0 K hK => ?_); (go_simp; try go_bits); (go_at_call 47; refine (whole_row ((w.alloc (.cells #[.int .i64 p.tos, .int .i64 p.id, .bool p.df, .bool p.mf, .int .i64 p.off, .int .i64 p.ttl, .int .i64 p.proto, .int .u32 p.src, .int .u32 p.dst, .slice oo p.ol oc, .slice ob p.bl bc] 25)).junk osj dj) N _ _ _ _ _ _ _ _ _ (by simp) (by omega) (by omega) (by omega) u1 u2 (by omega)).mono ?_; rintro e w' ⟨rfl, rfl⟩); refine hK _ _ (Junk.pair (by (first | exact jkc | repeat (first | with_reducible exact Junk.refl _ | with_reducible exact Junk.app _ _ _ _ _ | with_reducible apply Junk.alloc | with_reducible apply Junk.junk | with_reducible apply Junk.drew | with_reducible apply Junk.drewN | (with_reducible refine Junk.setCell ?_ (by simp) _))))) ?_; clear hK K; refine wpMix_nil (fun osm dm => ?_)
    (try simp only [World.junk_junk]); refine then_gen (fun os1 d1 => ?_)
    go_wp2
    refine wp_region_mixj ((w.alloc (.cells #[.int .i64 p.tos, .int .i64 p.id, .bool p.df, .bool p.mf, .int .i64 p.off, .int .i64 p.ttl, .int .i64 p.proto, .int .u32 p.src, .int .u32 p.dst, .slice oo p.ol oc, .slice ob p.bl bc] 25)).junk osj dj) [(0, true), (1, true), (2, true), (3, true), (4, false)] (by kernel_rfl) (by kernel_rfl) (by (exact jkc)) ?_; (iterate 4 (refine wpMix_q rfl (fun K hK => ?_); (go_simp; try go_bits); (refine hK _ ?_; clear hK K))); refine wpMix_e1 rfl rfl (fun osm12_0 dm12_0 K hK => ?_); (try simp only [World.drew_junk, World.junk_junk]); (refine cp_bytes_wp _ _ 23 23 rfl 5 Try.underlying23 (by kernel_rfl) _ _ _ _ _ _ rfl rfl ((w.alloc (.cells #[.int .i64 p.tos, .int .i64 p.id, .bool p.df, .bool p.mf, .int .i64 p.off, .int .i64 p.ttl, .int .i64 p.proto, .int .u32 p.src, .int .u32 p.dst, .slice oo p.ol oc, .slice ob p.bl bc] 25)).junk osj dj) N _ _ _ _ rfl 20 p.ol p.opts (show Nat.min _ _ = _ from Nat.min_eq_left (by omega)) (fun h => by rw [if_neg (by omega)]; simp) (by omega) (HP.out.opts.at_.on (by (exact jkc))) ?_); refine hK _ _ (Junk.pair (by (first | exact jkc | repeat (first | with_reducible exact Junk.refl _ | with_reducible exact Junk.app _ _ _ _ _ | with_reducible apply Junk.alloc | with_reducible apply Junk.junk | with_reducible apply Junk.drew | with_reducible apply Junk.drewN | (with_reducible refine Junk.setCell ?_ (by simp) _))))) ?_; clear hK K; refine wpMix_nil (fun osm dm => ?_)
    (try simp only [World.junk_junk]); refine then_gen (fun os1 d1 => ?_)
    generalize (if N = 20 then (some (⟨w.heap.size + 1 + osj.size, 0, none⟩ : Addr)) else some ⟨w.heap.size + 1 + osj.size, 20, none⟩) = dp20
    go_wp2
    refine wp_region_mixj ((w.alloc (.cells #[.int .i64 p.tos, .int .i64 p.id, .bool p.df, .bool p.mf, .int .i64 p.off, .int .i64 p.ttl, .int .i64 p.proto, .int .u32 p.src, .int .u32 p.dst, .slice oo p.ol oc, .slice ob p.bl bc] 25)).junk osj dj) [(0, true), (1, true), (2, true), (3, true), (4, true), (5, false)] (by kernel_rfl) (by kernel_rfl) (by (exact jkc)) ?_; (iterate 5 (refine wpMix_q rfl (fun K hK => ?_); (go_simp; try go_bits); (refine hK _ ?_; clear hK K))); refine wpMix_e1 rfl rfl (fun osm13_0 dm13_0 K hK => ?_); (try simp only [World.drew_junk, World.junk_junk]); (refine cp_bytes_wp _ _ 23 23 rfl 5 Try.underlying23 (by kernel_rfl) _ _ _ _ _ _ rfl rfl ((w.alloc (.cells #[.int .i64 p.tos, .int .i64 p.id, .bool p.df, .bool p.mf, .int .i64 p.off, .int .i64 p.ttl, .int .i64 p.proto, .int .u32 p.src, .int .u32 p.dst, .slice oo p.ol oc, .slice ob p.bl bc] 25)).junk osj dj) N _ _ _ _ rfl S p.bl p.body (show Nat.min _ _ = _ from Nat.min_eq_left (by omega)) (fun h => by rw [if_neg (by omega)]; simp) (by omega) (HP.out.body.at_.on (by (exact jkc))) ?_); refine hK _ _ (Junk.pair (by (first | exact jkc | repeat (first | with_reducible exact Junk.refl _ | with_reducible exact Junk.app _ _ _ _ _ | with_reducible apply Junk.alloc | with_reducible apply Junk.junk | with_reducible apply Junk.drew | with_reducible apply Junk.drewN | (with_reducible refine Junk.setCell ?_ (by simp) _))))) ?_; clear hK K; refine wpMix_nil (fun osm dm => ?_)
    (try simp only [World.junk_junk]); refine then_gen (fun os1 d1 => ?_)
    generalize (if N = S then (some (⟨w.heap.size + 1 + osj.size, 0, none⟩ : Addr)) else some ⟨w.heap.size + 1 + osj.size, S, none⟩) = dpS
    go_wp2
    refine wp_region_mixj ((w.alloc (.cells #[.int .i64 p.tos, .int .i64 p.id, .bool p.df, .bool p.mf, .int .i64 p.off, .int .i64 p.ttl, .int .i64 p.proto, .int .u32 p.src, .int .u32 p.dst, .slice oo p.ol oc, .slice ob p.bl bc] 25)).junk osj dj) [(0, true), (1, true), (2, true), (3, true), (4, true), (5, false), (6, true), (7, false)] (by kernel_rfl) (by kernel_rfl) (by (exact jkc)) ?_; (iterate 5 (refine wpMix_q rfl (fun K hK => ?_); (go_simp; try go_bits); (refine hK _ ?_; clear hK K))); refine wpMix_e rfl (fun osm14_0 dm14_0 K hK => ?_); (go_simp; try go_bits); (go_at_call 48; refine (of_row p ((w.alloc (.cells #[.int .i64 p.tos, .int .i64 p.id, .bool p.df, .bool p.mf, .int .i64 p.off, .int .i64 p.ttl, .int .i64 p.proto, .int .u32 p.src, .int .u32 p.dst, .slice oo p.ol oc, .slice ob p.bl bc] 25)).junk osj dj) N S _ _ _ _ _ (by simp) ES.out n2 (putX_head ES.out EN.out a11) Hh.out (by omega)).mono ?_; rintro e w' ⟨rfl, rfl⟩); refine hK _ _ (Junk.pair (by (first | exact jkc | repeat (first | with_reducible exact Junk.refl _ | with_reducible exact Junk.app _ _ _ _ _ | with_reducible apply Junk.alloc | with_reducible apply Junk.junk | with_reducible apply Junk.drew | with_reducible apply Junk.drewN | (with_reducible refine Junk.setCell ?_ (by simp) _))))) ?_; clear hK K; (iterate 1 (refine wpMix_q rfl (fun K hK => ?_); (go_simp; try go_bits); (refine hK _ ?_; clear hK K))); refine wpMix_e rfl (fun osm14_1 dm14_1 K hK => ?_); (go_simp; try go_bits); (go_at_call 45; refine (half_row ((w.alloc (.cells #[.int .i64 p.tos, .int .i64 p.id, .bool p.df, .bool p.mf, .int .i64 p.off, .int .i64 p.ttl, .int .i64 p.proto, .int .u32 p.src, .int .u32 p.dst, .slice oo p.ol oc, .slice ob p.bl bc] 25)).junk osj dj) N _ _ _ _ _ _ _ _ _ (by simp) (by omega) (by omega) (by omega) (by omega)).mono ?_; rintro e w' ⟨rfl, rfl⟩); refine hK _ _ (Junk.pair (by (first | exact jkc | repeat (first | with_reducible exact Junk.refl _ | with_reducible exact Junk.app _ _ _ _ _ | with_reducible apply Junk.alloc | with_reducible apply Junk.junk | with_reducible apply Junk.drew | with_reducible apply Junk.drewN | (with_reducible refine Junk.setCell ?_ (by simp) _))))) ?_; clear hK K; refine wpMix_nil (fun osm dm => ?_)
    (try simp only [World.junk_junk]); refine then_gen (fun os1 d1 => ?_)
    go_wp2
    go_returns
    exact ipPutM_ok hm (by (exact jkc)) (by simp) (by rw [EN.out, ES.out]) (putX_all ES.out EN.out a11) (by rw [EN.out, ES.out]; exact Hk.out) (by omega)
end Go.Proofs.Ytgjppmkadmfibaa
