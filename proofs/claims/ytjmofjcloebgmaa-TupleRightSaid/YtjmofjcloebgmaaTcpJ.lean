/- tcp.Put. -/
import Derived.Test.YtjmofjcloebgmaaTcpI
import Derived.Test.YtjmofjcloebgmaaRowAp
import Derived.Test.YtjmofjcloebgmaaIcmpPut
set_option linter.unusedVariables false
set_option maxRecDepth 100000
set_option linter.unusedSimpArgs false
namespace Go.Proofs.Ytjmofjcloebgmaa
open Go.RowKit
theorem t_ints_congr {w : World} {oa : Option Addr} {l : Nat} {k : IntKind} {xs ys : Nat → Int} (h : IntsAt w oa l k xs) (he : ∀ i, i < l → xs i = ys i) : IntsAt w oa l k ys := fun i hi => by
  rw [← he i hi]; exact h i hi
theorem t_make (w : World) (n L : Nat) (hn : n ≤ L) (hL : L ≤ 100000) : (Instr.makeSlice 23 (.int .i64 (n : Int)) (.int .i64 (L : Int))).run Try.prog w = .ok (.slice (some ⟨w.heap.size, 0, none⟩) n L) (w.alloc (.cells (rowArr L (fun _ => 0)) 5)) := by
  obtain ⟨i, hi, hz0, hz1, hz2⟩ := info_parts (P := Try.prog) (e := 5) (z := .int .u8 0) (size := 1) (bytes := 1) (by kernel_rfl)
  have h := run_make (P := Try.prog) w 23 5 i (.int .u8 0) Try.underlying23 hi hz0 .i64 .i64 n L (by omega) (by omega) (by rw [hz2]; omega) (by omega)
  rw [hz1] at h
  rw [h]
  simp only [Int.toNat_natCast, Nat.mul_one]
  rw [← rowArr_made]
  rfl
/-- What the block holds ahead of the options. -/
def tPut0 (t : Tc) (S : Nat) : Nat → Int :=
  upd (upd (upd (upd (upd (upd (upd (upd (upd (upd (upd (upd (upd (upd (upd (upd (upd (upd (fun _ => 0) 0 (t.sport / 256)) (0 + 1) (t.sport % 256)) 2 (t.dport / 256)) (2 + 1) (t.dport % 256)) 4 (t.seq / 65536 / 256)) (4 + 1) (t.seq / 65536 % 256)) (4 + 2) (t.seq % 65536 / 256)) (4 + 2 + 1) (t.seq % 256))
    8 (t.ack / 65536 / 256)) (8 + 1) (t.ack / 65536 % 256)) (8 + 2) (t.ack % 65536 / 256)) (8 + 2 + 1) (t.ack % 256)) 12 ((S : Int) / 4 * 16)) 13 t.flags) 14 (t.win / 256)) (14 + 1) (t.win % 256)) 18 (t.urg / 256)) (18 + 1) (t.urg % 256)
/-- .. and behind some options. -/
def tPutI (t : Tc) (S : Nat) (F : List Od) : Nat → Int := fun k => if k < 20 then tcHead t S 0 k else optB F (k - 20)
theorem tPut0_eq {t : Tc} {S : Nat} : ∀ k, tPut0 t S k = tPutI t S [] k := by
  intro k
  rcases twenty4 k with rfl | rfl | rfl | rfl | rfl | rfl | rfl | rfl | rfl | rfl | rfl | rfl | rfl | rfl | rfl | rfl | rfl | rfl | rfl | rfl | ⟨k, rfl⟩
  all_goals simp [tPut0, tPutI, upd, tcHead, optB]
  all_goals (intro h; omega)
theorem tPutI_push {t : Tc} {S n : Nat} {F : List Od} {k : Int} {l : Nat} {ys : Nat → Int} (hn : n = optsND F) :
    putAt (putAt (tPutI t S F) (20 + n) 2 (fun j => if j = 0 then k else 2 + (l : Int))) (20 + (n + 2)) l ys = tPutI t S (F ++ [⟨k, l, ys⟩]) := by
  subst hn
  funext q
  unfold tPutI putAt
  dsimp only
  by_cases h0 : q < 20
  · rw [if_neg (by omega), if_neg (by omega), if_pos h0, if_pos h0]
  · rw [if_neg h0, if_neg h0, optB_push, optB_one]
    by_cases h1 : q - 20 < optsND F
    · rw [if_neg (by omega), if_neg (by omega), if_pos h1]
    · rw [if_neg h1]
      by_cases h2 : q - 20 - optsND F = 0
      · rw [if_neg (by omega), if_pos (by omega), if_pos (by omega), if_pos h2]
      · by_cases h3 : q - 20 - optsND F = 1
        · rw [if_neg (by omega), if_pos (by omega), if_neg (by omega), if_neg h2, if_pos h3]
        · rw [if_neg h2, if_neg h3]
          by_cases h4 : q - 20 - optsND F < 2 + l
          · rw [if_pos (by omega), if_pos h4]
            show ys _ = ys _
            congr 1
            omega
          · rw [if_neg (by omega), if_neg (by omega), if_neg h4]
            exact optB_out _ _ (by omega)
theorem tPutI_all {t : Tc} {S : Nat} (hS : S = tcSz t) : ∀ q, q < S + t.bl → putAt (tPutI t S t.os) S t.bl t.body q = segB t 0 q := by
  intro q hq
  unfold putAt segB
  by_cases h1 : S ≤ q
  · rw [if_pos ⟨h1, hq⟩, if_neg (by omega), hS]
  · rw [if_neg (by omega), if_pos (by omega)]
    unfold tPutI
    split
    · rw [hS]
    · obtain ⟨k, rfl⟩ : ∃ k, q = k + 20 := ⟨q - 20, by omega⟩
      rw [Nat.add_sub_cancel]
      rfl
theorem inb_eq {n : Nat} {Q : Exit → Act → World → Prop} {x : Exit} {a : Act} {w w' : World} (h : w = w') (hh : Exit.inBlock n Q x a w') : Exit.inBlock n Q x a w := by subst h; exact hh
theorem inb_gen {n : Nat} {Q : Exit → Act → World → Prop} {x : Exit} {a : Act} {w : World} {os : Array Obj} {d : Nat} (h : ∀ os d, Exit.inBlock n Q x a (w.junk os d)) : Exit.inBlock n Q x a (w.junk os d) := h os d
theorem then_eq {K : Act → World → Prop} {Q : Exit → Act → World → Prop} {x : Exit} {a : Act} {w w' : World} (h : w = w') (hh : Exit.then K Q x a w') : Exit.then K Q x a w := by subst h; exact hh
theorem segB_sum {t : Tc} {c : Int} (hS : 20 ≤ tcSz t) : ∀ q, upd (upd (segB t 0) 16 (c / 256)) (16 + 1) (c % 256) q = segB t c q := by
  intro q
  by_cases h0 : q < tcSz t
  · rcases twenty4 q with rfl | rfl | rfl | rfl | rfl | rfl | rfl | rfl | rfl | rfl | rfl | rfl | rfl | rfl | rfl | rfl | rfl | rfl | rfl | rfl | ⟨k, rfl⟩
    all_goals simp [upd, segB, tcHead, h0]
  · rw [upd, if_neg (by omega), upd, if_neg (by omega)]
    unfold segB
    rw [if_neg h0, if_neg h0]
theorem tputM_ok {w V : World} {src dst : Int} {t : Tc} {L : Nat} {xs : Nat → Int} {os : Array Obj} {d g : Nat} (h : tcMay t = true) (hj : Junk w V) (hg : g = V.heap.size) (hL : L = tcSz t + t.bl) (hx : ∀ i, i < L → xs i = segOf src dst t i)
    (hb : ∀ i, i < L → 0 ≤ segOf src dst t i ∧ segOf src dst t i ≤ 255) (hm : L ≤ 100000) : TPutM w src dst t (.returned (.tuple #[.slice (some ⟨g, 0, none⟩) L L, .int .i64 0])) ((V.alloc (.cells (rowArr L xs) 5)).junk os d) := by
  have ho : Own w.heap.size ((V.alloc (.cells (rowArr L xs) 5)).junk os d) 5 1 (some ⟨g, 0, none⟩) L L (byL L (segOf src dst t)) := by
    have := own_lit' (B := w.heap.size) (w := V) (e := 5) (n := g) (m := L) (cur := rowArr L xs) os d hg hj.size (by simp) (by simp only [maxLen]; omega)
    rw [rowArr_congr hx] at this
    rw [rowArr_congr hx]
    simpa [rowArr, byL] using this
  exact ⟨_, L, L, by simp [tcErr, h], (hj.alloc _).junk _ _, own_bts ho hb, .inl ⟨h, hL, ho⟩⟩
theorem t_junk_nil (w : World) (d : Nat) (h : d = w.drawn) : w.junk #[] d = w := by subst h; simp [World.junk]
theorem t_half_row0 (V : World) (N : Nat) (xs : Nat → Int) (t : TypeId) (g off l c : Nat) (n : Int) (hg : g = V.heap.size) (hl : 2 ≤ l) (hn0 : 0 ≤ n) (hn1 : n ≤ 65535) (ho : off + 2 ≤ N) :
    Calls Try.prog 53 #[.slice (some ⟨g, off, none⟩) l c, .int .i64 n] (V.alloc (.cells (rowArr N xs) t)) fun e w' => e = .returned (.tuple #[]) ∧
      (V.alloc (.cells (rowArr N (upd (upd xs off (n / 256)) (off + 1) (n % 256))) t)) = w' := by
  have h := t_half_row V N xs t #[] V.drawn g off l c n hg hl hn0 hn1 ho
  have e : ∀ r, (V.alloc (.cells r t)).junk #[] V.drawn = V.alloc (.cells r t) := fun r => t_junk_nil _ _ rfl
  rw [e, e] at h
  exact h
set_option maxHeartbeats 8000000 in
theorem tput_any (src dst : Int) (t : Tc) (F : List Ot) (N : Nat) (oo ob : Option Addr) (co cb : Nat) (w : World) (h1 : 0 ≤ src ∧ src ≤ 4294967295) (h2 : 0 ≤ dst ∧ dst ≤ 4294967295) (hF : F.map Ot.d = t.os) (hFN : F.length = N) (hN : N ≤ 1000000)
    (hP : TcAt w F oo co t.bl t.body ob cb) (hl : ∀ f ∈ F, f.l ≤ 100000000) (hbl : t.bl ≤ 100000000) (hW : TcWf t) :
    Calls Try.prog 18 #[.int .u32 src, .int .u32 dst, .agg #[.int .i64 t.sport, .int .i64 t.dport, .int .u32 t.seq, .int .u32 t.ack, .int .i64 t.flags, .int .i64 t.win, .int .i64 t.urg, .slice oo N co, .slice ob t.bl cb]] w (TPutM w src dst t) := by
  have HP := Lib.hid hP
  have HF := Lib.hid hFN
  have HL := Lib.hid hl
  have HD := Lib.hid hF
  have hNc : N ≤ co := by have := hP.cap; omega
  have hrt := rtAll_d F
  rw [hF] at hrt
  have hon := optsND_d F
  rw [hF] at hon
  obtain ⟨T, hT⟩ : ∃ T, tcMay t = T := ⟨_, rfl⟩
  have HT := Lib.hid hT
  have HRT := Lib.hid hrt
  have HON := Lib.hid hon
  have HSZ := Lib.hid (show tcSz t = 20 + (optsN F + 3) / 4 * 4 by unfold tcSz; rw [hon])
  clear hP hl hT hF hrt hon hFN
  cases a0 : rtAll F with
  | false =>
    have HE := Lib.hid (show tcMay t = false by unfold tcMay; rw [HRT.out, a0]; rfl)
    go_enter Try.func18, Try.ntmps18
    go_wp2_with (first | (go_at_call 51; refine (tlength_any oo N co F _ hN hNc HF.out (HP.out.os.on (by ((try simp only [World.junk_junk, Array.append_assoc]); (repeat (first | with_reducible exact Junk.refl _ | with_reducible exact Junk.app _ _ _ _ _ | with_reducible exact Junk.app2 _ _ _ _ _ _ | with_reducible exact Junk.app3 _ _ _ _ _ _ _ | with_reducible exact Junk.app4 _ _ _ _ _ _ _ _ | with_reducible exact Junk.app5 _ _ _ _ _ _ _ _ _ | with_reducible apply Junk.alloc | with_reducible apply Junk.junk | with_reducible apply Junk.drew | with_reducible apply Junk.drewN))))) HL.out).mono ?_; rintro e w' ⟨rfl, ⟨osj, dj, rfl⟩⟩) | (go_at_call 52; refine (t_within_any _ _ _).mono ?_; rintro e w' ⟨rfl, rfl⟩))
    go_returns
    exact tputM_bad HE.out (by ((try simp only [World.junk_junk, Array.append_assoc]); (repeat (first | with_reducible exact Junk.refl _ | with_reducible exact Junk.app _ _ _ _ _ | with_reducible exact Junk.app2 _ _ _ _ _ _ | with_reducible exact Junk.app3 _ _ _ _ _ _ _ | with_reducible exact Junk.app4 _ _ _ _ _ _ _ _ | with_reducible exact Junk.app5 _ _ _ _ _ _ _ _ _ | with_reducible apply Junk.alloc | with_reducible apply Junk.junk | with_reducible apply Junk.drew | with_reducible apply Junk.drewN))))
  | true =>
    have h40 := rtAll_le a0
    obtain ⟨n, hn⟩ : ∃ n, optsN F = n := ⟨_, rfl⟩
    have HNN := Lib.hid hn
    obtain ⟨S, hS⟩ : ∃ S, S = tcSz t := ⟨_, rfl⟩
    have HS := Lib.hid hS
    have HTL := Lib.hid (fun w1 h => show Calls Try.prog 51 #[.slice oo N co] w1 fun e w' => e = .returned (.tuple #[.int .i64 (n : Int), .bool true]) ∧ Junk w1 w' by have := tlength_any oo N co F w1 hN hNc HF.out h HL.out; rw [a0, if_pos rfl, HNN.out] at this; exact this)
    have eS : (20 : Int) + ((n : Int) + 3) / 4 * 4 = (S : Int) := by rw [hS, HSZ.out, hn]; omega
    have hS20 : 20 ≤ S := by rw [hS, HSZ.out]; omega
    have hS60 : S ≤ 60 := by rw [hS, HSZ.out]; omega
    have hn40 : n ≤ 40 := by omega
    have hnS : 20 + n ≤ S := by rw [hS, HSZ.out, hn]; omega
    have hS4 : S % 4 = 0 := by rw [hS, HSZ.out]; omega
    clear hn hS h40
    cases a1 : t_withinB t.sport 65535 with
    | false =>
      have HE := Lib.hid (show tcMay t = false by simp only [tcMay, *, Bool.false_and, Bool.and_false, Bool.true_and])
      clear hS4
      go_enter Try.func18, Try.ntmps18
      go_wp2_with (first | (go_at_call 51; refine (HTL.out _ (HP.out.os.on (by ((try simp only [World.junk_junk, Array.append_assoc]); (repeat (first | with_reducible exact Junk.refl _ | with_reducible exact Junk.app _ _ _ _ _ | with_reducible exact Junk.app2 _ _ _ _ _ _ | with_reducible exact Junk.app3 _ _ _ _ _ _ _ | with_reducible exact Junk.app4 _ _ _ _ _ _ _ _ | with_reducible exact Junk.app5 _ _ _ _ _ _ _ _ _ | with_reducible apply Junk.alloc | with_reducible apply Junk.junk | with_reducible apply Junk.drew | with_reducible apply Junk.drewN)))))).mono ?_; rintro e w' ⟨rfl, ⟨osj, dj, rfl⟩⟩) | (go_at_call 52; refine (t_within_any _ _ _).mono ?_; rintro e w' ⟨rfl, rfl⟩))
      go_returns
      exact tputM_bad HE.out (by ((try simp only [World.junk_junk, Array.append_assoc]); (repeat (first | with_reducible exact Junk.refl _ | with_reducible exact Junk.app _ _ _ _ _ | with_reducible exact Junk.app2 _ _ _ _ _ _ | with_reducible exact Junk.app3 _ _ _ _ _ _ _ | with_reducible exact Junk.app4 _ _ _ _ _ _ _ _ | with_reducible exact Junk.app5 _ _ _ _ _ _ _ _ _ | with_reducible apply Junk.alloc | with_reducible apply Junk.junk | with_reducible apply Junk.drew | with_reducible apply Junk.drewN))))
    | true =>
      cases a2 : t_withinB t.dport 65535 with
      | false =>
        have HE := Lib.hid (show tcMay t = false by simp only [tcMay, *, Bool.false_and, Bool.and_false, Bool.true_and])
        clear hS4
        go_enter Try.func18, Try.ntmps18
        go_wp2_with (first | (go_at_call 51; refine (HTL.out _ (HP.out.os.on (by ((try simp only [World.junk_junk, Array.append_assoc]); (repeat (first | with_reducible exact Junk.refl _ | with_reducible exact Junk.app _ _ _ _ _ | with_reducible exact Junk.app2 _ _ _ _ _ _ | with_reducible exact Junk.app3 _ _ _ _ _ _ _ | with_reducible exact Junk.app4 _ _ _ _ _ _ _ _ | with_reducible exact Junk.app5 _ _ _ _ _ _ _ _ _ | with_reducible apply Junk.alloc | with_reducible apply Junk.junk | with_reducible apply Junk.drew | with_reducible apply Junk.drewN)))))).mono ?_; rintro e w' ⟨rfl, ⟨osj, dj, rfl⟩⟩) | (go_at_call 52; refine (t_within_any _ _ _).mono ?_; rintro e w' ⟨rfl, rfl⟩))
        go_returns
        exact tputM_bad HE.out (by ((try simp only [World.junk_junk, Array.append_assoc]); (repeat (first | with_reducible exact Junk.refl _ | with_reducible exact Junk.app _ _ _ _ _ | with_reducible exact Junk.app2 _ _ _ _ _ _ | with_reducible exact Junk.app3 _ _ _ _ _ _ _ | with_reducible exact Junk.app4 _ _ _ _ _ _ _ _ | with_reducible exact Junk.app5 _ _ _ _ _ _ _ _ _ | with_reducible apply Junk.alloc | with_reducible apply Junk.junk | with_reducible apply Junk.drew | with_reducible apply Junk.drewN))))
      | true =>
        cases a3 : t_withinB t.win 65535 with
        | false =>
          have HE := Lib.hid (show tcMay t = false by simp only [tcMay, *, Bool.false_and, Bool.and_false, Bool.true_and])
          clear hS4
          go_enter Try.func18, Try.ntmps18
          go_wp2_with (first | (go_at_call 51; refine (HTL.out _ (HP.out.os.on (by ((try simp only [World.junk_junk, Array.append_assoc]); (repeat (first | with_reducible exact Junk.refl _ | with_reducible exact Junk.app _ _ _ _ _ | with_reducible exact Junk.app2 _ _ _ _ _ _ | with_reducible exact Junk.app3 _ _ _ _ _ _ _ | with_reducible exact Junk.app4 _ _ _ _ _ _ _ _ | with_reducible exact Junk.app5 _ _ _ _ _ _ _ _ _ | with_reducible apply Junk.alloc | with_reducible apply Junk.junk | with_reducible apply Junk.drew | with_reducible apply Junk.drewN)))))).mono ?_; rintro e w' ⟨rfl, ⟨osj, dj, rfl⟩⟩) | (go_at_call 52; refine (t_within_any _ _ _).mono ?_; rintro e w' ⟨rfl, rfl⟩))
          go_returns
          exact tputM_bad HE.out (by ((try simp only [World.junk_junk, Array.append_assoc]); (repeat (first | with_reducible exact Junk.refl _ | with_reducible exact Junk.app _ _ _ _ _ | with_reducible exact Junk.app2 _ _ _ _ _ _ | with_reducible exact Junk.app3 _ _ _ _ _ _ _ | with_reducible exact Junk.app4 _ _ _ _ _ _ _ _ | with_reducible exact Junk.app5 _ _ _ _ _ _ _ _ _ | with_reducible apply Junk.alloc | with_reducible apply Junk.junk | with_reducible apply Junk.drew | with_reducible apply Junk.drewN))))
        | true =>
          cases a4 : t_withinB t.urg 65535 with
          | false =>
            have HE := Lib.hid (show tcMay t = false by simp only [tcMay, *, Bool.false_and, Bool.and_false, Bool.true_and])
            clear hS4
            go_enter Try.func18, Try.ntmps18
            go_wp2_with (first | (go_at_call 51; refine (HTL.out _ (HP.out.os.on (by ((try simp only [World.junk_junk, Array.append_assoc]); (repeat (first | with_reducible exact Junk.refl _ | with_reducible exact Junk.app _ _ _ _ _ | with_reducible exact Junk.app2 _ _ _ _ _ _ | with_reducible exact Junk.app3 _ _ _ _ _ _ _ | with_reducible exact Junk.app4 _ _ _ _ _ _ _ _ | with_reducible exact Junk.app5 _ _ _ _ _ _ _ _ _ | with_reducible apply Junk.alloc | with_reducible apply Junk.junk | with_reducible apply Junk.drew | with_reducible apply Junk.drewN)))))).mono ?_; rintro e w' ⟨rfl, ⟨osj, dj, rfl⟩⟩) | (go_at_call 52; refine (t_within_any _ _ _).mono ?_; rintro e w' ⟨rfl, rfl⟩))
            go_returns
            exact tputM_bad HE.out (by ((try simp only [World.junk_junk, Array.append_assoc]); (repeat (first | with_reducible exact Junk.refl _ | with_reducible exact Junk.app _ _ _ _ _ | with_reducible exact Junk.app2 _ _ _ _ _ _ | with_reducible exact Junk.app3 _ _ _ _ _ _ _ | with_reducible exact Junk.app4 _ _ _ _ _ _ _ _ | with_reducible exact Junk.app5 _ _ _ _ _ _ _ _ _ | with_reducible apply Junk.alloc | with_reducible apply Junk.junk | with_reducible apply Junk.drew | with_reducible apply Junk.drewN))))
          | true =>
            cases a5 : t_withinB t.flags 255 with
            | false =>
              have HE := Lib.hid (show tcMay t = false by simp only [tcMay, *, Bool.false_and, Bool.and_false, Bool.true_and])
              clear hS4
              go_enter Try.func18, Try.ntmps18
              go_wp2_with (first | (go_at_call 51; refine (HTL.out _ (HP.out.os.on (by ((try simp only [World.junk_junk, Array.append_assoc]); (repeat (first | with_reducible exact Junk.refl _ | with_reducible exact Junk.app _ _ _ _ _ | with_reducible exact Junk.app2 _ _ _ _ _ _ | with_reducible exact Junk.app3 _ _ _ _ _ _ _ | with_reducible exact Junk.app4 _ _ _ _ _ _ _ _ | with_reducible exact Junk.app5 _ _ _ _ _ _ _ _ _ | with_reducible apply Junk.alloc | with_reducible apply Junk.junk | with_reducible apply Junk.drew | with_reducible apply Junk.drewN)))))).mono ?_; rintro e w' ⟨rfl, ⟨osj, dj, rfl⟩⟩) | (go_at_call 52; refine (t_within_any _ _ _).mono ?_; rintro e w' ⟨rfl, rfl⟩))
              go_returns
              exact tputM_bad HE.out (by ((try simp only [World.junk_junk, Array.append_assoc]); (repeat (first | with_reducible exact Junk.refl _ | with_reducible exact Junk.app _ _ _ _ _ | with_reducible exact Junk.app2 _ _ _ _ _ _ | with_reducible exact Junk.app3 _ _ _ _ _ _ _ | with_reducible exact Junk.app4 _ _ _ _ _ _ _ _ | with_reducible exact Junk.app5 _ _ _ _ _ _ _ _ _ | with_reducible apply Junk.alloc | with_reducible apply Junk.junk | with_reducible apply Junk.drew | with_reducible apply Junk.drewN))))
            | true =>
              by_cases a6 : S + t.bl ≤ 65535
              case neg =>
                have HE := Lib.hid (show tcMay t = false by unfold tcMay; rw [show decide (tcSz t + t.bl ≤ 65535) = false by rw [← HS.out]; exact decide_eq_false a6]; simp)
                have a6' : (65535 : Int) - (S : Int) < (t.bl : Int) := by omega
                clear hS4
                go_enter Try.func18, Try.ntmps18
                go_wp2_with (first | (go_at_call 51; refine (HTL.out _ (HP.out.os.on (by ((try simp only [World.junk_junk, Array.append_assoc]); (repeat (first | with_reducible exact Junk.refl _ | with_reducible exact Junk.app _ _ _ _ _ | with_reducible exact Junk.app2 _ _ _ _ _ _ | with_reducible exact Junk.app3 _ _ _ _ _ _ _ | with_reducible exact Junk.app4 _ _ _ _ _ _ _ _ | with_reducible exact Junk.app5 _ _ _ _ _ _ _ _ _ | with_reducible apply Junk.alloc | with_reducible apply Junk.junk | with_reducible apply Junk.drew | with_reducible apply Junk.drewN)))))).mono ?_; rintro e w' ⟨rfl, ⟨osj, dj, rfl⟩⟩) | (go_at_call 52; refine (t_within_any _ _ _).mono ?_; rintro e w' ⟨rfl, rfl⟩))
                go_returns
                exact tputM_bad HE.out (by ((try simp only [World.junk_junk, Array.append_assoc]); (repeat (first | with_reducible exact Junk.refl _ | with_reducible exact Junk.app _ _ _ _ _ | with_reducible exact Junk.app2 _ _ _ _ _ _ | with_reducible exact Junk.app3 _ _ _ _ _ _ _ | with_reducible exact Junk.app4 _ _ _ _ _ _ _ _ | with_reducible exact Junk.app5 _ _ _ _ _ _ _ _ _ | with_reducible apply Junk.alloc | with_reducible apply Junk.junk | with_reducible apply Junk.drew | with_reducible apply Junk.drewN))))
              have HM := Lib.hid (show TcMayP t from ⟨by rw [HRT.out]; exact a0, t_withinB_true a1, t_withinB_true a2, t_withinB_true a3, t_withinB_true a4, t_withinB_true a5, by rw [← HS.out]; exact a6⟩)
              have HMay := Lib.hid (tcMay_iff.2 HM.out)
              have HBY := Lib.hid (segB_byte HM.out hW (c := 0) (by omega))
              have HBO := Lib.hid (segB_byte HM.out hW (segSum_bd h1 h2 HM.out hW))
              obtain ⟨b1, b1'⟩ := t_withinB_true a1
              obtain ⟨b2, b2'⟩ := t_withinB_true a2
              obtain ⟨b3, b3'⟩ := t_withinB_true a3
              obtain ⟨b4, b4'⟩ := t_withinB_true a4
              obtain ⟨b5, b5'⟩ := t_withinB_true a5
              obtain ⟨s1, s1'⟩ := hW.seq
              obtain ⟨u1, u1'⟩ := hW.ack
              have sb := segSum_bd h1 h2 HM.out hW
              obtain ⟨C, hC⟩ : ∃ C, segSum src dst t = C := ⟨_, rfl⟩
              have HC := Lib.hid hC
              rw [hC] at sb
              have hCs : 65535 - tsumN src dst (segB t 0) (tcSz t + t.bl) = C := by rw [← hC]; rfl
              obtain ⟨sb0, sb1⟩ := sb
              obtain ⟨L, hL⟩ : ∃ L, S + t.bl = L := ⟨_, rfl⟩
              have HLL := Lib.hid hL
              have eL : (S : Int) + (t.bl : Int) = (L : Int) := by omega
              have HCs := Lib.hid (show 65535 - tsumN src dst (segB t 0) L = C by rw [← hCs, ← HS.out, hL])
              have a6' : ¬ (65535 : Int) - (S : Int) < (t.bl : Int) := by omega
              have hmk := fun w : World => t_make w S L (by omega) (by omega)
              have q0 := wrapk_u8 ((S : Int) / 4 * 16) (by omega) (by omega)
              have q1 := wrapk_u8 t.flags (by omega) (by omega)
              have j2 : (2 : Int) ≤ (S : Int) := by omega
              have j4 : (4 : Int) ≤ (S : Int) := by omega
              have j8 : (8 : Int) ≤ (S : Int) := by omega
              have j12 : (12 : Int) < (S : Int) := by omega
              have j13 : (13 : Int) < (S : Int) := by omega
              have j14 : (14 : Int) ≤ (S : Int) := by omega
              have j18 : (18 : Int) ≤ (S : Int) := by omega
              have j20 : (20 : Int) ≤ (L : Int) := by omega
              have i12 : 12 < S := by omega
              have i13 : 13 < S := by omega
              have k12 : 12 < L := by omega
              have k13 : 13 < L := by omega
              have c2 : ¬ L = 2 := by omega
              have c4 : ¬ L = 4 := by omega
              have c8 : ¬ L = 8 := by omega
              have c14 : ¬ L = 14 := by omega
              have c16 : ¬ L = 16 := by omega
              have c18 : ¬ L = 18 := by omega
              have j16 : (16 : Int) ≤ (L : Int) := by omega
              clear hC hCs hL hS4
              go_enter Try.func18, Try.ntmps18
              go_wp2_with (first | (go_at_call 51; refine (HTL.out _ (HP.out.os.on (by ((try simp only [World.junk_junk, Array.append_assoc]); (repeat (first | with_reducible exact Junk.refl _ | with_reducible exact Junk.app _ _ _ _ _ | with_reducible exact Junk.app2 _ _ _ _ _ _ | with_reducible exact Junk.app3 _ _ _ _ _ _ _ | with_reducible exact Junk.app4 _ _ _ _ _ _ _ _ | with_reducible exact Junk.app5 _ _ _ _ _ _ _ _ _ | with_reducible apply Junk.alloc | with_reducible apply Junk.junk | with_reducible apply Junk.drew | with_reducible apply Junk.drewN)))))).mono ?_; rintro e w' ⟨rfl, ⟨osj, dj, rfl⟩⟩) | (go_at_call 52; refine (t_within_any _ _ _).mono ?_; rintro e w' ⟨rfl, rfl⟩) | (go_at_call 53; refine (t_half_row0 ((w.alloc (.cells #[.int .i64 t.sport, .int .i64 t.dport, .int .u32 t.seq, .int .u32 t.ack, .int .i64 t.flags, .int .i64 t.win, .int .i64 t.urg, .slice oo N co, .slice ob t.bl cb] 27)).junk osj dj) L _ _ _ _ _ _ _ (by simp) (by omega) (by omega) (by omega) (by omega)).mono ?_; rintro e w' ⟨rfl, rfl⟩))
              refine wp_region_mixj ((w.alloc (.cells #[.int .i64 t.sport, .int .i64 t.dport, .int .u32 t.seq, .int .u32 t.ack, .int .i64 t.flags, .int .i64 t.win, .int .i64 t.urg, .slice oo N co, .slice ob t.bl cb] 27)).junk osj dj) [(0, true), (1, true), (2, true), (3, true), (4, false)] (by kernel_rfl) (by kernel_rfl) (by (repeat (first | with_reducible exact Junk.refl _ | with_reducible exact Junk.app _ _ _ _ _ | with_reducible apply Junk.alloc | with_reducible apply Junk.junk | with_reducible apply Junk.drew | with_reducible apply Junk.drewN))) ?_; (iterate 4 (refine wpMix_q rfl (fun K hK => ?_); (go_simp; try go_bits); (refine hK _ ?_; clear hK K))); refine wpMix_e rfl (fun osm7_0 dm7_0 K hK => ?_); (go_simp; try go_bits); (go_at_call 53; refine (t_half_row ((w.alloc (.cells #[.int .i64 t.sport, .int .i64 t.dport, .int .u32 t.seq, .int .u32 t.ack, .int .i64 t.flags, .int .i64 t.win, .int .i64 t.urg, .slice oo N co, .slice ob t.bl cb] 27)).junk osj dj) L _ _ _ _ _ _ _ _ _ (by simp) (by omega) (by omega) (by omega) (by omega)).mono ?_; rintro e w' ⟨rfl, rfl⟩); refine hK _ _ (Junk.pair (by (repeat (first | with_reducible exact Junk.refl _ | with_reducible exact Junk.app _ _ _ _ _ | with_reducible apply Junk.alloc | with_reducible apply Junk.junk | with_reducible apply Junk.drew | with_reducible apply Junk.drewN | (with_reducible refine Junk.setCell ?_ (by simp) _))))) ?_; clear hK K; refine wpMix_nil (fun osm dm => ?_)
              (try simp only [World.junk_junk]); refine then_gen (fun os1 d1 => ?_)
              go_wp2
              refine wp_region_mixj ((w.alloc (.cells #[.int .i64 t.sport, .int .i64 t.dport, .int .u32 t.seq, .int .u32 t.ack, .int .i64 t.flags, .int .i64 t.win, .int .i64 t.urg, .slice oo N co, .slice ob t.bl cb] 27)).junk osj dj) [(0, true), (1, true), (2, true), (3, true), (4, false)] (by kernel_rfl) (by kernel_rfl) (by (repeat (first | with_reducible exact Junk.refl _ | with_reducible exact Junk.app _ _ _ _ _ | with_reducible apply Junk.alloc | with_reducible apply Junk.junk | with_reducible apply Junk.drew | with_reducible apply Junk.drewN))) ?_; (iterate 4 (refine wpMix_q rfl (fun K hK => ?_); (go_simp; try go_bits); (refine hK _ ?_; clear hK K))); refine wpMix_e rfl (fun osm8_0 dm8_0 K hK => ?_); (go_simp; try go_bits); (go_at_call 54; refine (t_whole_row ((w.alloc (.cells #[.int .i64 t.sport, .int .i64 t.dport, .int .u32 t.seq, .int .u32 t.ack, .int .i64 t.flags, .int .i64 t.win, .int .i64 t.urg, .slice oo N co, .slice ob t.bl cb] 27)).junk osj dj) L _ _ _ _ _ _ _ _ _ (by simp) (by omega) (by omega) (by omega) s1 s1' (by omega)).mono ?_; rintro e w' ⟨rfl, rfl⟩); refine hK _ _ (Junk.pair (by (repeat (first | with_reducible exact Junk.refl _ | with_reducible exact Junk.app _ _ _ _ _ | with_reducible apply Junk.alloc | with_reducible apply Junk.junk | with_reducible apply Junk.drew | with_reducible apply Junk.drewN | (with_reducible refine Junk.setCell ?_ (by simp) _))))) ?_; clear hK K; refine wpMix_nil (fun osm dm => ?_)
              (try simp only [World.junk_junk]); refine then_gen (fun os1 d1 => ?_)
              go_wp2
              refine wp_region_mixj ((w.alloc (.cells #[.int .i64 t.sport, .int .i64 t.dport, .int .u32 t.seq, .int .u32 t.ack, .int .i64 t.flags, .int .i64 t.win, .int .i64 t.urg, .slice oo N co, .slice ob t.bl cb] 27)).junk osj dj) [(0, true), (1, true), (2, true), (3, true), (4, false)] (by kernel_rfl) (by kernel_rfl) (by (repeat (first | with_reducible exact Junk.refl _ | with_reducible exact Junk.app _ _ _ _ _ | with_reducible apply Junk.alloc | with_reducible apply Junk.junk | with_reducible apply Junk.drew | with_reducible apply Junk.drewN))) ?_; (iterate 4 (refine wpMix_q rfl (fun K hK => ?_); (go_simp; try go_bits); (refine hK _ ?_; clear hK K))); refine wpMix_e rfl (fun osm9_0 dm9_0 K hK => ?_); (go_simp; try go_bits); (go_at_call 54; refine (t_whole_row ((w.alloc (.cells #[.int .i64 t.sport, .int .i64 t.dport, .int .u32 t.seq, .int .u32 t.ack, .int .i64 t.flags, .int .i64 t.win, .int .i64 t.urg, .slice oo N co, .slice ob t.bl cb] 27)).junk osj dj) L _ _ _ _ _ _ _ _ _ (by simp) (by omega) (by omega) (by omega) u1 u1' (by omega)).mono ?_; rintro e w' ⟨rfl, rfl⟩); refine hK _ _ (Junk.pair (by (repeat (first | with_reducible exact Junk.refl _ | with_reducible exact Junk.app _ _ _ _ _ | with_reducible apply Junk.alloc | with_reducible apply Junk.junk | with_reducible apply Junk.drew | with_reducible apply Junk.drewN | (with_reducible refine Junk.setCell ?_ (by simp) _))))) ?_; clear hK K; refine wpMix_nil (fun osm dm => ?_)
              (try simp only [World.junk_junk]); refine then_gen (fun os1 d1 => ?_)
              go_wp2
              refine wp_region_mixj ((w.alloc (.cells #[.int .i64 t.sport, .int .i64 t.dport, .int .u32 t.seq, .int .u32 t.ack, .int .i64 t.flags, .int .i64 t.win, .int .i64 t.urg, .slice oo N co, .slice ob t.bl cb] 27)).junk osj dj) [(0, true), (1, true), (2, true), (3, true), (4, true), (5, true), (6, true), (7, true), (8, true), (9, true), (10, false), (11, true), (12, false)] (by kernel_rfl) (by kernel_rfl) (by (repeat (first | with_reducible exact Junk.refl _ | with_reducible exact Junk.app _ _ _ _ _ | with_reducible apply Junk.alloc | with_reducible apply Junk.junk | with_reducible apply Junk.drew | with_reducible apply Junk.drewN))) ?_; (iterate 10 (refine wpMix_q rfl (fun K hK => ?_); (go_simp; try go_bits); (refine hK _ ?_; clear hK K))); refine wpMix_e rfl (fun osm10_0 dm10_0 K hK => ?_); (go_simp; try go_bits); refine hK _ _ (Junk.pair (by (repeat (first | with_reducible exact Junk.refl _ | with_reducible exact Junk.app _ _ _ _ _ | with_reducible apply Junk.alloc | with_reducible apply Junk.junk | with_reducible apply Junk.drew | with_reducible apply Junk.drewN | (with_reducible refine Junk.setCell ?_ (by simp) _))))) ?_; clear hK K; (iterate 1 (refine wpMix_q rfl (fun K hK => ?_); (go_simp; try go_bits); (refine hK _ ?_; clear hK K))); refine wpMix_e rfl (fun osm10_1 dm10_1 K hK => ?_); (go_simp; try go_bits); refine hK _ _ (Junk.pair (by (repeat (first | with_reducible exact Junk.refl _ | with_reducible exact Junk.app _ _ _ _ _ | with_reducible apply Junk.alloc | with_reducible apply Junk.junk | with_reducible apply Junk.drew | with_reducible apply Junk.drewN | (with_reducible refine Junk.setCell ?_ (by simp) _))))) ?_; clear hK K; refine wpMix_nil (fun osm dm => ?_)
              (try simp only [World.junk_junk]); refine then_gen (fun os1 d1 => ?_)
              go_wp2
              refine wp_region_mixj ((w.alloc (.cells #[.int .i64 t.sport, .int .i64 t.dport, .int .u32 t.seq, .int .u32 t.ack, .int .i64 t.flags, .int .i64 t.win, .int .i64 t.urg, .slice oo N co, .slice ob t.bl cb] 27)).junk osj dj) [(0, true), (1, true), (2, true), (3, true), (4, false)] (by kernel_rfl) (by kernel_rfl) (by (repeat (first | with_reducible exact Junk.refl _ | with_reducible exact Junk.app _ _ _ _ _ | with_reducible apply Junk.alloc | with_reducible apply Junk.junk | with_reducible apply Junk.drew | with_reducible apply Junk.drewN))) ?_; (iterate 4 (refine wpMix_q rfl (fun K hK => ?_); (go_simp; try go_bits); (refine hK _ ?_; clear hK K))); refine wpMix_e rfl (fun osm11_0 dm11_0 K hK => ?_); (go_simp; try go_bits); (go_at_call 53; refine (t_half_row ((w.alloc (.cells #[.int .i64 t.sport, .int .i64 t.dport, .int .u32 t.seq, .int .u32 t.ack, .int .i64 t.flags, .int .i64 t.win, .int .i64 t.urg, .slice oo N co, .slice ob t.bl cb] 27)).junk osj dj) L _ _ _ _ _ _ _ _ _ (by simp) (by omega) (by omega) (by omega) (by omega)).mono ?_; rintro e w' ⟨rfl, rfl⟩); refine hK _ _ (Junk.pair (by (repeat (first | with_reducible exact Junk.refl _ | with_reducible exact Junk.app _ _ _ _ _ | with_reducible apply Junk.alloc | with_reducible apply Junk.junk | with_reducible apply Junk.drew | with_reducible apply Junk.drewN | (with_reducible refine Junk.setCell ?_ (by simp) _))))) ?_; clear hK K; refine wpMix_nil (fun osm dm => ?_)
              (try simp only [World.junk_junk]); refine then_gen (fun os1 d1 => ?_)
              go_wp2
              refine wp_region_mixj ((w.alloc (.cells #[.int .i64 t.sport, .int .i64 t.dport, .int .u32 t.seq, .int .u32 t.ack, .int .i64 t.flags, .int .i64 t.win, .int .i64 t.urg, .slice oo N co, .slice ob t.bl cb] 27)).junk osj dj) [(0, true), (1, true), (2, true), (3, true), (4, false)] (by kernel_rfl) (by kernel_rfl) (by (repeat (first | with_reducible exact Junk.refl _ | with_reducible exact Junk.app _ _ _ _ _ | with_reducible apply Junk.alloc | with_reducible apply Junk.junk | with_reducible apply Junk.drew | with_reducible apply Junk.drewN))) ?_; (iterate 4 (refine wpMix_q rfl (fun K hK => ?_); (go_simp; try go_bits); (refine hK _ ?_; clear hK K))); refine wpMix_e rfl (fun osm12_0 dm12_0 K hK => ?_); (go_simp; try go_bits); (go_at_call 53; refine (t_half_row ((w.alloc (.cells #[.int .i64 t.sport, .int .i64 t.dport, .int .u32 t.seq, .int .u32 t.ack, .int .i64 t.flags, .int .i64 t.win, .int .i64 t.urg, .slice oo N co, .slice ob t.bl cb] 27)).junk osj dj) L _ _ _ _ _ _ _ _ _ (by simp) (by omega) (by omega) (by omega) (by omega)).mono ?_; rintro e w' ⟨rfl, rfl⟩); refine hK _ _ (Junk.pair (by (repeat (first | with_reducible exact Junk.refl _ | with_reducible exact Junk.app _ _ _ _ _ | with_reducible apply Junk.alloc | with_reducible apply Junk.junk | with_reducible apply Junk.drew | with_reducible apply Junk.drewN | (with_reducible refine Junk.setCell ?_ (by simp) _))))) ?_; clear hK K; refine wpMix_nil (fun osm dm => ?_)
              (try simp only [World.junk_junk]); refine then_gen (fun os1 d1 => ?_)
              go_upto_region 14 with (fail)
              generalize hdp : (if L = 20 then (some (⟨w.heap.size + 1 + osj.size, 0, none⟩ : Addr)) else some ⟨w.heap.size + 1 + osj.size, 20, none⟩) = dp20
              have HDP := Lib.hid hdp
              clear hdp
              go_wp2
              go_loopw [12, 118] (fun v u wr => ∃ (i : Nat) (os : Array Obj) (d : Nat), v = .slice dp20 (optsN (F.take i)) (L - 20) ∧ u = .int .i64 (i : Int) ∧ wr = (((w.alloc (.cells #[.int .i64 t.sport, .int .i64 t.dport, .int .u32 t.seq, .int .u32 t.ack, .int .i64 t.flags, .int .i64 t.win, .int .i64 t.urg, .slice oo N co, .slice ob t.bl cb] 27)).junk osj dj).alloc (.cells (rowArr L (tPutI t S ((F.take i).map Ot.d))) 5)).junk os d ∧ i ≤ N) (fun _ u _ => N + 1 - (intOf u).toNat)
              case atStart => exact ⟨0, os1, d1, rfl, rfl, congrArg (fun r => (((w.alloc (.cells #[.int .i64 t.sport, .int .i64 t.dport, .int .u32 t.seq, .int .u32 t.ack, .int .i64 t.flags, .int .i64 t.win, .int .i64 t.urg, .slice oo N co, .slice ob t.bl cb] 27)).junk osj dj).alloc (.cells r 5)).junk os1 d1) (rowArr_congr (xs := tPut0 t S) (fun i _ => tPut0_eq i)), by omega⟩
              case round =>
                obtain ⟨i, os, d, rfl, rfl, rfl, hi⟩ := hrel
                by_cases hiN : i < N
                case neg =>
                  have hi2 : ¬ (i : Int) < (N : Int) := by omega
                  obtain rfl : N = i := by omega
                  rw [show List.map Ot.d (List.take N F) = t.os by rw [List.take_of_length_le (by rw [HF.out]; omega)]; exact HD.out]
                  have HROW := Lib.hid (show rowArr L (putAt (tPutI t S t.os) (0 + S) t.bl t.body) = rowArr L (segB t 0) from rowArr_congr (fun q hq => by rw [Nat.zero_add]; exact tPutI_all HS.out q (by rw [HLL.out]; exact hq)))
                  go_wp2_with (first | (at_builtin; (refine ap_row rfl _ _ 23 rfl 5 Try.underlying23 (by kernel_rfl) (fun c => ((w.alloc (.cells #[.int .i64 t.sport, .int .i64 t.dport, .int .u32 t.seq, .int .u32 t.ack, .int .i64 t.flags, .int .i64 t.win, .int .i64 t.urg, .slice oo N co, .slice ob t.bl cb] 27)).junk osj dj).alloc (.cells c 5)) os d L (tPutI t S t.os) 5 (w.heap.size + 1 + osj.size) rfl (heap_top _ _ _ _ (by simp)) (set_top _ _ _ _ (by simp)) _ 0 S L rfl ob t.bl cb rfl t.body (fun _ => rfl) (HP.out.body.at_.on (by (repeat (first | with_reducible exact Junk.refl _ | with_reducible exact Junk.app _ _ _ _ _ | with_reducible apply Junk.alloc | with_reducible apply Junk.junk | with_reducible apply Junk.drew | with_reducible apply Junk.drewN)))) (fun h => HP.out.body.nil h) (by omega) (by omega) ?_; rw [HROW.out, HLL.out])))
                  have HSUM := Lib.hid (fun (w1 : World) (g c1 : Nat) (h : IntsAt w1 (some ⟨g, 0, none⟩) L .u8 (segB t 0)) => show Calls Try.prog 43 #[.int .u32 src, .int .u32 dst, .slice (some ⟨g, 0, none⟩) L c1] w1 fun e w' => e = .returned (.int .u16 (65535 - C)) ∧ Junk w1 w' by have := tsum_any src dst (some ⟨g, 0, none⟩) L c1 (segB t 0) w1 h1 h2 (by omega) h (by rw [← HLL.out, HS.out]; exact HBY.out); rw [show tsumN src dst (segB t 0) L = 65535 - C by have := HCs.out; omega] at this; exact this)
                  have qx := xor_u16 (65535 - C) (by omega) (by omega)
                  rw [show (65535 : Int) - (65535 - C) = C by omega] at qx
                  have qx1 : bits .xor .u16 IntKind.u16.max (65535 - C) = C := qx
                  have qx2 : bits .xor .u16 (if IntKind.u16.signed = true then -1 else IntKind.u16.max) (65535 - C) = C := qx
                  have qw := wrapk_i64 C (by omega) (by omega)
                  refine wp_region_mixj ((w.alloc (.cells #[.int .i64 t.sport, .int .i64 t.dport, .int .u32 t.seq, .int .u32 t.ack, .int .i64 t.flags, .int .i64 t.win, .int .i64 t.urg, .slice oo N co, .slice ob t.bl cb] 27)).junk osj dj) [(0, true), (1, true), (2, true), (3, true), (4, true), (5, false), (6, true), (7, true), (8, false)] (by kernel_rfl) (by kernel_rfl) (by (repeat (first | with_reducible exact Junk.refl _ | with_reducible exact Junk.app _ _ _ _ _ | with_reducible apply Junk.alloc | with_reducible apply Junk.junk | with_reducible apply Junk.drew | with_reducible apply Junk.drewN))) ?_; (iterate 5 (refine wpMix_q rfl (fun K hK => ?_); (go_simp; try go_bits); (refine hK _ ?_; clear hK K))); refine wpMix_e rfl (fun osm20_0 dm20_0 K hK => ?_); (go_simp; try go_bits); (go_at_call 43; refine (HSUM.out _ _ _ (t_ints_congr (t_ints_rowj ((w.alloc (.cells #[.int .i64 t.sport, .int .i64 t.dport, .int .u32 t.seq, .int .u32 t.ack, .int .i64 t.flags, .int .i64 t.win, .int .i64 t.urg, .slice oo N co, .slice ob t.bl cb] 27)).junk osj dj) L (segB t 0) 5 _ _ _ 0 L (by simp) (by omega)) (fun i _ => by rw [Nat.zero_add]))).mono ?_; rintro e w' ⟨rfl, ⟨oss, ds, rfl⟩⟩; try simp only [World.junk_junk]); refine hK _ _ (Junk.pair (by (repeat (first | with_reducible exact Junk.refl _ | with_reducible exact Junk.app _ _ _ _ _ | with_reducible apply Junk.alloc | with_reducible apply Junk.junk | with_reducible apply Junk.drew | with_reducible apply Junk.drewN | (with_reducible refine Junk.setCell ?_ (by simp) _))))) ?_; clear hK K; (iterate 2 (refine wpMix_q rfl (fun K hK => ?_); (go_simp; try go_bits); (refine hK _ ?_; clear hK K))); refine wpMix_e rfl (fun osm20_1 dm20_1 K hK => ?_); (go_simp; try go_bits); (go_at_call 53; refine (t_half_row ((w.alloc (.cells #[.int .i64 t.sport, .int .i64 t.dport, .int .u32 t.seq, .int .u32 t.ack, .int .i64 t.flags, .int .i64 t.win, .int .i64 t.urg, .slice oo N co, .slice ob t.bl cb] 27)).junk osj dj) L _ _ _ _ _ _ _ _ _ (by simp) (by omega) (by omega) (by omega) (by omega)).mono ?_; rintro e w' ⟨rfl, rfl⟩); refine hK _ _ (Junk.pair (by (repeat (first | with_reducible exact Junk.refl _ | with_reducible exact Junk.app _ _ _ _ _ | with_reducible apply Junk.alloc | with_reducible apply Junk.junk | with_reducible apply Junk.drew | with_reducible apply Junk.drewN | (with_reducible refine Junk.setCell ?_ (by simp) _))))) ?_; clear hK K; refine wpMix_nil (fun osm dm => ?_)
                  (try simp only [World.junk_junk]); refine then_gen (fun os1 d1 => ?_)
                  go_wp2
                  go_returns
                  exact tputM_ok HMay.out (by (repeat (first | with_reducible exact Junk.refl _ | with_reducible exact Junk.app _ _ _ _ _ | with_reducible apply Junk.alloc | with_reducible apply Junk.junk | with_reducible apply Junk.drew | with_reducible apply Junk.drewN))) (by simp) (by rw [← HLL.out, HS.out]) (fun q hq => by rw [show segOf src dst t = segB t C by unfold segOf; rw [HC.out]]; exact segB_sum (by rw [← HS.out]; omega) q) (by rw [← HLL.out, HS.out]; exact HBO.out) (by omega)
                have hi2 : (i : Int) < (N : Int) := by omega
                obtain ⟨f, hf⟩ : ∃ f, F[i]? = some f := ⟨_, List.getElem?_eq_getElem (by rw [HF.out]; omega)⟩
                obtain ⟨bb, off, rfl, hb, c0, c1, cb1⟩ := HP.out.os i f hf
                have hfl := HL.out f (List.mem_of_getElem? hf)
                have HX := Lib.hid hf
                have HB := Lib.hid cb1
                have hkk := rightO_kind2 (rtAll_at a0 hf)
                have hsum : optsN (F.take (i + 1)) ≤ n := by rw [← HNN.out]; exact optsN_take_le F (i + 1)
                have hstep := optsN_succ hf
                clear hf cb1
                obtain ⟨k, oa, l, cc, ys⟩ := f
                dsimp only at c0 c1 hfl hkk hstep
                obtain ⟨ni, hni⟩ : ∃ ni, optsN (F.take i) = ni := ⟨_, rfl⟩
                rw [hni] at hstep
                rw [hni]
                have HNI := Lib.hid hni
                have HST := Lib.hid hstep
                have hl38 : ni + (2 + l) ≤ 40 := by omega
                have hln : ni + (2 + l) ≤ n := by omega
                have HTK := Lib.hid (show List.take i (List.map Ot.d F) ++ [⟨k, l, ys⟩] = (F.take (i + 1)).map Ot.d by rw [take_succ4 HX.out, List.map_append, List.map_take]; rfl)
                obtain ⟨hk2, hk255⟩ := hkk
                have HDQ := Lib.hid (show dp20 = some ⟨w.heap.size + 1 + osj.size, 20, none⟩ by rw [← HDP.out, if_neg (by omega)])
                clear hni hstep
                go_upto_region 17 with (fail)
                refine wp_region_mixg ((fun c => ((((w.alloc (.cells #[.int .i64 t.sport, .int .i64 t.dport, .int .u32 t.seq, .int .u32 t.ack, .int .i64 t.flags, .int .i64 t.win, .int .i64 t.urg, .slice (some ⟨bb, off, none⟩) N co, .slice ob t.bl cb] 27)).junk osj dj).alloc (.cells c 5)).junk os d).alloc (.cells #[.int .i64 k, .slice oa l cc] 41))) _ [(0, true), (1, true), (2, true), (3, true), (4, true), (5, true), (6, true), (7, true), (8, true), (11, true), (12, true), (9, false), (10, false), (13, false), (14, true)] (by kernel_rfl) (by kernel_rfl) (by (repeat (first | with_reducible exact Junk.refl _ | with_reducible exact Junk.app _ _ _ _ _ | with_reducible apply Junk.alloc | with_reducible apply Junk.junk | with_reducible apply Junk.drew | with_reducible apply Junk.drewN))) ?_; (iterate 11 (refine wpMix_q rfl (fun K hK => ?_); (go_simp; try go_bits); (refine hK _ ?_; clear hK K))); refine wpMix_e rfl (fun osm17_0 dm17_0 K hK => ?_); (go_simp; try go_bits); refine hK _ _ (in_gen (G := (fun c => ((((w.alloc (.cells #[.int .i64 t.sport, .int .i64 t.dport, .int .u32 t.seq, .int .u32 t.ack, .int .i64 t.flags, .int .i64 t.win, .int .i64 t.urg, .slice (some ⟨bb, off, none⟩) N co, .slice ob t.bl cb] 27)).junk osj dj).alloc (.cells c 5)).junk os d).alloc (.cells #[.int .i64 k, .slice oa l cc] 41))) _ (by (repeat (first | with_reducible exact Junk.refl _ | with_reducible exact Junk.app _ _ _ _ _ | with_reducible apply Junk.alloc | with_reducible apply Junk.junk | with_reducible apply Junk.drew | with_reducible apply Junk.drewN)))) ?_; clear hK K; refine wpMix_e1 rfl rfl (fun osm17_1 dm17_1 K hK => ?_); (try simp only [World.drew_junk, World.junk_junk]); (refine ap_row_wp _ _ 23 rfl 5 Try.underlying23 (by kernel_rfl) (fun c => ((((w.alloc (.cells #[.int .i64 t.sport, .int .i64 t.dport, .int .u32 t.seq, .int .u32 t.ack, .int .i64 t.flags, .int .i64 t.win, .int .i64 t.urg, .slice (some ⟨bb, off, none⟩) N co, .slice ob t.bl cb] 27)).junk osj dj).alloc (.cells c 5)).junk os d).alloc (.cells #[.int .i64 k, .slice oa l cc] 41)) _ _ L _ 5 (w.heap.size + 1 + osj.size) (World.alloc_junk2 _ _ _ _ _ _) (heap_low _ _ _ _ _ _ _ (by simp)) (set_low _ _ _ _ _ _ _ (by simp)) _ 20 ni (L - 20) rfl _ 2 2 rfl (fun j => if j = 0 then k else 2 + (l : Int)) (fun _ => HDQ.out) (lit2_ints _ _ _ _ _ (by simp) _ _) (fun h => by cases h) (by omega) (by omega) ?_); refine hK _ _ (in_gen (G := (fun c => ((((w.alloc (.cells #[.int .i64 t.sport, .int .i64 t.dport, .int .u32 t.seq, .int .u32 t.ack, .int .i64 t.flags, .int .i64 t.win, .int .i64 t.urg, .slice (some ⟨bb, off, none⟩) N co, .slice ob t.bl cb] 27)).junk osj dj).alloc (.cells c 5)).junk os d).alloc (.cells #[.int .i64 k, .slice oa l cc] 41))) _ (by (repeat (first | with_reducible exact Junk.refl _ | with_reducible exact Junk.app _ _ _ _ _ | with_reducible apply Junk.alloc | with_reducible apply Junk.junk | with_reducible apply Junk.drew | with_reducible apply Junk.drewN)))) ?_; clear hK K; refine wpMix_e1 rfl rfl (fun osm17_2 dm17_2 K hK => ?_); (try simp only [World.drew_junk, World.junk_junk]); (refine ap_row_wp _ _ 23 rfl 5 Try.underlying23 (by kernel_rfl) (fun c => ((((w.alloc (.cells #[.int .i64 t.sport, .int .i64 t.dport, .int .u32 t.seq, .int .u32 t.ack, .int .i64 t.flags, .int .i64 t.win, .int .i64 t.urg, .slice (some ⟨bb, off, none⟩) N co, .slice ob t.bl cb] 27)).junk osj dj).alloc (.cells c 5)).junk os d).alloc (.cells #[.int .i64 k, .slice oa l cc] 41)) _ _ L _ 5 (w.heap.size + 1 + osj.size) rfl (heap_low _ _ _ _ _ _ _ (by simp)) (set_low _ _ _ _ _ _ _ (by simp)) _ 20 (ni + 2) (L - 20) rfl oa l cc rfl ys (fun _ => HDQ.out) (HB.out.at_.on (by (repeat (first | with_reducible exact Junk.refl _ | with_reducible exact Junk.app _ _ _ _ _ | with_reducible apply Junk.alloc | with_reducible apply Junk.junk | with_reducible apply Junk.drew | with_reducible apply Junk.drewN)))) (fun h => HB.out.nil h) (by omega) (by omega) ?_); refine hK _ _ (in_gen (G := (fun c => ((((w.alloc (.cells #[.int .i64 t.sport, .int .i64 t.dport, .int .u32 t.seq, .int .u32 t.ack, .int .i64 t.flags, .int .i64 t.win, .int .i64 t.urg, .slice (some ⟨bb, off, none⟩) N co, .slice ob t.bl cb] 27)).junk osj dj).alloc (.cells c 5)).junk os d).alloc (.cells #[.int .i64 k, .slice oa l cc] 41))) _ (by (repeat (first | with_reducible exact Junk.refl _ | with_reducible exact Junk.app _ _ _ _ _ | with_reducible apply Junk.alloc | with_reducible apply Junk.junk | with_reducible apply Junk.drew | with_reducible apply Junk.drewN)))) ?_; clear hK K; (iterate 1 (refine wpMix_q rfl (fun K hK => ?_); (go_simp; try go_bits); (refine hK _ ?_; clear hK K))); refine wpMix_nil (fun osm dm => ?_)
                (try simp only [World.junk_junk])
                refine inb_eq (World.alloc_junk2 _ _ _ _ _ _) ?_
                rw [tPutI_push (by rw [← List.map_take, optsND_d]; exact HNI.out.symm), HTK.out]
                refine inb_gen (fun os1 d1 => ?_)
                go_wp2
                exact ⟨⟨i + 1, os1, d1, by rw [HST.out, Nat.add_assoc], by go_num, by rw [List.map_take], by omega⟩, by simp [intOf]; omega⟩
end Go.Proofs.Ytjmofjcloebgmaa
