/- Plain laws of segments: what is put is parsed as it was; what is parsed may be put; sums. The reference's Short; segments among a law's arguments. -/
import Derived.Test.YtjmofjcloebgmaaTcpK
import Derived.Test.YtjmofjcloebgmaaSumPlain
import Derived.Test.YtjmofjcloebgmaaLift2
set_option linter.unusedVariables false
set_option maxRecDepth 100000
set_option linter.unusedSimpArgs false
namespace Go.Proofs.Ytjmofjcloebgmaa
open Go.RowKit
theorem segB_raw {t : Tc} {c : Int} (hS : 20 ≤ tcSz t) (n : Nat) (hn : 18 ≤ n) : rawN (segB t c) n = rawN (segB t 0) n + c := by
  have h := rawN_congr (xs := upd (upd (segB t 0) 16 (c / 256)) (16 + 1) (c % 256)) (ys := segB t c) n (fun i _ => segB_sum hS i)
  rw [← h, rawN_upd, rawN_upd, upd_other _ _ _ _ (by omega)]
  have e16 : segB t 0 16 = 0 := by unfold segB; rw [if_pos (by omega)]; rfl
  have e17 : segB t 0 (16 + 1) = 0 := by unfold segB; rw [if_pos (by omega)]; rfl
  rw [e16, e17, if_pos (by omega), if_pos (by omega), if_pos (by omega), if_neg (by omega)]
  omega
theorem seg_sum {src dst : Int} {t : Tc} (h1 : 0 ≤ src ∧ src ≤ 4294967295) (h2 : 0 ≤ dst ∧ dst ≤ 4294967295) (hM : TcMayP t) (hW : TcWf t) : tsumN src dst (segOf src dst t) (tcSz t + t.bl) = 65535 := by
  have hS := (tcSz_le hM).1
  have hr := rawN_bd (segB t 0) (tcSz t + t.bl) (segB_byte hM hW (by omega))
  have hf := hM.fit
  have hp := pseudoN_bd (proto := 6) (size := ((tcSz t + t.bl : Nat) : Int)) h1 h2 (by omega) (by omega)
  have e : segOf src dst t = segB t (segSum src dst t) := rfl
  unfold tsumN
  rw [e, segB_raw hS _ (by omega)]
  unfold segSum tsumN
  rw [← Int.add_assoc]
  exact foldI_full (by omega)
theorem optB_append (A B : List Od) (j : Nat) : optB (A ++ B) (optsND A + j) = optB B j := by
  induction A generalizing j with
  | nil => simp [optsND]
  | cons f F ih =>
    have e : optsND (f :: F) = (2 + f.l) + optsND F := by unfold optsND; simp
    rw [List.cons_append, optB, e, if_neg (by omega), if_neg (by omega), if_neg (by omega), show 2 + f.l + optsND F + j - (2 + f.l) = optsND F + j by omega]
    exact ih j
/-- The same options, one for one. -/
def OdsEq (F G : List Od) : Prop := F.length = G.length ∧ ∀ (i : Nat) (x y : Od), F[i]? = some x → G[i]? = some y → odSame x y = true
theorem OdsEq.push {F G : List Od} {x y : Od} (h : OdsEq F G) (hxy : odSame x y = true) : OdsEq (F ++ [x]) (G ++ [y]) := by
  refine ⟨by simp [h.1], fun i a b ha hb => ?_⟩
  by_cases hi : i < F.length
  · rw [List.getElem?_append_left hi] at ha
    rw [List.getElem?_append_left (by rw [← h.1]; exact hi)] at hb
    exact h.2 i a b ha hb
  · rw [List.getElem?_append_right (by omega)] at ha
    rw [List.getElem?_append_right (by rw [← h.1]; omega), ← h.1] at hb
    by_cases h0 : i - F.length = 0
    · rw [h0] at ha hb; cases ha; cases hb; exact hxy
    · obtain ⟨k, hk⟩ : ∃ k, i - F.length = k + 1 := ⟨i - F.length - 1, by omega⟩
      rw [hk] at ha; simp at ha
theorem odSame_k {x y : Od} (h : odSame x y = true) : x.k = y.k ∧ x.l = y.l ∧ ∀ i, i < x.l → x.xs i = y.xs i := by
  unfold odSame sameN at h
  simp only [Bool.and_eq_true, beq_iff_eq, decide_eq_true_eq] at h
  exact ⟨h.1, h.2.1, h.2.2⟩
theorem OdsEq.any {F G : List Od} (h : OdsEq F G) (k : Int) : F.any (fun f => f.k == k) = G.any (fun f => f.k == k) := by
  rw [Bool.eq_iff_iff, List.any_eq_true, List.any_eq_true]
  constructor
  · rintro ⟨x, hx, hk⟩
    obtain ⟨i, hi⟩ := List.getElem?_of_mem hx
    have hl := (List.getElem?_eq_some_iff.1 hi).1
    have hg := List.getElem?_eq_getElem (show i < G.length by rw [← h.1]; exact hl)
    exact ⟨_, List.getElem_mem _, by rw [← (odSame_k (h.2 i _ _ hi hg)).1]; exact hk⟩
  · rintro ⟨x, hx, hk⟩
    obtain ⟨i, hi⟩ := List.getElem?_of_mem hx
    have hl := (List.getElem?_eq_some_iff.1 hi).1
    have hg := List.getElem?_eq_getElem (show i < F.length by rw [h.1]; exact hl)
    exact ⟨_, List.getElem_mem _, by rw [(odSame_k (h.2 i _ _ hg hi)).1]; exact hk⟩
theorem rightD_eq {F G : List Od} (h : OdsEq F G) (k : Int) (l : Nat) : rightD F k l = rightD G k l := by unfold rightD; rw [h.any]
theorem optsND_app (A B : List Od) : optsND (A ++ B) = optsND A + optsND B := by unfold optsND; rw [List.map_append, List.sum_append]
theorem optR_put (xs : Nat → Int) (M : Nat) : ∀ (rest acc accQ : List Od), (∀ j, j < M → xs j = optB (acc ++ rest) j) → optsND (acc ++ rest) ≤ M → rtAllD (acc ++ rest) = true → OdsEq accQ acc → ∃ Q, optR xs M (optsND acc) accQ = some Q ∧ OdsEq Q (acc ++ rest)
  | [], acc, accQ, hx, hM, hr, hq => by
    rw [List.append_nil] at *
    refine ⟨accQ, optR_end ?_, hq⟩
    by_cases h : M ≤ optsND acc
    · exact .inl h
    · exact .inr (by rw [hx _ (by omega)]; exact optB_out _ _ (Nat.le_refl _))
  | f :: r, acc, accQ, hx, hM, hr, hq => by
    have hn : optsND (acc ++ f :: r) = optsND acc + ((2 + f.l) + optsND r) := by rw [optsND_app]; simp [optsND]
    have hg : (acc ++ f :: r)[acc.length]? = some f := by simp
    have ht : (acc ++ f :: r).take acc.length = acc := by simp
    have hall := hr
    unfold rtAllD at hall
    rw [decide_eq_true_eq] at hall
    have hfr := (hall acc.length (by simp) f hg).1
    rw [ht] at hfr
    have hk : 2 ≤ f.k ∧ f.k ≤ 255 := by
      unfold rightD at hfr
      simp only [Bool.and_eq_true, decide_eq_true_eq] at hfr
      exact hfr.1
    have x0 : xs (optsND acc) = f.k := by
      rw [hx _ (by omega)]
      have := optB_append acc (f :: r) 0
      rw [Nat.add_zero] at this
      rw [this, optB, if_pos rfl]
    have x1 : xs (optsND acc + 1) = 2 + (f.l : Int) := by
      rw [hx _ (by omega), optB_append, optB, if_neg (by omega), if_pos rfl]
    have hln : (xs (optsND acc + 1) - 2).toNat = f.l := by omega
    have hnx : (xs (optsND acc + 1)).toNat = 2 + f.l := by omega
    rw [optR_good (by omega) (by omega) (by omega) (by omega) (by rw [x0, hln, rightD_eq hq]; exact hfr)]
    have e : acc ++ f :: r = (acc ++ [f]) ++ r := by simp
    have ea : optsND acc + (xs (optsND acc + 1)).toNat = optsND (acc ++ [f]) := by rw [optsND_app, hnx]; simp [optsND]
    rw [ea]
    rw [e] at hx hM hr ⊢
    refine optR_put xs M r (acc ++ [f]) _ hx hM hr (hq.push ?_)
    unfold odSame sameN
    simp only [Bool.and_eq_true, beq_iff_eq, decide_eq_true_eq]
    refine ⟨x0, hln, fun i hi => ?_⟩
    rw [hln] at hi
    rw [hx _ (by rw [← e] at hM; omega), ← e, show optsND acc + 2 + i = optsND acc + (2 + i) by omega, optB_append, optB, if_neg (by omega), if_neg (by omega), if_pos (by omega)]
    congr 1
    omega
theorem OdsEq.same {F G : List Od} (h : OdsEq F G) : (G.length == F.length) = true ∧ osSame G F = true := by
  refine ⟨by simp [h.1], ?_⟩
  unfold osSame
  rw [decide_eq_true_eq]
  intro i hi x hx y hy
  have := h.2 i y x hy hx
  obtain ⟨a, b, c⟩ := odSame_k this
  unfold odSame sameN
  simp only [Bool.and_eq_true, beq_iff_eq, decide_eq_true_eq]
  exact ⟨a.symm, b.symm, fun j hj => (c j (by omega)).symm⟩
theorem seg_head {src dst : Int} {t : Tc} {i : Nat} (h : i < 20) (hS : 20 ≤ tcSz t) : segOf src dst t i = tcHead t (tcSz t) (segSum src dst t) i := by unfold segOf segB; rw [if_pos (by omega)]
theorem seg_size {src dst : Int} {t : Tc} (hM : TcMayP t) : tcpSize (segOf src dst t) = tcSz t := by
  have hS := tcSz_le hM
  have h4 : tcSz t % 4 = 0 := by unfold tcSz; omega
  unfold tcpSize
  rw [seg_head (by omega) hS.1]
  show ((tcSz t : Int) / 4 * 16 / 16 * 4).toNat = tcSz t
  omega
/-- What is put is parsed as it was. -/
theorem seg_parse {src dst : Int} {t : Tc} (h1 : 0 ≤ src ∧ src ≤ 4294967295) (h2 : 0 ≤ dst ∧ dst ≤ 4294967295) (hM : TcMayP t) (hW : TcWf t) : tcpErr src dst (segOf src dst t) (tcSz t + t.bl) = 0 ∧ tcSame t (tcpTc (segOf src dst t) (tcSz t + t.bl)) = true := by
  have hS := tcSz_le hM
  have hz := seg_size (src := src) (dst := dst) hM
  have hf := hM.fit
  have hs := seg_sum h1 h2 hM hW
  obtain ⟨Q, hQ, hE⟩ := optR_put (fun i => segOf src dst t (20 + i)) (tcSz t - 20) t.os [] [] (fun j hj => by
      show segOf src dst t (20 + j) = _
      unfold segOf segB
      rw [if_pos (by omega), Nat.add_comm 20 j]
      rfl) (by rw [List.nil_append]; unfold tcSz; omega) hM.os ⟨rfl, fun i x y hx => by simp at hx⟩
  have hO : tcpOpts (segOf src dst t) = some Q := by unfold tcpOpts; rw [hz]; exact hQ
  rw [List.nil_append] at hE
  constructor
  · unfold tcpErr
    rw [if_neg (by omega), if_neg (by omega), hz, if_neg (by omega), if_neg (by rw [hs]; decide), hO]
    rfl
  · have a := hM.sport; have b := hM.dport; have c := hM.win; have d := hM.urg; have e := hM.flags; have f := hW.seq; have g := hW.ack
    have i0 := seg_head (src := src) (dst := dst) (i := 0) (by omega) hS.1
    have i1 := seg_head (src := src) (dst := dst) (i := 1) (by omega) hS.1
    have i2 := seg_head (src := src) (dst := dst) (i := 2) (by omega) hS.1
    have i3 := seg_head (src := src) (dst := dst) (i := 3) (by omega) hS.1
    have i4 := seg_head (src := src) (dst := dst) (i := 4) (by omega) hS.1
    have i5 := seg_head (src := src) (dst := dst) (i := 5) (by omega) hS.1
    have i6 := seg_head (src := src) (dst := dst) (i := 6) (by omega) hS.1
    have i7 := seg_head (src := src) (dst := dst) (i := 7) (by omega) hS.1
    have i8 := seg_head (src := src) (dst := dst) (i := 8) (by omega) hS.1
    have i9 := seg_head (src := src) (dst := dst) (i := 9) (by omega) hS.1
    have i10 := seg_head (src := src) (dst := dst) (i := 10) (by omega) hS.1
    have i11 := seg_head (src := src) (dst := dst) (i := 11) (by omega) hS.1
    have i13 := seg_head (src := src) (dst := dst) (i := 13) (by omega) hS.1
    have i14 := seg_head (src := src) (dst := dst) (i := 14) (by omega) hS.1
    have i15 := seg_head (src := src) (dst := dst) (i := 15) (by omega) hS.1
    have i18 := seg_head (src := src) (dst := dst) (i := 18) (by omega) hS.1
    have i19 := seg_head (src := src) (dst := dst) (i := 19) (by omega) hS.1
    simp only [tcHead] at i0 i1 i2 i3 i4 i5 i6 i7 i8 i9 i10 i11 i13 i14 i15 i18 i19
    have hos : (tcpTc (segOf src dst t) (tcSz t + t.bl)).os = Q := by unfold tcpTc; rw [hO]; rfl
    have hbl : (tcpTc (segOf src dst t) (tcSz t + t.bl)).bl = t.bl := by show tcSz t + t.bl - tcpSize _ = t.bl; rw [hz]; omega
    have hbd : ∀ i, (tcpTc (segOf src dst t) (tcSz t + t.bl)).body i = t.body i := fun i => by
      show segOf src dst t (tcpSize _ + i) = _
      rw [hz]
      unfold segOf segB
      rw [if_neg (by omega), Nat.add_sub_cancel_left]
    unfold tcSame
    rw [hos, hE.same.1, hE.same.2, hbl]
    have hsb : sameN t.body (tcpTc (segOf src dst t) (tcSz t + t.bl)).body t.bl t.bl = true := by
      unfold sameN; rw [decide_eq_true_eq]; exact ⟨rfl, fun i _ => (hbd i).symm⟩
    rw [hsb]
    simp only [Bool.and_true]
    unfold headSameT
    simp only [Bool.and_eq_true, beq_iff_eq]
    simp only [tcpTc, i0, i1, i2, i3, i4, i5, i6, i7, i8, i9, i10, i11, i13, i14, i15, i18, i19]
    clear hos hbl hbd hsb hE hO hQ hs hz i0 i1 i2 i3 i4 i5 i6 i7 i8 i9 i10 i11 i13 i14 i15 i18 i19
    refine ⟨⟨⟨⟨⟨⟨?_, ?_⟩, ?_⟩, ?_⟩, trivial⟩, ?_⟩, ?_⟩ <;> omega
theorem rtAllD_push {F : List Od} {f : Od} (h : rtAllD F = true) (hr : rightD F f.k f.l = true) (hn : optsND F + (2 + f.l) ≤ 40) : rtAllD (F ++ [f]) = true := by
  unfold rtAllD at h ⊢
  rw [decide_eq_true_eq] at h ⊢
  intro i hi g hg
  by_cases hiF : i < F.length
  · rw [List.getElem?_append_left hiF] at hg
    rw [List.take_append_of_le_length (by omega), List.take_append_of_le_length (by omega)]
    exact h i hiF g hg
  · obtain rfl : i = F.length := by simp at hi; omega
    have hl : (F ++ [f])[F.length]? = some f := by simp
    rw [hl] at hg
    cases hg
    rw [List.take_append_of_le_length (Nat.le_refl _), List.take_length, List.take_of_length_le (by simp)]
    refine ⟨hr, ?_⟩
    rw [optsND_app]
    show optsND F + optsND [f] ≤ 40
    have : optsND [f] = 2 + f.l := by unfold optsND; simp
    omega
theorem optP_right (xs : Nat → Int) (S : Nat) (hS : S ≤ 40) (hx : ∀ i, i < S → 0 ≤ xs i ∧ xs i ≤ 255) : ∀ n a acc Q, optP xs S n a acc = some Q → rtAllD acc = true → optsND acc ≤ a → a ≤ S → (∀ f ∈ acc, ∀ i, i < f.l → 0 ≤ f.xs i ∧ f.xs i ≤ 255) →
    rtAllD Q = true ∧ optsND Q ≤ S ∧ ∀ f ∈ Q, ∀ i, i < f.l → 0 ≤ f.xs i ∧ f.xs i ≤ 255
  | 0, a, acc, Q, h, h1, h2, h3, h4 => by rw [optP] at h; cases h; exact ⟨h1, by omega, h4⟩
  | n + 1, a, acc, Q, h, h1, h2, h3, h4 => by
    rw [optP] at h
    split at h
    · cases h; exact ⟨h1, by omega, h4⟩
    · rename_i c1
      split at h
      · exact optP_right xs S hS hx n _ _ _ h h1 (by omega) (by omega) h4
      · split at h
        · cases h
        · rename_i c3
          split at h
          · rename_i c4
            refine optP_right xs S hS hx n _ _ _ h (rtAllD_push h1 c4 ?_) ?_ ?_ ?_
            · show optsND acc + (2 + (xs (a + 1) - 2).toNat) ≤ 40; omega
            · rw [optsND_app]
              have : optsND [(⟨xs a, (xs (a + 1) - 2).toNat, fun i => xs (a + 2 + i)⟩ : Od)] = 2 + (xs (a + 1) - 2).toNat := by unfold optsND; simp
              omega
            · omega
            · intro f hf i hi
              rcases List.mem_append.1 hf with h' | h'
              · exact h4 f h' i hi
              · simp only [List.mem_cons, List.not_mem_nil, or_false] at h'
                subst h'
                exact hx _ (by dsimp only at hi; omega)
          · cases h
theorem tcpErr_parts {src dst : Int} {xs : Nat → Int} {l : Nat} (h : tcpErr src dst xs l = 0) : 20 ≤ l ∧ l ≤ 65535 ∧ 20 ≤ tcpSize xs ∧ tcpSize xs ≤ l ∧ tsumN src dst xs l = 65535 ∧ ∃ Q, tcpOpts xs = some Q := by
  unfold tcpErr at h
  split at h
  · cases h
  split at h
  · cases h
  split at h
  · cases h
  split at h
  · cases h
  rename_i c1 c2 c3 c4
  cases hq : tcpOpts xs with
  | none => rw [hq] at h; cases h
  | some Q => exact ⟨by omega, by omega, by omega, by omega, by simpa using c4, Q, rfl⟩
/-- What is parsed may be put, in as many bytes at most. -/
theorem parse_may {src dst : Int} {xs : Nat → Int} {l : Nat} (h : tcpErr src dst xs l = 0) (hx : ∀ i, i < l → 0 ≤ xs i ∧ xs i ≤ 255) : TcMayP (tcpTc xs l) ∧ TcWf (tcpTc xs l) ∧ tcSz (tcpTc xs l) + (tcpTc xs l).bl ≤ l := by
  obtain ⟨p1, p2, p3, p4, _, Q, hQ⟩ := tcpErr_parts h
  have b0 := hx 0 (by omega); have b1 := hx 1 (by omega); have b2 := hx 2 (by omega); have b3 := hx 3 (by omega); have b4 := hx 4 (by omega); have b5 := hx 5 (by omega); have b6 := hx 6 (by omega); have b7 := hx 7 (by omega)
  have b8 := hx 8 (by omega); have b9 := hx 9 (by omega); have b10 := hx 10 (by omega); have b11 := hx 11 (by omega); have b12 := hx 12 (by omega); have b13 := hx 13 (by omega); have b14 := hx 14 (by omega); have b15 := hx 15 (by omega); have b18 := hx 18 (by omega); have b19 := hx 19 (by omega)
  have hs4 : tcpSize xs % 4 = 0 ∧ tcpSize xs ≤ 60 := by unfold tcpSize; omega
  have hos : (tcpTc xs l).os = Q := by unfold tcpTc; rw [hQ]; rfl
  have hbl : (tcpTc xs l).bl = l - tcpSize xs := rfl
  obtain ⟨r1, r2, r3⟩ := optP_right (fun i => xs (20 + i)) (tcpSize xs - 20) (by omega) (fun i hi => hx _ (by omega)) _ _ _ _ hQ (by decide) (Nat.zero_le _) (Nat.zero_le _) (fun f hf => by simp at hf)
  have hsz : tcSz (tcpTc xs l) ≤ tcpSize xs := by unfold tcSz; rw [hos]; omega
  refine ⟨⟨by rw [hos]; exact r1, ?_, ?_, ?_, ?_, ?_, by rw [hbl]; omega⟩, ⟨?_, ?_, by rw [hos]; exact r3, fun i hi => ?_⟩, by rw [hbl]; omega⟩
  all_goals first | (show 0 ≤ xs (tcpSize xs + i) ∧ xs (tcpSize xs + i) ≤ 255; exact hx _ (by rw [hbl] at hi; omega)) | (simp only [tcpTc]; omega)
/-- One byte changed: no segment. -/
theorem seg_spoilt {src dst : Int} {t : Tc} {k : Nat} {v : Int} (h1 : 0 ≤ src ∧ src ≤ 4294967295) (h2 : 0 ≤ dst ∧ dst ≤ 4294967295) (hM : TcMayP t) (hW : TcWf t) (hk : k < tcSz t + t.bl) (hv : 0 ≤ v ∧ v ≤ 255) (hne : v ≠ segOf src dst t k) : tcpErr src dst (upd (segOf src dst t) k v) (tcSz t + t.bl) ≠ 0 := by
  intro hc
  have hs := (tcpErr_parts hc).2.2.2.2.1
  have h0 := seg_sum h1 h2 hM hW
  have hb := segB_byte hM hW (segSum_bd h1 h2 hM hW)
  have hr := rawN_bd (segOf src dst t) (tcSz t + t.bl) hb
  have hf := hM.fit
  have hp := pseudoN_bd (proto := 6) (size := ((tcSz t + t.bl : Nat) : Int)) h1 h2 (by omega) (by omega)
  have hr2 := rawN_bd (upd (segOf src dst t) k v) (tcSz t + t.bl) (fun i hi => by unfold upd; split; exact hv; exact hb i hi)
  have hbk := hb k hk
  unfold tsumN at hs h0
  rw [foldI_iff (by omega)] at hs h0
  rw [rawN_upd, if_pos hk] at hs
  have hbk' : 0 ≤ segOf src dst t k ∧ segOf src dst t k ≤ 255 := hbk
  split at hs <;> omega
/-- An address changed by one byte: the sum fits no more. -/
theorem seg_other {src dst s2 : Int} {t : Tc} (h1 : 0 ≤ src ∧ src ≤ 4294967295) (h2 : 0 ≤ dst ∧ dst ≤ 4294967295) (hs2 : 0 ≤ s2 ∧ s2 ≤ 4294967295) (hM : TcMayP t) (hW : TcWf t) (hhi : s2 / 65536 = src / 65536) (hlo : s2 % 256 = src % 256) (hne : s2 ≠ src) : tcpErr s2 dst (segOf src dst t) (tcSz t + t.bl) = 5 := by
  have hS := tcSz_le hM
  have hz := seg_size (src := src) (dst := dst) hM
  have hf := hM.fit
  have h0 := seg_sum h1 h2 hM hW
  have hb := segB_byte hM hW (segSum_bd h1 h2 hM hW)
  have hr := rawN_bd (segOf src dst t) (tcSz t + t.bl) hb
  have hp := pseudoN_bd (proto := 6) (size := ((tcSz t + t.bl : Nat) : Int)) h1 h2 (by omega) (by omega)
  have hp2 := pseudoN_bd (proto := 6) (size := ((tcSz t + t.bl : Nat) : Int)) hs2 h2 (by omega) (by omega)
  unfold tcpErr
  rw [if_neg (by omega), if_neg (by omega), hz, if_neg (by omega), if_pos]
  intro hc
  unfold tsumN at hc h0
  rw [foldI_iff (by omega)] at hc h0
  unfold pseudoN at hc h0
  omega
theorem xor_mid (s x : Nat) (hx : x < 256) : (s ^^^ (x * 256)) / 65536 = s / 65536 ∧ (s ^^^ (x * 256)) % 256 = s % 256 ∧ (0 < x → s ^^^ (x * 256) ≠ s) := by
  have e1 : 65536 = 2 ^ 16 := by decide
  have e2 : 256 = 2 ^ 8 := by decide
  refine ⟨?_, ?_, fun h0 hc => ?_⟩
  · rw [e1, Nat.xor_div_two_pow, show x * 256 / 2 ^ 16 = 0 by omega, Nat.xor_zero]
  · rw [e2, Nat.xor_mod_two_pow, show x * 2 ^ 8 % 2 ^ 8 = 0 by omega, Nat.xor_zero]
  · have h2 : s ^^^ (s ^^^ (x * 256)) = s ^^^ s := by rw [hc]
    rw [← Nat.xor_assoc, Nat.xor_self, Nat.zero_xor] at h2
    omega
def tcShort (t : Tc) : Bool := decide (t.os.length ≤ 60) && decide (t.bl ≤ 3000) && t.os.all (fun f => decide (f.l ≤ 300))
theorem tcShort_true {t : Tc} (h : tcShort t = true) : t.os.length ≤ 60 ∧ t.bl ≤ 3000 ∧ ∀ f ∈ t.os, f.l ≤ 300 := by
  unfold tcShort at h
  simp only [Bool.and_eq_true, decide_eq_true_eq, List.all_eq_true] at h
  exact ⟨h.1.1, h.1.2, h.2⟩
set_option maxHeartbeats 2000000 in
theorem tshort_any (t : Tc) (F : List Ot) (N : Nat) (oo ob : Option Addr) (co cb : Nat) (w : World) (hF : F.map Ot.d = t.os) (hN : F.length = N) (hN2 : N ≤ 9223372036854775807) (hP : TcAt w F oo co t.bl t.body ob cb) :
    Calls Try.prog 17 #[.agg #[.int .i64 t.sport, .int .i64 t.dport, .int .u32 t.seq, .int .u32 t.ack, .int .i64 t.flags, .int .i64 t.win, .int .i64 t.urg, .slice oo N co, .slice ob t.bl cb]] w fun e w' => e = .returned (.bool (tcShort t)) ∧ Junk w w' := by
  have HP := Lib.hid hP
  have HF := Lib.hid hN
  have HD := Lib.hid hF
  have hlen : t.os.length = N := by rw [← hF, ← hN]; simp
  obtain ⟨T, hT⟩ : ∃ T, tcShort t = T := ⟨_, rfl⟩
  have HT := Lib.hid hT
  rw [hT]
  clear hT
  have HLEN := Lib.hid hlen
  by_cases h1 : N ≤ 60
  case neg =>
    have h1' : (60 : Int) < (N : Int) := by omega
    have HE := Lib.hid (show T = false by rw [← HT.out]; unfold tcShort; rw [HLEN.out, show decide (N ≤ 60) = false from decide_eq_false h1]; rfl)
    clear hP hF hN hlen
    go_enter Try.func17, Try.ntmps17
    go_wp2
    go_ret
    exact ⟨by rw [HE.out] <;> rfl, by ((try simp only [World.junk_junk, Array.append_assoc]); (repeat (first | with_reducible exact Junk.refl _ | with_reducible exact Junk.app _ _ _ _ _ | with_reducible exact Junk.app2 _ _ _ _ _ _ | with_reducible exact Junk.app3 _ _ _ _ _ _ _ | with_reducible exact Junk.app4 _ _ _ _ _ _ _ _ | with_reducible exact Junk.app5 _ _ _ _ _ _ _ _ _ | with_reducible apply Junk.alloc | with_reducible apply Junk.junk | with_reducible apply Junk.drew | with_reducible apply Junk.drewN)))⟩
  have h1' : ¬ (60 : Int) < (N : Int) := by omega
  by_cases h2 : t.bl ≤ 3000
  case neg =>
    have h2' : (3000 : Int) < (t.bl : Int) := by omega
    have HE := Lib.hid (show T = false by rw [← HT.out]; unfold tcShort; rw [show decide (t.bl ≤ 3000) = false from decide_eq_false h2]; simp)
    clear hP hF hN hlen
    go_enter Try.func17, Try.ntmps17
    go_wp2
    go_ret
    exact ⟨by rw [HE.out] <;> rfl, by ((try simp only [World.junk_junk, Array.append_assoc]); (repeat (first | with_reducible exact Junk.refl _ | with_reducible exact Junk.app _ _ _ _ _ | with_reducible exact Junk.app2 _ _ _ _ _ _ | with_reducible exact Junk.app3 _ _ _ _ _ _ _ | with_reducible exact Junk.app4 _ _ _ _ _ _ _ _ | with_reducible exact Junk.app5 _ _ _ _ _ _ _ _ _ | with_reducible apply Junk.alloc | with_reducible apply Junk.junk | with_reducible apply Junk.drew | with_reducible apply Junk.drewN)))⟩
  have h2' : ¬ (3000 : Int) < (t.bl : Int) := by omega
  clear hP hF hN hlen
  go_enter Try.func17, Try.ntmps17
  go_wp2
  go_loopw [3] (fun v wr => ∃ i : Nat, v = .int .i64 (i : Int) ∧ wr = w.alloc (.cells #[.int .i64 t.sport, .int .i64 t.dport, .int .u32 t.seq, .int .u32 t.ack, .int .i64 t.flags, .int .i64 t.win, .int .i64 t.urg, .slice oo N co, .slice ob t.bl cb] 27) ∧ i ≤ N ∧ Hid (∀ q, q < i → ∀ f, F[q]? = some f → f.l ≤ 300)) (fun v _ => N + 1 - (intOf v).toNat)
  case atStart => exact ⟨0, rfl, rfl, by omega, Lib.hid (fun q hq => by omega)⟩
  case round =>
    obtain ⟨i, rfl, rfl, hi, hM⟩ := hrel
    by_cases hiN : i < N
    case neg =>
      have hi2 : ¬ (i : Int) < (N : Int) := by omega
      obtain rfl : i = N := by omega
      have HE := Lib.hid (show T = true by
        rw [← HT.out]; unfold tcShort; rw [HLEN.out, show decide (i ≤ 60) = true from decide_eq_true h1, show decide (t.bl ≤ 3000) = true from decide_eq_true h2, ← HD.out, List.all_map]
        simp only [Bool.and_true, Bool.true_and, List.all_eq_true, Function.comp, decide_eq_true_eq]
        intro f hf
        obtain ⟨q, hq⟩ := List.getElem?_of_mem hf
        exact hM.out q (by have := (List.getElem?_eq_some_iff.1 hq).1; rw [HF.out] at this; exact this) f hq)
      go_wp2
      go_ret
      exact ⟨by rw [HE.out] <;> rfl, by ((try simp only [World.junk_junk, Array.append_assoc]); (repeat (first | with_reducible exact Junk.refl _ | with_reducible exact Junk.app _ _ _ _ _ | with_reducible exact Junk.app2 _ _ _ _ _ _ | with_reducible exact Junk.app3 _ _ _ _ _ _ _ | with_reducible exact Junk.app4 _ _ _ _ _ _ _ _ | with_reducible exact Junk.app5 _ _ _ _ _ _ _ _ _ | with_reducible apply Junk.alloc | with_reducible apply Junk.junk | with_reducible apply Junk.drew | with_reducible apply Junk.drewN)))⟩
    have hi2 : (i : Int) < (N : Int) := by omega
    obtain ⟨f, hf⟩ : ∃ f, F[i]? = some f := ⟨_, List.getElem?_eq_getElem (by rw [HF.out]; omega)⟩
    obtain ⟨b, off, rfl, hb, c0, c1, _⟩ := HP.out.os i f hf
    have HX := Lib.hid hf
    clear hf
    obtain ⟨k, oa, l, cc, ys⟩ := f
    dsimp only at c0 c1
    by_cases h3 : l ≤ 300
    case neg =>
      have h3' : (300 : Int) < (l : Int) := by omega
      have HE := Lib.hid (show T = false by
        rw [← HT.out]; unfold tcShort
        have : t.os.all (fun f => decide (f.l ≤ 300)) = false := by
          rw [List.all_eq_false]
          exact ⟨⟨k, l, ys⟩, by rw [← HD.out]; exact List.mem_map.2 ⟨_, List.mem_of_getElem? HX.out, rfl⟩, by simp; omega⟩
        rw [this]; simp)
      go_wp2
      go_ret
      exact ⟨by rw [HE.out] <;> rfl, by ((try simp only [World.junk_junk, Array.append_assoc]); (repeat (first | with_reducible exact Junk.refl _ | with_reducible exact Junk.app _ _ _ _ _ | with_reducible exact Junk.app2 _ _ _ _ _ _ | with_reducible exact Junk.app3 _ _ _ _ _ _ _ | with_reducible exact Junk.app4 _ _ _ _ _ _ _ _ | with_reducible exact Junk.app5 _ _ _ _ _ _ _ _ _ | with_reducible apply Junk.alloc | with_reducible apply Junk.junk | with_reducible apply Junk.drew | with_reducible apply Junk.drewN)))⟩
    have h3' : ¬ (300 : Int) < (l : Int) := by omega
    have HM2 := Lib.hid (show ∀ q, q < i + 1 → ∀ f, F[q]? = some f → f.l ≤ 300 from fun q hq f hf => by
      by_cases h : q = i
      · subst h; rw [HX.out] at hf; cases hf; exact h3
      · exact hM.out q (by omega) f hf)
    go_wp2
    exact ⟨⟨i + 1, by go_num, trivial, by omega, HM2⟩, by simp [intOf]; omega⟩
/-! ### Segments among a law's arguments -/
theorem ot_of {W : World} {cs : List Value} (h : Cells Try.prog W 41 cs) : ∃ f : Ot, cs = f.cells ∧ f.At W := by
  obtain ⟨hl_x, hf_x⟩ := h.fields1 Try.underlying41 (by kernel_rfl) (n := 2) (by kernel_rfl)
  obtain ⟨x_Kind, lx0, e_x0⟩ : ∃ x l, cs = x :: l := by cases cs with | nil => simp at hl_x | cons x l => exact ⟨x, l, rfl⟩
  subst e_x0
  obtain ⟨x_Data, lx1, e_x1⟩ : ∃ x l, lx0 = x :: l := by cases lx0 with | nil => simp at hl_x | cons x l => exact ⟨x, l, rfl⟩
  subst e_x1
  obtain rfl : lx1 = [] := by simpa using hl_x
  have f_x0 : Cells Try.prog W 3 [x_Kind] := hf_x 0 _ rfl
  have f_x1 : Cells Try.prog W 23 [x_Data] := hf_x 1 _ rfl
  clear hf_x hl_x
  obtain ⟨x_Kind, e_x_Kind, w_x_Kind⟩ := f_x0.int Try.underlying3; cases e_x_Kind
  obtain ⟨x_Data_a, x_Data_l, x_Data_c, x_Data, e_x_Data, lc_x_Data, cm_x_Data, S_x_Data, w_x_Data⟩ := f_x1.ints Try.underlying23 Try.underlying5 (by kernel_rfl); cases e_x_Data
  exact ⟨⟨x_Kind, x_Data_a, x_Data_l, x_Data_c, x_Data⟩, rfl, ⟨S_x_Data, fun i hi => bounds_u8 (w_x_Data i hi), Cells.nil_slice Try.underlying23 f_x1, lc_x_Data, cm_x_Data⟩⟩
theorem ots_of {W : World} {oa : Option Addr} {len : Nat} {rows : Nat → List Value} (hS : SlAt W oa len (Try.prog.cellsOf 41) rows) (hr : ∀ i, i < len → (rows i).length = Try.prog.cellsOf 41 ∧ Cells Try.prog W 41 (rows i)) :
    ∃ F : List Ot, F.length = len ∧ OsAt W oa F := by
  rw [show Try.prog.cellsOf 41 = 2 by kernel_rfl] at hS
  have hx : ∀ i, i < len → ∃ x : Ot, rows i = x.cells ∧ x.At W := fun i hi => ot_of (hr i hi).2
  obtain ⟨f, hf⟩ : ∃ f : Nat → Ot, ∀ i, i < len → rows i = (f i).cells ∧ (f i).At W := ⟨fun i => if h : i < len then (hx i h).choose else ⟨0, none, 0, 0, fun _ => 0⟩, fun i hi => by simp only [hi, dif_pos]; exact (hx i hi).choose_spec⟩
  refine ⟨(List.range len).map f, by simp, fun i x hi => ?_⟩
  have hil : i < len := by have := (List.getElem?_eq_some_iff.1 hi).1; simpa using this
  rw [List.getElem?_map, List.getElem?_range hil] at hi
  simp only [Option.map_some, Option.some.injEq] at hi
  subst hi
  obtain ⟨b, off, he, hlt, hc⟩ := hS i hil
  rw [(hf i hil).1] at hc
  exact ⟨b, off, he, hlt, hc 0 _ rfl, hc 1 _ rfl, (hf i hil).2⟩
/-- A segment among the arguments. -/
theorem tc_of {W : World} {cs : List Value} (h : Cells Try.prog W 27 cs) : ∃ (t : Tc) (F : List Ot) (N : Nat) (oo ob : Option Addr) (co cb : Nat), cs.toArray = #[.int .i64 t.sport, .int .i64 t.dport, .int .u32 t.seq, .int .u32 t.ack, .int .i64 t.flags, .int .i64 t.win, .int .i64 t.urg, .slice oo N co, .slice ob t.bl cb] ∧
    F.map Ot.d = t.os ∧ F.length = N ∧ N ≤ 9223372036854775807 ∧ TcAt W F oo co t.bl t.body ob cb ∧ TcWf t := by
  obtain ⟨hl_x, hf_x⟩ := h.fields1 Try.underlying27 (by kernel_rfl) (n := 9) (by kernel_rfl)
  obtain ⟨x_Sport, lx0, e_x0⟩ : ∃ x l, cs = x :: l := by cases cs with | nil => simp at hl_x | cons x l => exact ⟨x, l, rfl⟩
  subst e_x0
  obtain ⟨x_Dport, lx1, e_x1⟩ : ∃ x l, lx0 = x :: l := by cases lx0 with | nil => simp at hl_x | cons x l => exact ⟨x, l, rfl⟩
  subst e_x1
  obtain ⟨x_Seq, lx2, e_x2⟩ : ∃ x l, lx1 = x :: l := by cases lx1 with | nil => simp at hl_x | cons x l => exact ⟨x, l, rfl⟩
  subst e_x2
  obtain ⟨x_Ack, lx3, e_x3⟩ : ∃ x l, lx2 = x :: l := by cases lx2 with | nil => simp at hl_x | cons x l => exact ⟨x, l, rfl⟩
  subst e_x3
  obtain ⟨x_Flags, lx4, e_x4⟩ : ∃ x l, lx3 = x :: l := by cases lx3 with | nil => simp at hl_x | cons x l => exact ⟨x, l, rfl⟩
  subst e_x4
  obtain ⟨x_Win, lx5, e_x5⟩ : ∃ x l, lx4 = x :: l := by cases lx4 with | nil => simp at hl_x | cons x l => exact ⟨x, l, rfl⟩
  subst e_x5
  obtain ⟨x_Urg, lx6, e_x6⟩ : ∃ x l, lx5 = x :: l := by cases lx5 with | nil => simp at hl_x | cons x l => exact ⟨x, l, rfl⟩
  subst e_x6
  obtain ⟨x_Opts, lx7, e_x7⟩ : ∃ x l, lx6 = x :: l := by cases lx6 with | nil => simp at hl_x | cons x l => exact ⟨x, l, rfl⟩
  subst e_x7
  obtain ⟨x_Body, lx8, e_x8⟩ : ∃ x l, lx7 = x :: l := by cases lx7 with | nil => simp at hl_x | cons x l => exact ⟨x, l, rfl⟩
  subst e_x8
  obtain rfl : lx8 = [] := by simpa using hl_x
  have f_x0 : Cells Try.prog W 3 [x_Sport] := hf_x 0 _ rfl
  have f_x1 : Cells Try.prog W 3 [x_Dport] := hf_x 1 _ rfl
  have f_x2 : Cells Try.prog W 22 [x_Seq] := hf_x 2 _ rfl
  have f_x3 : Cells Try.prog W 22 [x_Ack] := hf_x 3 _ rfl
  have f_x4 : Cells Try.prog W 3 [x_Flags] := hf_x 4 _ rfl
  have f_x5 : Cells Try.prog W 3 [x_Win] := hf_x 5 _ rfl
  have f_x6 : Cells Try.prog W 3 [x_Urg] := hf_x 6 _ rfl
  have f_x7 : Cells Try.prog W 25 [x_Opts] := hf_x 7 _ rfl
  have f_x8 : Cells Try.prog W 23 [x_Body] := hf_x 8 _ rfl
  clear hf_x hl_x
  obtain ⟨x_Sport, e_x_Sport, w_x_Sport⟩ := f_x0.int Try.underlying3; cases e_x_Sport
  obtain ⟨x_Dport, e_x_Dport, w_x_Dport⟩ := f_x1.int Try.underlying3; cases e_x_Dport
  obtain ⟨x_Seq, e_x_Seq, w_x_Seq⟩ := f_x2.int Try.underlying22; cases e_x_Seq
  obtain ⟨x_Ack, e_x_Ack, w_x_Ack⟩ := f_x3.int Try.underlying22; cases e_x_Ack
  obtain ⟨x_Flags, e_x_Flags, w_x_Flags⟩ := f_x4.int Try.underlying3; cases e_x_Flags
  obtain ⟨x_Win, e_x_Win, w_x_Win⟩ := f_x5.int Try.underlying3; cases e_x_Win
  obtain ⟨x_Urg, e_x_Urg, w_x_Urg⟩ := f_x6.int Try.underlying3; cases e_x_Urg
  obtain ⟨x_Opts_a, x_Opts_l, x_Opts_c, x_Opts, e_x_Opts, lc_x_Opts, cm_x_Opts, S_x_Opts, r_x_Opts⟩ := f_x7.slice Try.underlying25 (Nat.lt_of_lt_of_eq (by decide : 0 < 2) (by kernel_rfl)); cases e_x_Opts
  obtain ⟨x_Body_a, x_Body_l, x_Body_c, x_Body, e_x_Body, lc_x_Body, cm_x_Body, S_x_Body, w_x_Body⟩ := f_x8.ints Try.underlying23 Try.underlying5 (by kernel_rfl); cases e_x_Body
  obtain ⟨F, hF, hS⟩ := ots_of S_x_Opts r_x_Opts
  have hcm : x_Opts_c ≤ 9223372036854775807 := cm_x_Opts
  refine ⟨⟨x_Sport, x_Dport, x_Seq, x_Ack, x_Flags, x_Win, x_Urg, F.map Ot.d, x_Body_l, x_Body⟩, F, x_Opts_l, x_Opts_a, x_Body_a, x_Opts_c, x_Body_c, rfl, rfl, hF, by omega, ⟨hS, fun hn => by have := Cells.nil_slice Try.underlying25 f_x7 hn; exact ⟨by rw [hF]; exact this.1, this.2⟩, by rw [hF]; exact lc_x_Opts, ⟨S_x_Body, fun i hi => bounds_u8 (w_x_Body i hi), Cells.nil_slice Try.underlying23 f_x8, lc_x_Body, cm_x_Body⟩⟩, ⟨bounds_u32 w_x_Seq, bounds_u32 w_x_Ack, fun f hf i hi => ?_, fun i hi => bounds_u8 (w_x_Body i hi)⟩⟩
  obtain ⟨g, hg, rfl⟩ := List.mem_map.1 hf
  obtain ⟨q, hq⟩ := List.getElem?_of_mem hg
  obtain ⟨_, _, _, _, _, _, hb⟩ := hS q g hq
  exact hb.byte i hi
end Go.Proofs.Ytjmofjcloebgmaa
