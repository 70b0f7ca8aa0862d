/- The reference of layer 4: Parse. -/
import Derived.Test.YtfkhnhenemgcmaaDoorTcpF
import Derived.Test.YtfkhnhenemgcmaaDoorMix2
set_option linter.unusedVariables false
set_option maxRecDepth 100000
set_option linter.unusedSimpArgs false
namespace Go
open RowKit
/-- ap_own2, inside a region that draws. -/
theorem ap_own2_wp {P : Program} {W0 w : World} {o : Oper} {a : Act} {K : Act → World → Prop} {Q : Exit → Act → World → Prop} (s x : Operand) (t : TypeId)
    (ho : o.op = .call { callee := .builtin .append, args := #[s, x], argTypes := #[t, t] })
    (e : TypeId) (z : Value) (size bytes : Nat) (hinfo : (P.info? e).map (fun i => (i.zero, i.size, i.bytes)) = some (some z, size, bytes)) (hzs : z.cells.size = size) (hsz : 0 < size) (ht : P.underlying t = some (.slice e))
    (hj : Junk W0 w) (oa : Option Addr) (cap n : Nat) (xs : List Value) (hs : a.eval s = .slice oa n cap) (hown : Own W0.heap.size w e size oa cap n xs)
    (ad : Addr) (m c : Nat) (hx : a.eval x = .slice (some ad) m c) (news : List Value) (hl : news.length = m * size) (hnews : ∀ j u, news[j]? = some u → w.cell? (ad.add j) = some u)
    (h1 : ∀ u ∈ news, u.oneCell' = true) (hm : n + m ≤ maxLen) (hb : (n + m) * bytes ≤ 140737488355328) (hm0 : 0 < m)
    (h : ∀ oa' cap' os d, Own W0.heap.size (W0.junk os d) e size oa' cap' (n + m) (xs ++ news) → w.grownBy (W0.junk os d) (rowOf oa) → (rowOf oa' = rowOf oa ∨ rowOf oa' = some w.heap.size) → K (a.put o.dst (.slice oa' (n + m) cap')) (W0.junk os d)) : o.wp P a w K Q := by
  obtain ⟨i, hi, hz0, hz1, hz2⟩ := info_parts hinfo
  obtain ⟨v', w', hr, h2, h3, h4⟩ := run_append_own2 (P := P) w W0.heap.size t o.type e i z size bytes ht hi hz0 hz1 hz2 hzs hsz _ n xs hown ad m c news hl hnews h1 hm hb hj.size hm0
  obtain ⟨os, d, rfl⟩ := below_of_grown hj h3 (fun k hk => (World.ownsRow.lt hown k hk).1)
  have hk : K (a.put o.dst v') (W0.junk os d) := by
    rcases h2.2 with ⟨rfl, h0⟩ | ⟨g, cap', cur, rfl, _⟩
    · omega
    · rw [ownBlock_slice] at h3 h4
      rw [ownBlock_slice] at h4
      exact h _ _ os d h2 h3 h4
  unfold Oper.wp
  simp only [execOp, ho, resolve, invoke, builtin, hs, hx, List.map_toArray, List.map_cons, List.map_nil, Sem.run_bind, hr, Sem.run_pure, Result.andThen]
  simpa [Oper.upon] using hk
end Go
namespace Go.Proofs.YtfkhnhenemgcmaaDoor
open Go.RowKit
theorem own_over3 {B : Nat} {V : World} {cur cur' : Array Value} {t e : TypeId} {os os' : Array Obj} {d d' size cap n : Nat} {oa : Option Addr} {l : List Value} (h : Own B ((V.alloc (.cells cur t)).junk os d) e size oa cap n l) (hB : V.heap.size + 1 ≤ B) (ho : ∃ x, os' = os ++ x) : Own B ((V.alloc (.cells cur' t)).junk os' d') e size oa cap n l := by
  obtain ⟨x, rfl⟩ := ho
  refine ⟨h.1, ?_⟩
  rcases h.2 with hn | ⟨g, cap', cur1, h1, hb, hg, hr⟩
  · exact .inl hn
  · refine .inr ⟨g, cap', cur1, h1, hb, ?_, hr⟩
    rw [← hg]
    have hlt := (Array.getElem?_eq_some_iff.1 hg).1
    simp only [World.junk, World.alloc] at hlt ⊢
    rw [← Array.append_assoc, Array.getElem?_append_left (by simp at hlt ⊢; omega), Array.getElem?_append_right (by simp; try omega), Array.getElem?_append_right (by simp; try omega)]
    simp
theorem own_over4 {B : Nat} {V V' : World} {cur cur' : Array Value} {t e : TypeId} {os os' : Array Obj} {d d' size cap n : Nat} {oa : Option Addr} {l : List Value} (hs : V'.heap.size = V.heap.size) (h : Own B ((V.alloc (.cells cur t)).junk os d) e size oa cap n l) (hB : V.heap.size + 1 ≤ B) (ho : ∃ x, os' = os ++ x) : Own B ((V'.alloc (.cells cur' t)).junk os' d') e size oa cap n l := by
  obtain ⟨x, rfl⟩ := ho
  refine ⟨h.1, ?_⟩
  rcases h.2 with hn | ⟨g, cap', cur1, h1, hb, hg, hr⟩
  · exact .inl hn
  · refine .inr ⟨g, cap', cur1, h1, hb, ?_, hr⟩
    rw [← hg]
    have hlt := (Array.getElem?_eq_some_iff.1 hg).1
    simp only [World.junk, World.alloc] at hlt ⊢
    rw [← Array.append_assoc, Array.getElem?_append_left (by simp at hlt ⊢; omega), Array.getElem?_append_right (by simp; try omega), Array.getElem?_append_right (by simp; try omega)]
    simp [hs]
theorem bts_over4 {V V' : World} {cur cur' : Array Value} {t : TypeId} {os os' : Array Obj} {d d' : Nat} {oa : Option Addr} {l c : Nat} {xs : Nat → Int} (hs : V'.heap.size = V.heap.size)
    (h : Bts ((V.alloc (.cells cur t)).junk os d) oa l c xs) (hf : Fresh (V.heap.size + 1) oa) (ho : ∃ x, os' = os ++ x) : Bts ((V'.alloc (.cells cur' t)).junk os' d') oa l c xs := by
  obtain ⟨x, rfl⟩ := ho
  refine ⟨fun i hi => ?_, h.byte, h.nil, h.le, h.cap⟩
  obtain ⟨b, off, he, hlt, hc⟩ := h.at_ i hi
  have hb := hf _ he
  simp only at hb
  refine ⟨b, off, he, by simp at hlt ⊢; omega, ?_⟩
  rw [← hc]
  apply World.cell?_of_block
  simp only [World.junk, World.alloc]
  rw [← Array.append_assoc, Array.getElem?_append_left (by simp at hlt ⊢; omega), Array.getElem?_append_right (by simp; omega), Array.getElem?_append_right (by simp; omega)]
  simp [hs]
theorem built_cells3 {w : World} {news : List Value} {e : TypeId} {n : Nat} {os : Array Obj} {d : Nat} (hn : n = w.heap.size) : ∀ ad : Addr, some (⟨n, 0, none⟩ : Addr) = some ad → ∀ j u, news[j]? = some u → ((w.alloc (.cells news.toArray e)).junk os d).cell? (ad.add j) = some u := by
  intro ad had j u hu
  have h := built_cells (e := e) hn ad had j u hu
  cases had
  rw [Addr.add_lit] at h ⊢
  rw [World.cell?_junk _ _ _ _ _ (by simp [hn])]
  exact h
theorem rtAll_push {F : List Ot} {f : Ot} {b : Bool} (h : rtAll F = true) (hr : rightO F f.k f.l = b) (hn : optsN F + (2 + f.l) ≤ 40) : rtAll (F ++ [f]) = b := by
  have hl : (F ++ [f])[F.length]? = some f := by simp
  have ht : (F ++ [f]).take F.length = F := by simp
  cases b with
  | false => exact rtAll_bad hl (.inl (by rw [ht]; exact hr))
  | true =>
    unfold rtAll at h ⊢
    rw [decide_eq_true_eq] at h ⊢
    intro i hi g hg
    by_cases hiF : i < F.length
    · rw [List.getElem?_append_left hiF] at hg
      rw [List.take_append_of_le_length (by omega), List.take_append_of_le_length (by omega)]
      exact h i hiF g hg
    · obtain rfl : i = F.length := by simp at hi; omega
      rw [hl] at hg
      cases hg
      rw [ht]
      refine ⟨hr, ?_⟩
      rw [optsN_succ hl, ht]
      exact hn
theorem optsN_push (F : List Ot) (f : Ot) : optsN (F ++ [f]) = optsN F + (2 + f.l) := by unfold optsN; simp
theorem r_num2 {b off l c : Nat} {xs : Nat → Int} {w : World} (h : Bts w (some ⟨b, off, none⟩) l c xs) (i c' : Nat) (hi : i + 2 ≤ l) :
    Calls Tryd.prog 53 #[.slice (some ⟨b, off + i, none⟩) 2 c'] w fun e w' => e = .returned (.int .i64 (xs i * 256 + xs (i + 1))) ∧ Junk w w' := by
  have hI : IntsAt w (some ⟨b, off + i, none⟩) 2 .u8 (fun k => xs (i + k)) := fun k hk => by
    obtain ⟨h1, h2⟩ := t_bts_cell h (i + k) (by omega)
    exact ⟨b, off + i, rfl, h1, by rw [Nat.add_assoc]; exact h2⟩
  refine (number_any _ 2 c' _ w (by omega) hI (fun k hk => h.byte _ (by omega))).mono ?_
  rintro e w' ⟨rfl, hj⟩
  exact ⟨by simp [numI], hj⟩
theorem r_num0 {b off l c : Nat} {xs : Nat → Int} {w : World} (h : Bts w (some ⟨b, off, none⟩) l c xs) (c' : Nat) (hi : 2 ≤ l) :
    Calls Tryd.prog 53 #[.slice (some ⟨b, off, none⟩) 2 c'] w fun e w' => e = .returned (.int .i64 (xs 0 * 256 + xs 1)) ∧ Junk w w' := by
  have := r_num2 h 0 c' (by omega)
  simpa using this
theorem r_num4 {b off l c : Nat} {xs : Nat → Int} {w : World} (h : Bts w (some ⟨b, off, none⟩) l c xs) (i c' : Nat) (hi : i + 4 ≤ l) :
    Calls Tryd.prog 53 #[.slice (some ⟨b, off + i, none⟩) 4 c'] w fun e w' => e = .returned (.int .i64 ((xs i * 256 + xs (i + 1)) * 65536 + (xs (i + 2) * 256 + xs (i + 3)))) ∧ Junk w w' := by
  have hI : IntsAt w (some ⟨b, off + i, none⟩) 4 .u8 (fun k => xs (i + k)) := fun k hk => by
    obtain ⟨h1, h2⟩ := t_bts_cell h (i + k) (by omega)
    exact ⟨b, off + i, rfl, h1, by rw [Nat.add_assoc]; exact h2⟩
  refine (number_any _ 4 c' _ w (by omega) hI (fun k hk => h.byte _ (by omega))).mono ?_
  rintro e w' ⟨rfl, hj⟩
  refine ⟨?_, hj⟩
  congr 2
  simp only [numI, Nat.add_zero]
  omega
theorem ots_over5 {B : Nat} {V V' : World} {cur cur' : Array Value} {t e : TypeId} {os os' : Array Obj} {d d' : Nat} {oo : Option Addr} {cap n : Nat} {F : List Ot} (hs : V'.heap.size = V.heap.size)
    (h : Own B ((V.alloc (.cells cur t)).junk os d) e 2 oo cap n (otsL F)) (hB : V.heap.size + 1 ≤ B) (hA : ∀ f ∈ F, f.At ((V.alloc (.cells cur t)).junk os d) ∧ Fresh B f.oa) (ho : ∃ x, os' = os ++ x) : OsAt ((V'.alloc (.cells cur' t)).junk os' d') oo F :=
  own_os (own_over4 hs h hB ho) (fun f hf => bts_over4 hs (hA f hf).1 ((hA f hf).2.lower hB) ho)
theorem tcpM_tail {src dst : Int} {xs : Nat → Int} {l S n cap cap' : Nat} {w Wf : World} {B : Nat} {cur cA cB : Array Value} {t e : TypeId} {os os' os0 : Array Obj} {d d' d0 : Nat} {oo ob' : Option Addr} {F : List Ot} {R : Option (List Od)} {f0 f1 f2 f3 f4 f5 f6 : Int}
    (hj : Junk w Wf) (hE : tcpErr src dst xs l = if R.isNone then 6 else 0) (hR : R = some (F.map Ot.d)) (hT : ∀ Q, R = some Q → tcpTc xs l = ⟨f0, f1, f2, f3, f4, f5, f6, Q, l - S, fun i => xs (S + i)⟩)
    (hO : Own B (((((w.alloc (.cells cur t)).junk os0 d0)).alloc (.cells cA t)).junk os d) e 2 oo cap n (otsL F)) (hA : ∀ f ∈ F, f.At ((((w.alloc (.cells cur t)).junk os0 d0).alloc (.cells cA t)).junk os d) ∧ Fresh B f.oa) (hl : F.length = n)
    (hb : Own ((((w.alloc (.cells cur t)).junk os0 d0).alloc (.cells cA t)).junk os d).heap.size (((((w.alloc (.cells cur t)).junk os0 d0).alloc (.cells cA t)).junk os d).junk os' d') 5 1 ob' cap' (l - S) ((List.range (l - S)).map fun i => .int .u8 (xs (S + i))))
    (hx : ∀ i, i < l - S → 0 ≤ xs (S + i) ∧ xs (S + i) ≤ 255) (hB : w.heap.size + 1 + os0.size + 1 ≤ B := by simp; try omega)
    (hW : Wf = (((w.alloc (.cells cB t)).junk os0 d0).alloc (.cells cB t)).junk (os ++ os') d' := by rfl) :
    TcpM w (tcpErr src dst xs l) (tcpTc xs l) (.returned (.tuple #[.agg #[.int .i64 f0, .int .i64 f1, .int .u32 f2, .int .u32 f3, .int .i64 f4, .int .i64 f5, .int .i64 f6, .slice oo n cap, .slice ob' (l - S) cap'], .int .i64 0])) Wf := by
  subst hl
  subst hW
  rw [hE, hT _ hR, hR]
  have hb' := own_bts hb hx
  have hf' := own_fresh hb
  rw [World.junk_junk] at hb'
  exact ⟨hj, .inr ⟨rfl, F, oo, cap, ob', cap', rfl, ⟨ots_over5 (by simp) hO (by simp; omega) hA ⟨os', rfl⟩, own_nil3 hO, hO.capLe.1, bts_over4 (by simp) hb' (hf'.lower (by simp; try omega)) ⟨#[], by simp⟩⟩, rfl⟩⟩
set_option maxHeartbeats 8000000 in
theorem rtparse_any (src dst : Int) (ob : Option Addr) (l c : Nat) (xs : Nat → Int) (w : World) (h1 : 0 ≤ src ∧ src ≤ 4294967295) (h2 : 0 ≤ dst ∧ dst ≤ 4294967295) (hl : l ≤ 100000000) (hB : Bts w ob l c xs) :
    Calls Tryd.prog 24 #[.int .u32 src, .int .u32 dst, .slice ob l c] w (TcpM w (tcpErr src dst xs l) (tcpTc xs l)) := by
  have HB := Lib.hid hB
  by_cases h3 : l ≤ 65535
  case neg =>
    have h3' : (65535 : Int) < (l : Int) := by omega
    have HE := Lib.hid (show tcpErr src dst xs l = 4 by unfold tcpErr; rw [if_pos (by omega)])
    clear hB
    go_enter Tryd.func24, Tryd.ntmps24
    go_wp2
    go_returns
    exact tcpM_bad HE.out (by decide) (by ((try simp only [World.junk_junk, Array.append_assoc]); (repeat (first | with_reducible exact Junk.refl _ | with_reducible exact Junk.app _ _ _ _ _ | with_reducible exact Junk.app2 _ _ _ _ _ _ | with_reducible exact Junk.app3 _ _ _ _ _ _ _ | with_reducible exact Junk.app4 _ _ _ _ _ _ _ _ | with_reducible exact Junk.app5 _ _ _ _ _ _ _ _ _ | with_reducible apply Junk.alloc | with_reducible apply Junk.junk | with_reducible apply Junk.drew | with_reducible apply Junk.drewN))))
  have h3' : ¬ (65535 : Int) < (l : Int) := by omega
  by_cases h4 : 20 ≤ l
  case neg =>
    have h4' : (l : Int) < 20 := by omega
    have HE := Lib.hid (show tcpErr src dst xs l = 2 by unfold tcpErr; rw [if_neg (by omega), if_pos (by omega)])
    clear hB
    go_enter Tryd.func24, Tryd.ntmps24
    go_wp2
    go_returns
    exact tcpM_bad HE.out (by decide) (by ((try simp only [World.junk_junk, Array.append_assoc]); (repeat (first | with_reducible exact Junk.refl _ | with_reducible exact Junk.app _ _ _ _ _ | with_reducible exact Junk.app2 _ _ _ _ _ _ | with_reducible exact Junk.app3 _ _ _ _ _ _ _ | with_reducible exact Junk.app4 _ _ _ _ _ _ _ _ | with_reducible exact Junk.app5 _ _ _ _ _ _ _ _ _ | with_reducible apply Junk.alloc | with_reducible apply Junk.junk | with_reducible apply Junk.drew | with_reducible apply Junk.drewN))))
  have h4' : ¬ (l : Int) < 20 := by omega
  obtain ⟨b, off, rfl, hblk, hc0⟩ := hB.at_ 0 (by omega)
  have hcl : l ≤ c := hB.le
  have hk : ∀ k, k < l → w.cell? ⟨b, off + k, none⟩ = some (.int .u8 (xs k)) := fun k hk => by
    obtain ⟨b', off', he, _, hc⟩ := hB.at_ k hk
    cases he
    exact hc
  have hc12 := hk 12 (by omega)
  have hc13 := hk 13 (by omega)
  have hx12 := hB.byte 12 (by omega)
  have hx13 := hB.byte 13 (by omega)
  obtain ⟨S, hS⟩ : ∃ S, S = tcpSize xs := ⟨_, rfl⟩
  have eS : xs 12 / 16 * 4 = (S : Int) := by rw [hS]; unfold tcpSize; omega
  have hS9 : S ≤ 60 := by omega
  have j12 : (12 : Int) < (l : Int) := by omega
  have j13 : (13 : Int) < (l : Int) := by omega
  have i12 : 12 < l := by omega
  have i13 : 13 < l := by omega
  have HSZ := Lib.hid hS
  have HX12 := Lib.hid hx12
  clear hk hB hc0 hS
  by_cases h5 : 20 ≤ S ∧ S ≤ l
  case neg =>
    have HE := Lib.hid (show tcpErr src dst xs l = 3 by unfold tcpErr; rw [if_neg (by omega), if_neg (by omega), ← HSZ.out, if_pos (by omega)])
    by_cases h6 : S < 20
    · have h6' : (S : Int) < 20 := by omega
      clear h5 h6
      go_enter Tryd.func24, Tryd.ntmps24
      go_wp2
      go_returns
      exact tcpM_bad HE.out (by decide) (by ((try simp only [World.junk_junk, Array.append_assoc]); (repeat (first | with_reducible exact Junk.refl _ | with_reducible exact Junk.app _ _ _ _ _ | with_reducible exact Junk.app2 _ _ _ _ _ _ | with_reducible exact Junk.app3 _ _ _ _ _ _ _ | with_reducible exact Junk.app4 _ _ _ _ _ _ _ _ | with_reducible exact Junk.app5 _ _ _ _ _ _ _ _ _ | with_reducible apply Junk.alloc | with_reducible apply Junk.junk | with_reducible apply Junk.drew | with_reducible apply Junk.drewN))))
    · have h6' : ¬ (S : Int) < 20 := by omega
      have h7' : (l : Int) < (S : Int) := by omega
      clear h5 h6
      go_enter Tryd.func24, Tryd.ntmps24
      go_wp2
      go_returns
      exact tcpM_bad HE.out (by decide) (by ((try simp only [World.junk_junk, Array.append_assoc]); (repeat (first | with_reducible exact Junk.refl _ | with_reducible exact Junk.app _ _ _ _ _ | with_reducible exact Junk.app2 _ _ _ _ _ _ | with_reducible exact Junk.app3 _ _ _ _ _ _ _ | with_reducible exact Junk.app4 _ _ _ _ _ _ _ _ | with_reducible exact Junk.app5 _ _ _ _ _ _ _ _ _ | with_reducible apply Junk.alloc | with_reducible apply Junk.junk | with_reducible apply Junk.drew | with_reducible apply Junk.drewN))))
  obtain ⟨h5, h6⟩ := h5
  have h5' : ¬ (S : Int) < 20 := by omega
  have h6' : ¬ (l : Int) < (S : Int) := by omega
  by_cases h7 : tsumN src dst xs l = 65535
  case neg =>
    have h7' : (tsumN src dst xs l != 65535) = true := by simpa using h7
    have HE := Lib.hid (show tcpErr src dst xs l = 5 by unfold tcpErr; rw [if_neg (by omega), if_neg (by omega), ← HSZ.out, if_neg (by omega), if_pos h7])
    clear h7
    go_enter Tryd.func24, Tryd.ntmps24
    go_wp2_with (first | (go_at_call 52; refine (rtsum_any src dst _ l c xs _ h1 h2 (by omega) (HB.out.at_.on (by ((try simp only [World.junk_junk, Array.append_assoc]); (repeat (first | with_reducible exact Junk.refl _ | with_reducible exact Junk.app _ _ _ _ _ | with_reducible exact Junk.app2 _ _ _ _ _ _ | with_reducible exact Junk.app3 _ _ _ _ _ _ _ | with_reducible exact Junk.app4 _ _ _ _ _ _ _ _ | with_reducible exact Junk.app5 _ _ _ _ _ _ _ _ _ | with_reducible apply Junk.alloc | with_reducible apply Junk.junk | with_reducible apply Junk.drew | with_reducible apply Junk.drewN))))) HB.out.byte).mono ?_; rintro e w' ⟨rfl, ⟨oss, ds, rfl⟩⟩))
    go_returns
    exact tcpM_bad HE.out (by decide) (by ((try simp only [World.junk_junk, Array.append_assoc]); (repeat (first | with_reducible exact Junk.refl _ | with_reducible exact Junk.app _ _ _ _ _ | with_reducible exact Junk.app2 _ _ _ _ _ _ | with_reducible exact Junk.app3 _ _ _ _ _ _ _ | with_reducible exact Junk.app4 _ _ _ _ _ _ _ _ | with_reducible exact Junk.app5 _ _ _ _ _ _ _ _ _ | with_reducible apply Junk.alloc | with_reducible apply Junk.junk | with_reducible apply Junk.drew | with_reducible apply Junk.drewN))))
  have h7' : (tsumN src dst xs l != 65535) = false := by simpa using h7
  have hc20 : 20 ≤ c := by omega
  have hSc : S ≤ c := by omega
  have hSi : (20 : Int) ≤ (S : Int) := by omega
  have hSci : (S : Int) ≤ (c : Int) := by omega
  obtain ⟨R, hR⟩ : ∃ R, optR (fun i => xs (20 + i)) (S - 20) 0 [] = R := ⟨_, rfl⟩
  have HR := Lib.hid hR
  have HEQ := Lib.hid (show tcpErr src dst xs l = if R.isNone then 6 else 0 by unfold tcpErr; rw [if_neg (by omega), if_neg (by omega), ← HSZ.out, if_neg (by omega), if_neg (by simpa using h7)]; unfold tcpOpts; rw [← HSZ.out, hR])
  clear hR h7
  have n2 : ¬ c = 2 := by omega
  have n4 : ¬ c = 4 := by omega
  have n8 : ¬ c = 8 := by omega
  have n14 : ¬ c = 14 := by omega
  have n18 : ¬ c = 18 := by omega
  have p2 : (2 : Int) ≤ (c : Int) := by omega
  have p4 : (4 : Int) ≤ (c : Int) := by omega
  have p8 : (8 : Int) ≤ (c : Int) := by omega
  have p12 : (12 : Int) ≤ (c : Int) := by omega
  have p16 : (16 : Int) ≤ (c : Int) := by omega
  have p20 : (20 : Int) ≤ (c : Int) := by omega
  have hy4 := HB.out.byte 4 (by omega)
  have hy5 := HB.out.byte 5 (by omega)
  have hy6 := HB.out.byte 6 (by omega)
  have hy7 := HB.out.byte 7 (by omega)
  have hy8 := HB.out.byte 8 (by omega)
  have hy9 := HB.out.byte 9 (by omega)
  have hy10 := HB.out.byte 10 (by omega)
  have hy11 := HB.out.byte 11 (by omega)
  have q4 := wrapk_u32 ((xs 4 * 256 + xs 5) * 65536 + (xs 6 * 256 + xs 7)) (by omega) (by omega)
  have q8 := wrapk_u32 ((xs 8 * 256 + xs 9) * 65536 + (xs 10 * 256 + xs 11)) (by omega) (by omega)
  go_enter Tryd.func24, Tryd.ntmps24
  go_upto_region 10 with (first | (go_at_call 52; refine (rtsum_any src dst _ l c xs _ h1 h2 (by omega) (HB.out.at_.on (by ((try simp only [World.junk_junk, Array.append_assoc]); (repeat (first | with_reducible exact Junk.refl _ | with_reducible exact Junk.app _ _ _ _ _ | with_reducible exact Junk.app2 _ _ _ _ _ _ | with_reducible exact Junk.app3 _ _ _ _ _ _ _ | with_reducible exact Junk.app4 _ _ _ _ _ _ _ _ | with_reducible exact Junk.app5 _ _ _ _ _ _ _ _ _ | with_reducible apply Junk.alloc | with_reducible apply Junk.junk | with_reducible apply Junk.drew | with_reducible apply Junk.drewN))))) HB.out.byte).mono ?_; rintro e w' ⟨rfl, ⟨oss, ds, rfl⟩⟩))
  refine wp_region_mixj ((w.alloc (.cells #[.int .i64 0, .int .i64 0, .int .u32 0, .int .u32 0, .int .i64 0, .int .i64 0, .int .i64 0, .slice none 0 0, .slice none 0 0] 55)).junk oss ds) [(0, true), (1, true), (2, true), (3, true), (4, true), (5, true), (6, true), (7, true), (8, true), (9, true), (10, true), (11, true), (12, true), (13, true), (14, true), (15, true), (16, true), (17, true), (18, true), (19, true), (20, true), (21, true), (22, true), (23, true), (24, true), (25, false), (26, false)] (by kernel_rfl) (by kernel_rfl) (by (repeat (first | with_reducible exact Junk.refl _ | with_reducible exact Junk.app _ _ _ _ _ | with_reducible apply Junk.alloc | with_reducible apply Junk.junk | with_reducible apply Junk.drew | with_reducible apply Junk.drewN))) ?_; (iterate 25 (refine wpMix_q rfl (fun K hK => ?_); (go_simp; try go_bits); first | (refine hK _ ?_; clear hK K) | (apply Exists.intro; refine ⟨fun _ => ?_, hK _ ?_⟩; (first | (go_at_call 53; first | with_reducible exact (r_num0 (HB.out.on (by (repeat (first | with_reducible exact Junk.refl _ | with_reducible exact Junk.app _ _ _ _ _ | with_reducible apply Junk.alloc | with_reducible apply Junk.junk | with_reducible apply Junk.drew | with_reducible apply Junk.drewN)))) _ (by omega)) | with_reducible exact (r_num2 (HB.out.on (by (repeat (first | with_reducible exact Junk.refl _ | with_reducible exact Junk.app _ _ _ _ _ | with_reducible apply Junk.alloc | with_reducible apply Junk.junk | with_reducible apply Junk.drew | with_reducible apply Junk.drewN)))) 2 _ (by omega)) | with_reducible exact (r_num2 (HB.out.on (by (repeat (first | with_reducible exact Junk.refl _ | with_reducible exact Junk.app _ _ _ _ _ | with_reducible apply Junk.alloc | with_reducible apply Junk.junk | with_reducible apply Junk.drew | with_reducible apply Junk.drewN)))) 14 _ (by omega)) | with_reducible exact (r_num2 (HB.out.on (by (repeat (first | with_reducible exact Junk.refl _ | with_reducible exact Junk.app _ _ _ _ _ | with_reducible apply Junk.alloc | with_reducible apply Junk.junk | with_reducible apply Junk.drew | with_reducible apply Junk.drewN)))) 18 _ (by omega)) | with_reducible exact (r_num4 (HB.out.on (by (repeat (first | with_reducible exact Junk.refl _ | with_reducible exact Junk.app _ _ _ _ _ | with_reducible apply Junk.alloc | with_reducible apply Junk.junk | with_reducible apply Junk.drew | with_reducible apply Junk.drewN)))) 4 _ (by omega)) | with_reducible exact (r_num4 (HB.out.on (by (repeat (first | with_reducible exact Junk.refl _ | with_reducible exact Junk.app _ _ _ _ _ | with_reducible apply Junk.alloc | with_reducible apply Junk.junk | with_reducible apply Junk.drew | with_reducible apply Junk.drewN)))) 8 _ (by omega)))); clear hK K))); refine wpMix_e rfl (fun osm10_0 dm10_0 K hK => ?_); (go_simp; try go_bits); refine hK _ _ (Junk.pair (by (repeat (first | with_reducible exact Junk.refl _ | with_reducible exact Junk.app _ _ _ _ _ | with_reducible apply Junk.alloc | with_reducible apply Junk.junk | with_reducible apply Junk.drew | with_reducible apply Junk.drewN | (with_reducible refine Junk.setCell ?_ (by simp) _))))) ?_; clear hK K; refine wpMix_e rfl (fun osm10_1 dm10_1 K hK => ?_); (go_simp; try go_bits); refine hK _ _ (Junk.pair (by (repeat (first | with_reducible exact Junk.refl _ | with_reducible exact Junk.app _ _ _ _ _ | with_reducible apply Junk.alloc | with_reducible apply Junk.junk | with_reducible apply Junk.drew | with_reducible apply Junk.drewN | (with_reducible refine Junk.setCell ?_ (by simp) _))))) ?_; clear hK K; refine wpMix_nil (fun osm dm => ?_)
  go_wp2
  go_loopw [10] (fun v wr => ∃ (t n cap : Nat) (oo : Option Addr) (F : List Ot) (os : Array Obj) (d : Nat), v = .int .i64 (t : Int) ∧ wr = (((w.alloc (.cells #[.int .i64 0, .int .i64 0, .int .u32 0, .int .u32 0, .int .i64 0, .int .i64 0, .int .i64 0, .slice none 0 0, .slice none 0 0] 55)).junk (oss ++ osm10_0) dm10_0).alloc (.cells #[.int .i64 (xs 0 * 256 + xs 1), .int .i64 (xs 2 * 256 + xs 3), .int .u32 ((xs 4 * 256 + xs 5) * 65536 + (xs 6 * 256 + xs 7)), .int .u32 ((xs 8 * 256 + xs 9) * 65536 + (xs 10 * 256 + xs 11)), .int .i64 (xs 13), .int .i64 (xs 14 * 256 + xs 15), .int .i64 (xs 18 * 256 + xs 19), .slice oo n cap, .slice none 0 0] 55)).junk os d ∧ Hid (Own (w.heap.size + 1 + (oss.size + osm10_0.size) + 1) wr 59 2 oo cap n (otsL F)) ∧ Hid (∀ f ∈ F, f.At wr ∧ f.Off (rowOf oo)) ∧ Hid (∀ f ∈ F, Fresh (w.heap.size + 1 + (oss.size + osm10_0.size) + 1) f.oa) ∧ Hid (R = optR (fun i => xs (20 + i)) (S - 20) (t - 20) (F.map Ot.d)) ∧ Hid (optsN F ≤ t - 20) ∧ Hid (rtAll F = true) ∧ Hid (F.length = n) ∧ 20 ≤ t ∧ t ≤ S ∧ n ≤ t) (fun v _ => S + 1 - (intOf v).toNat)
  case atStart => exact ⟨20, 0, 0, none, [], osm10_1 ++ osm, dm, rfl, by simp only [World.junk_junk], Lib.hid (Own.nil _ _ _ _), Lib.hid (fun f hf => by cases hf), Lib.hid (fun f hf => by cases hf), Lib.hid HR.out.symm, Lib.hid (Nat.zero_le _), Lib.hid (by unfold rtAll; simp), Lib.hid rfl, by omega, h5, by omega⟩
  case round =>
    obtain ⟨t, n, cap, oo, F, os, d, rfl, rfl, hown, hA, hFr, hQ, hON, hRT, hLN, ht20, htS, hnt⟩ := hrel
    clear hc12 hc13 hx12 hx13 hy4 hy5 hy6 hy7 hy8 hy9 hy10 hy11 q4 q8 n2 n4 n8 n14 n18 p2 p4 p8 p12 p16 p20 j12 j13 i12 i13 h7'
    have pS : (S : Int) ≤ (l : Int) := by omega
    have HSB2 := Lib.hid (bts_sub HB.out S l h6 (Nat.le_refl _))
    generalize hadr2 : (if c = S then (some (⟨b, off, none⟩ : Addr)) else some ⟨b, off + S, none⟩) = adr2 at HSB2
    have HT := Lib.hid (fun Q (hq : R = some Q) => show tcpTc xs l = ⟨xs 0 * 256 + xs 1, xs 2 * 256 + xs 3, (xs 4 * 256 + xs 5) * 65536 + (xs 6 * 256 + xs 7), (xs 8 * 256 + xs 9) * 65536 + (xs 10 * 256 + xs 11), xs 13, xs 14 * 256 + xs 15, xs 18 * 256 + xs 19, Q, l - S, fun i => xs (S + i)⟩ by unfold tcpTc tcpOpts; rw [← HSZ.out, HR.out, hq]; rfl)
    by_cases hend : S ≤ t
    case pos =>
      have hlt : ¬ (t : Int) < (S : Int) := by omega
      have HE := Lib.hid (show R = some (F.map Ot.d) by rw [hQ.out, optR_end (.inl (by omega))])
      go_wp2_with (first | (at_builtin; (refine ap_own rfl _ _ 22 rfl 5 (.int .u8 0) 1 1 (by kernel_rfl) rfl (by decide) Tryd.underlying22 ((Junk.refl _).alloc _) _ 0 0 [] rfl (own_made _ _ 1 0 _ _ (by simp) (Nat.le_refl _) (Nat.zero_le _) rfl) _ (l - S) (c - S) rfl ((List.range (l - S)).map fun i => .int .u8 (xs (S + i))) (by simp) (HSB2.out.on (by ((try simp only [World.junk_junk, Array.append_assoc]); (repeat (first | with_reducible exact Junk.refl _ | with_reducible exact Junk.app _ _ _ _ _ | with_reducible exact Junk.app2 _ _ _ _ _ _ | with_reducible exact Junk.app3 _ _ _ _ _ _ _ | with_reducible exact Junk.app4 _ _ _ _ _ _ _ _ | with_reducible exact Junk.app5 _ _ _ _ _ _ _ _ _ | with_reducible apply Junk.alloc | with_reducible apply Junk.junk | with_reducible apply Junk.drew | with_reducible apply Junk.drewN))))).at_.src (fun h => HSB2.out.nil h) (by simp [Value.oneCell']) (by simp only [maxLen]; omega) (by omega) ?_; intro ob' cap' os' d' hown' hnn; rw [List.nil_append, Nat.zero_add] at hown'; have HOB := Lib.hid hown'; clear hown' hnn))); go_returns; exact tcpM_tail (by ((try simp only [World.junk_junk, Array.append_assoc]); (repeat (first | with_reducible exact Junk.refl _ | with_reducible exact Junk.app _ _ _ _ _ | with_reducible exact Junk.app2 _ _ _ _ _ _ | with_reducible exact Junk.app3 _ _ _ _ _ _ _ | with_reducible exact Junk.app4 _ _ _ _ _ _ _ _ | with_reducible exact Junk.app5 _ _ _ _ _ _ _ _ _ | with_reducible apply Junk.alloc | with_reducible apply Junk.junk | with_reducible apply Junk.drew | with_reducible apply Junk.drewN)))) HEQ.out HE.out HT.out hown.out (fun f hf => ⟨(hA.out f hf).1, hFr.out f hf⟩) hLN.out HOB.out (fun i hi => HB.out.byte _ (by omega))
    have hlt : (t : Int) < (S : Int) := by omega
    have htl : (t : Int) < (l : Int) := by omega
    have htl2 : t < l := by omega
    have b0 := (t_bts_cell HB.out t htl2).2
    have hy0 := HB.out.byte t htl2
    obtain ⟨y0, hy⟩ : ∃ y, y = xs t := ⟨_, rfl⟩
    rw [← hy] at b0 hy0
    have HY := Lib.hid hy
    clear hy
    by_cases h0 : y0 = 0
    · have h0' : (y0 != 0) = false := by simpa using h0
      have HE := Lib.hid (show R = some (F.map Ot.d) by rw [hQ.out, optR_end (.inr (by show xs (20 + (t - 20)) = 0; rw [show 20 + (t - 20) = t by omega, ← HY.out]; exact h0))])
      go_wp2_with (first | (at_builtin; (refine ap_own rfl _ _ 22 rfl 5 (.int .u8 0) 1 1 (by kernel_rfl) rfl (by decide) Tryd.underlying22 ((Junk.refl _).alloc _) _ 0 0 [] rfl (own_made _ _ 1 0 _ _ (by simp) (Nat.le_refl _) (Nat.zero_le _) rfl) _ (l - S) (c - S) rfl ((List.range (l - S)).map fun i => .int .u8 (xs (S + i))) (by simp) (HSB2.out.on (by ((try simp only [World.junk_junk, Array.append_assoc]); (repeat (first | with_reducible exact Junk.refl _ | with_reducible exact Junk.app _ _ _ _ _ | with_reducible exact Junk.app2 _ _ _ _ _ _ | with_reducible exact Junk.app3 _ _ _ _ _ _ _ | with_reducible exact Junk.app4 _ _ _ _ _ _ _ _ | with_reducible exact Junk.app5 _ _ _ _ _ _ _ _ _ | with_reducible apply Junk.alloc | with_reducible apply Junk.junk | with_reducible apply Junk.drew | with_reducible apply Junk.drewN))))).at_.src (fun h => HSB2.out.nil h) (by simp [Value.oneCell']) (by simp only [maxLen]; omega) (by omega) ?_; intro ob' cap' os' d' hown' hnn; rw [List.nil_append, Nat.zero_add] at hown'; have HOB := Lib.hid hown'; clear hown' hnn))); go_returns; exact tcpM_tail (by ((try simp only [World.junk_junk, Array.append_assoc]); (repeat (first | with_reducible exact Junk.refl _ | with_reducible exact Junk.app _ _ _ _ _ | with_reducible exact Junk.app2 _ _ _ _ _ _ | with_reducible exact Junk.app3 _ _ _ _ _ _ _ | with_reducible exact Junk.app4 _ _ _ _ _ _ _ _ | with_reducible exact Junk.app5 _ _ _ _ _ _ _ _ _ | with_reducible apply Junk.alloc | with_reducible apply Junk.junk | with_reducible apply Junk.drew | with_reducible apply Junk.drewN)))) HEQ.out HE.out HT.out hown.out (fun f hf => ⟨(hA.out f hf).1, hFr.out f hf⟩) hLN.out HOB.out (fun i hi => HB.out.byte _ (by omega))
    have h0' : (y0 != 0) = true := by simpa using h0
    by_cases h1 : y0 = 1
    · have h1' : (y0 == 1) = true := by simpa using h1
      have HQ2 := Lib.hid (show R = optR (fun i => xs (20 + i)) (S - 20) (t + 1 - 20) (F.map Ot.d) by rw [hQ.out, optR_one (by omega) (by show xs (20 + (t - 20)) = 1; rw [show 20 + (t - 20) = t by omega, ← HY.out]; exact h1), show t - 20 + 1 = t + 1 - 20 by omega])
      clear h0 h1
      go_wp2
      exact ⟨⟨t + 1, n, cap, oo, F, os, d, by go_num, rfl, hown, hA, hFr, HQ2, Lib.hid (by have := hON.out; omega), hRT, hLN, by omega, by omega, by omega⟩, by simp [intOf]; omega⟩
    have h1' : (y0 == 1) = false := by simpa using h1
    obtain ⟨U1, hU1⟩ : ∃ U, U = t + 1 := ⟨_, rfl⟩
    have qU := wrapk_i64 ((t : Int) + 1) (by omega) (by omega)
    have hU1' : (t : Int) + 1 = (U1 : Int) := by omega
    have qU1 := qU.trans hU1'
    have qU2 := wrapk_i64 (U1 : Int) (by omega) (by omega)
    clear qU hU1
    have HX0 := Lib.hid (show xs (20 + (t - 20)) = y0 by rw [show 20 + (t - 20) = t by omega, ← HY.out])
    by_cases h2 : U1 < S
    case neg =>
      have h2' : (S : Int) ≤ (U1 : Int) := by omega
      have HE := Lib.hid (show R = none by rw [hQ.out]; exact optR_bad (by omega) (by show xs (20 + (t - 20)) ≠ 0; rw [HX0.out]; exact h0) (by show xs (20 + (t - 20)) ≠ 1; rw [HX0.out]; exact h1) (.inl (by omega)))
      have HE6 := Lib.hid (show tcpErr src dst xs l = 6 by rw [HEQ.out, HE.out]; rfl)
      clear h0 h1
      go_wp2
      go_returns
      exact tcpM_bad HE6.out (by decide) (by ((try simp only [World.junk_junk, Array.append_assoc]); (repeat (first | with_reducible exact Junk.refl _ | with_reducible exact Junk.app _ _ _ _ _ | with_reducible exact Junk.app2 _ _ _ _ _ _ | with_reducible exact Junk.app3 _ _ _ _ _ _ _ | with_reducible exact Junk.app4 _ _ _ _ _ _ _ _ | with_reducible exact Junk.app5 _ _ _ _ _ _ _ _ _ | with_reducible apply Junk.alloc | with_reducible apply Junk.junk | with_reducible apply Junk.drew | with_reducible apply Junk.drewN))))
    have h2' : ¬ (S : Int) ≤ (U1 : Int) := by omega
    have u1l : (U1 : Int) < (l : Int) := by omega
    have u1l2 : U1 < l := by omega
    have b1 := (t_bts_cell HB.out U1 u1l2).2
    have hy1 := HB.out.byte U1 u1l2
    obtain ⟨Y, hYY⟩ : ∃ Y : Nat, xs U1 = (Y : Int) := ⟨(xs U1).toNat, by omega⟩
    rw [hYY] at b1 hy1
    have HX1 := Lib.hid (show xs (20 + (t - 20 + 1)) = (Y : Int) by rw [show 20 + (t - 20 + 1) = U1 by omega]; exact hYY)
    clear hYY
    by_cases h3 : 2 ≤ Y
    case neg =>
      have h3' : (Y : Int) < 2 := by omega
      have HE := Lib.hid (show R = none by rw [hQ.out]; exact optR_bad (by omega) (by show xs (20 + (t - 20)) ≠ 0; rw [HX0.out]; exact h0) (by show xs (20 + (t - 20)) ≠ 1; rw [HX0.out]; exact h1) (.inr (.inl (by show xs (20 + (t - 20 + 1)) < 2; rw [HX1.out]; omega))))
      have HE6 := Lib.hid (show tcpErr src dst xs l = 6 by rw [HEQ.out, HE.out]; rfl)
      clear h0 h1
      go_wp2
      go_returns
      exact tcpM_bad HE6.out (by decide) (by ((try simp only [World.junk_junk, Array.append_assoc]); (repeat (first | with_reducible exact Junk.refl _ | with_reducible exact Junk.app _ _ _ _ _ | with_reducible exact Junk.app2 _ _ _ _ _ _ | with_reducible exact Junk.app3 _ _ _ _ _ _ _ | with_reducible exact Junk.app4 _ _ _ _ _ _ _ _ | with_reducible exact Junk.app5 _ _ _ _ _ _ _ _ _ | with_reducible apply Junk.alloc | with_reducible apply Junk.junk | with_reducible apply Junk.drew | with_reducible apply Junk.drewN))))
    have h3' : ¬ (Y : Int) < 2 := by omega
    obtain ⟨Z, hZ⟩ : ∃ Z, Z = t + Y := ⟨_, rfl⟩
    have qZ := wrapk_i64 ((t : Int) + (Y : Int)) (by omega) (by omega)
    have hZ' : (t : Int) + (Y : Int) = (Z : Int) := by omega
    have qZ1 := qZ.trans hZ'
    have qZ2 := wrapk_i64 (Z : Int) (by omega) (by omega)
    clear qZ hZ
    by_cases h4 : Z ≤ S
    case neg =>
      have h4' : (S : Int) < (Z : Int) := by omega
      have HE := Lib.hid (show R = none by rw [hQ.out]; exact optR_bad (by omega) (by show xs (20 + (t - 20)) ≠ 0; rw [HX0.out]; exact h0) (by show xs (20 + (t - 20)) ≠ 1; rw [HX0.out]; exact h1) (.inr (.inr (by show ((S - 20 : Nat) : Int) < ((t - 20 : Nat) : Int) + xs (20 + (t - 20 + 1)); rw [HX1.out]; omega))))
      have HE6 := Lib.hid (show tcpErr src dst xs l = 6 by rw [HEQ.out, HE.out]; rfl)
      clear h0 h1
      go_wp2
      go_returns
      exact tcpM_bad HE6.out (by decide) (by ((try simp only [World.junk_junk, Array.append_assoc]); (repeat (first | with_reducible exact Junk.refl _ | with_reducible exact Junk.app _ _ _ _ _ | with_reducible exact Junk.app2 _ _ _ _ _ _ | with_reducible exact Junk.app3 _ _ _ _ _ _ _ | with_reducible exact Junk.app4 _ _ _ _ _ _ _ _ | with_reducible exact Junk.app5 _ _ _ _ _ _ _ _ _ | with_reducible apply Junk.alloc | with_reducible apply Junk.junk | with_reducible apply Junk.drew | with_reducible apply Junk.drewN))))
    have h4' : ¬ (S : Int) < (Z : Int) := by omega
    obtain ⟨U, hU⟩ : ∃ U, U = t + 2 := ⟨_, rfl⟩
    have qV := wrapk_i64 ((t : Int) + 2) (by omega) (by omega)
    have hU' : (t : Int) + 2 = (U : Int) := by omega
    have qV1 := qV.trans hU'
    have qV2 := wrapk_i64 (U : Int) (by omega) (by omega)
    clear qV hU
    have hUZ : (U : Int) ≤ (Z : Int) := by omega
    have hZc : (Z : Int) ≤ (c : Int) := by omega
    have HGOOD := Lib.hid (fun h => optR_good (xs := fun i => xs (20 + i)) (acc := F.map Ot.d) (show ¬ S - 20 ≤ t - 20 by omega) (by show xs (20 + (t - 20)) ≠ 0; rw [HX0.out]; exact h0) (by show xs (20 + (t - 20)) ≠ 1; rw [HX0.out]; exact h1) (by show ¬ (S - 20 ≤ t - 20 + 1 ∨ xs (20 + (t - 20 + 1)) < 2 ∨ ((S - 20 : Nat) : Int) < ((t - 20 : Nat) : Int) + xs (20 + (t - 20 + 1))); rw [HX1.out]; omega) h)
    have HWRONG := Lib.hid (fun h => optR_wrong (xs := fun i => xs (20 + i)) (acc := F.map Ot.d) (show ¬ S - 20 ≤ t - 20 by omega) (by show xs (20 + (t - 20)) ≠ 0; rw [HX0.out]; exact h0) (by show xs (20 + (t - 20)) ≠ 1; rw [HX0.out]; exact h1) (by show ¬ (S - 20 ≤ t - 20 + 1 ∨ xs (20 + (t - 20 + 1)) < 2 ∨ ((S - 20 : Nat) : Int) < ((t - 20 : Nat) : Int) + xs (20 + (t - 20 + 1))); rw [HX1.out]; omega) h)
    have HSUB := Lib.hid (bts_sub HB.out U Z (by omega) (by omega))
    generalize hadr3 : (if c = U then (some (⟨b, off, none⟩ : Addr)) else some ⟨b, off + U, none⟩) = adr3 at HSUB
    have e3 : rightO F y0 (Z - U) = rightD (F.map Ot.d) (xs (20 + (t - 20))) (xs (20 + (t - 20 + 1)) - 2).toNat := by rw [rightO_d, HX0.out, HX1.out]; congr 1; omega
    have E3 := Lib.hid e3
    clear e3 h0 h1
    go_upto_region 18 with (fail)
    refine wp_region_mixl ((((w.alloc (.cells #[.int .i64 0, .int .i64 0, .int .u32 0, .int .u32 0, .int .i64 0, .int .i64 0, .int .i64 0, .slice none 0 0, .slice none 0 0] 55)).junk (oss ++ osm10_0) dm10_0).alloc (.cells #[.int .i64 (xs 0 * 256 + xs 1), .int .i64 (xs 2 * 256 + xs 3), .int .u32 ((xs 4 * 256 + xs 5) * 65536 + (xs 6 * 256 + xs 7)), .int .u32 ((xs 8 * 256 + xs 9) * 65536 + (xs 10 * 256 + xs 11)), .int .i64 (xs 13), .int .i64 (xs 14 * 256 + xs 15), .int .i64 (xs 18 * 256 + xs 19), .slice oo n cap, .slice none 0 0] 55))) 20 [(0, true), (1, true), (2, true), (3, true), (4, true), (5, true), (6, true), (8, true), (9, true), (10, true), (11, true), (12, true), (13, true), (14, true), (7, false), (15, false), (16, true), (17, false), (18, false), (19, true), (20, false)] (by kernel_rfl) (by kernel_rfl) (by (repeat (first | with_reducible exact Junk.refl _ | with_reducible exact Junk.app _ _ _ _ _ | with_reducible apply Junk.alloc | with_reducible apply Junk.junk | with_reducible apply Junk.drew | with_reducible apply Junk.drewN))) ?_; (iterate 14 (refine wpMixL_q rfl (fun K hK => ?_); (go_simp; try go_bits); (refine hK _ ?_; clear hK K))); refine wpMixL_e rfl (fun osm18_0 dm18_0 K hK => ?_); (go_simp; try go_bits); refine hK _ _ (Junk.pair (by (repeat (first | with_reducible exact Junk.refl _ | with_reducible exact Junk.app _ _ _ _ _ | with_reducible apply Junk.alloc | with_reducible apply Junk.junk | with_reducible apply Junk.drew | with_reducible apply Junk.drewN | (with_reducible refine Junk.setCell ?_ (by simp) _))))) ?_; clear hK K; refine wpMixL_e1 rfl rfl (fun osm18_1 dm18_1 K hK => ?_); (refine ap_own_wp (W0 := (((w.alloc (.cells #[.int .i64 0, .int .i64 0, .int .u32 0, .int .u32 0, .int .i64 0, .int .i64 0, .int .i64 0, .slice none 0 0, .slice none 0 0] 55)).junk (oss ++ osm10_0) dm10_0).alloc (.cells #[.int .i64 (xs 0 * 256 + xs 1), .int .i64 (xs 2 * 256 + xs 3), .int .u32 ((xs 4 * 256 + xs 5) * 65536 + (xs 6 * 256 + xs 7)), .int .u32 ((xs 8 * 256 + xs 9) * 65536 + (xs 10 * 256 + xs 11)), .int .i64 (xs 13), .int .i64 (xs 14 * 256 + xs 15), .int .i64 (xs 18 * 256 + xs 19), .slice oo n cap, .slice none 0 0] 55)).junk os d) _ _ 22 rfl 5 (.int .u8 0) 1 1 (by kernel_rfl) rfl (by decide) Tryd.underlying22 (by (repeat (first | with_reducible exact Junk.refl _ | with_reducible exact Junk.app _ _ _ _ _ | with_reducible apply Junk.alloc | with_reducible apply Junk.junk | with_reducible apply Junk.drew | with_reducible apply Junk.drewN))) _ _ 0 [] rfl (own_made' _ _ (by simp) (by simp) (Nat.zero_le _) rfl) _ (Z - U) (c - U) rfl ((List.range (Z - U)).map fun i => .int .u8 (xs (U + i))) (by simp) (HSUB.out.on (by ((try simp only [World.junk_junk, Array.append_assoc]); (repeat (first | with_reducible exact Junk.refl _ | with_reducible exact Junk.app _ _ _ _ _ | with_reducible exact Junk.app2 _ _ _ _ _ _ | with_reducible exact Junk.app3 _ _ _ _ _ _ _ | with_reducible exact Junk.app4 _ _ _ _ _ _ _ _ | with_reducible exact Junk.app5 _ _ _ _ _ _ _ _ _ | with_reducible apply Junk.alloc | with_reducible apply Junk.junk | with_reducible apply Junk.drew | with_reducible apply Junk.drewN))))).at_.src (fun h => HSUB.out.nil h) (by simp [Value.oneCell']) (by simp only [maxLen]; omega) (by omega) ?_; intro oc cc osP dP hownP hnnP; rw [List.nil_append, Nat.zero_add] at hownP; have hcb := own_bts hownP (fun i hi => HB.out.byte _ (by omega)); have Hcf := Lib.hid (own_fresh hownP); rw [World.junk_junk] at hcb; have Hcb := Lib.hid hcb; clear hownP hnnP hcb); refine hK _ _ (Junk.pair (by (repeat (first | with_reducible exact Junk.refl _ | with_reducible exact Junk.app _ _ _ _ _ | with_reducible apply Junk.alloc | with_reducible apply Junk.junk | with_reducible apply Junk.drew | with_reducible apply Junk.drewN | (with_reducible refine Junk.setCell ?_ (by simp) _))))) ?_; clear hK K; (iterate 1 (refine wpMixL_q rfl (fun K hK => ?_); (go_simp; try go_bits); (refine hK _ ?_; clear hK K))); refine wpMixL_e rfl (fun osm18_2 dm18_2 K hK => ?_); (go_simp; try go_bits); refine hK _ _ (Junk.pair (by (repeat (first | with_reducible exact Junk.refl _ | with_reducible exact Junk.app _ _ _ _ _ | with_reducible apply Junk.alloc | with_reducible apply Junk.junk | with_reducible apply Junk.drew | with_reducible apply Junk.drewN | (with_reducible refine Junk.setCell ?_ (by simp) _))))) ?_; clear hK K; refine wpMixL_e1 rfl rfl (fun osm18_3 dm18_3 K hK => ?_); (refine ap_own2_wp (W0 := ((w.alloc (.cells #[.int .i64 0, .int .i64 0, .int .u32 0, .int .u32 0, .int .i64 0, .int .i64 0, .int .i64 0, .slice none 0 0, .slice none 0 0] 55)).junk (oss ++ osm10_0) dm10_0).alloc (.cells #[.int .i64 (xs 0 * 256 + xs 1), .int .i64 (xs 2 * 256 + xs 3), .int .u32 ((xs 4 * 256 + xs 5) * 65536 + (xs 6 * 256 + xs 7)), .int .u32 ((xs 8 * 256 + xs 9) * 65536 + (xs 10 * 256 + xs 11)), .int .i64 (xs 13), .int .i64 (xs 14 * 256 + xs 15), .int .i64 (xs 18 * 256 + xs 19), .slice oo n cap, .slice none 0 0] 55)) _ _ 53 rfl 59 (.agg #[.int .i64 0, .slice none 0 0]) 2 32 (by kernel_rfl) rfl (by decide) Tryd.underlying53 (by ((try simp only [World.junk_junk, Array.append_assoc]); (repeat (first | with_reducible exact Junk.refl _ | with_reducible exact Junk.app _ _ _ _ _ | with_reducible exact Junk.app2 _ _ _ _ _ _ | with_reducible exact Junk.app3 _ _ _ _ _ _ _ | with_reducible exact Junk.app4 _ _ _ _ _ _ _ _ | with_reducible exact Junk.app5 _ _ _ _ _ _ _ _ _ | with_reducible apply Junk.alloc | with_reducible apply Junk.junk | with_reducible apply Junk.drew | with_reducible apply Junk.drewN)))) oo cap n (otsL F) rfl ((hown.out.lower (by simp; try omega)).on (by ((try simp only [World.junk_junk, Array.append_assoc]); (repeat (first | with_reducible exact Junk.refl _ | with_reducible exact Junk.app _ _ _ _ _ | with_reducible exact Junk.app2 _ _ _ _ _ _ | with_reducible exact Junk.app3 _ _ _ _ _ _ _ | with_reducible exact Junk.app4 _ _ _ _ _ _ _ _ | with_reducible exact Junk.app5 _ _ _ _ _ _ _ _ _ | with_reducible apply Junk.alloc | with_reducible apply Junk.junk | with_reducible apply Junk.drew | with_reducible apply Junk.drewN))))) _ 1 1 rfl (Ot.cells ⟨y0, oc, Z - U, cc, fun i => xs (U + i)⟩) rfl (built_cells3 (by simp) _ rfl) (Ot.one _) (by simp only [maxLen]; omega) (by omega) (by decide) ?_; intro oa' cap' os' d' hown' hgr hrow; have hkp := keepO (fun f hf => ⟨Bts.on (hA.out f hf).1 (by ((try simp only [World.junk_junk, Array.append_assoc]); (repeat (first | with_reducible exact Junk.refl _ | with_reducible exact Junk.app _ _ _ _ _ | with_reducible exact Junk.app2 _ _ _ _ _ _ | with_reducible exact Junk.app3 _ _ _ _ _ _ _ | with_reducible exact Junk.app4 _ _ _ _ _ _ _ _ | with_reducible exact Junk.app5 _ _ _ _ _ _ _ _ _ | with_reducible apply Junk.alloc | with_reducible apply Junk.junk | with_reducible apply Junk.drew | with_reducible apply Junk.drewN)))), (hA.out f hf).2⟩) (fn := ⟨y0, oc, Z - U, cc, fun i => xs (U + i)⟩) (Bts.on Hcb.out (by ((try simp only [World.junk_junk, Array.append_assoc]); (repeat (first | with_reducible exact Junk.refl _ | with_reducible exact Junk.app _ _ _ _ _ | with_reducible exact Junk.app2 _ _ _ _ _ _ | with_reducible exact Junk.app3 _ _ _ _ _ _ _ | with_reducible exact Junk.app4 _ _ _ _ _ _ _ _ | with_reducible exact Junk.app5 _ _ _ _ _ _ _ _ _ | with_reducible apply Junk.alloc | with_reducible apply Junk.junk | with_reducible apply Junk.drew | with_reducible apply Junk.drewN))))) (fresh_off Hcf.out (own_row2 hown.out)) hgr hrow; rw [otsL_one] at hown'; have HK := Lib.hid hkp; have Hown2 := Lib.hid hown'; clear hkp hgr hrow hown'); refine hK _ _ (Junk.pair (by (repeat (first | with_reducible exact Junk.refl _ | with_reducible exact Junk.app _ _ _ _ _ | with_reducible apply Junk.alloc | with_reducible apply Junk.junk | with_reducible apply Junk.drew | with_reducible apply Junk.drewN | (with_reducible refine Junk.setCell ?_ (by simp) _))))) ?_; clear hK K; (iterate 1 (refine wpMixL_q rfl (fun K hK => ?_); (go_simp; try go_bits); (refine hK _ ?_; clear hK K))); refine wpMixL_last rfl (fun osm18_4 dm18_4 K hK => ?_); (go_simp; try go_bits); refine hK _ _ ?_; clear hK K; refine wpMixL_nil (fun osm dm => ?_)
    simp only [World.junk_junk]
    have HO3 := Lib.hid (show Own (w.heap.size + 1 + (oss.size + osm10_0.size) + 1) ((((w.alloc (.cells #[.int .i64 0, .int .i64 0, .int .u32 0, .int .u32 0, .int .i64 0, .int .i64 0, .int .i64 0, .slice none 0 0, .slice none 0 0] 55)).junk (oss ++ osm10_0) dm10_0).alloc (.cells #[.int .i64 (xs 0 * 256 + xs 1), .int .i64 (xs 2 * 256 + xs 3), .int .u32 ((xs 4 * 256 + xs 5) * 65536 + (xs 6 * 256 + xs 7)), .int .u32 ((xs 8 * 256 + xs 9) * 65536 + (xs 10 * 256 + xs 11)), .int .i64 (xs 13), .int .i64 (xs 14 * 256 + xs 15), .int .i64 (xs 18 * 256 + xs 19), .slice oa' (n + 1) cap', .slice none 0 0] 55)).junk (os' ++ osm18_4 ++ osm) dm) 59 2 oa' cap' (n + 1) (otsL (F ++ [(⟨y0, oc, Z - U, cc, fun i => xs (U + i)⟩ : Ot)])) from (own_over4 rfl (Hown2.out.lower (by simp; try omega)) (by simp; try omega) ⟨osm18_4 ++ osm, by rw [Array.append_assoc]⟩))
    have HFR3 := Lib.hid (show ∀ f ∈ (F ++ [(⟨y0, oc, Z - U, cc, fun i => xs (U + i)⟩ : Ot)]), Fresh (w.heap.size + 1 + (oss.size + osm10_0.size) + 1) f.oa from fun f hf => by
      rcases List.mem_append.1 hf with h | h
      · exact hFr.out f h
      · simp only [List.mem_cons, List.not_mem_nil, or_false] at h; subst h; exact Hcf.out.lower (by simp; try omega))
    have HA3 := Lib.hid (show ∀ f ∈ (F ++ [(⟨y0, oc, Z - U, cc, fun i => xs (U + i)⟩ : Ot)]), f.At ((((w.alloc (.cells #[.int .i64 0, .int .i64 0, .int .u32 0, .int .u32 0, .int .i64 0, .int .i64 0, .int .i64 0, .slice none 0 0, .slice none 0 0] 55)).junk (oss ++ osm10_0) dm10_0).alloc (.cells #[.int .i64 (xs 0 * 256 + xs 1), .int .i64 (xs 2 * 256 + xs 3), .int .u32 ((xs 4 * 256 + xs 5) * 65536 + (xs 6 * 256 + xs 7)), .int .u32 ((xs 8 * 256 + xs 9) * 65536 + (xs 10 * 256 + xs 11)), .int .i64 (xs 13), .int .i64 (xs 14 * 256 + xs 15), .int .i64 (xs 18 * 256 + xs 19), .slice oa' (n + 1) cap', .slice none 0 0] 55)).junk (os' ++ osm18_4 ++ osm) dm) ∧ f.Off (rowOf oa') from fun f hf => ⟨bts_over4 rfl (HK.out f hf).1 ((HFR3.out f hf).lower (by simp; try omega)) ⟨osm18_4 ++ osm, by rw [Array.append_assoc]⟩, (HK.out f hf).2⟩)
    have HLN3 := Lib.hid (show (F ++ [(⟨y0, oc, Z - U, cc, fun i => xs (U + i)⟩ : Ot)]).length = n + 1 by rw [List.length_append, hLN.out]; rfl)
    clear HK Hown2 Hcb hA hown
    generalize os' ++ osm18_4 ++ osm = os3 at HO3 HA3 ⊢
    have pn : n + 1 ≤ 1000000 := by omega
    have h40 : optsN F + (2 + (Z - U)) ≤ 40 := by have := hON.out; omega
    cases h5 : rightO F y0 (Z - U) with
    | false =>
      have HR5 := Lib.hid (show rtAll (F ++ [(⟨y0, oc, Z - U, cc, fun i => xs (U + i)⟩ : Ot)]) = false from rtAll_push hRT.out h5 h40)
      have HE := Lib.hid (show R = none by rw [hQ.out]; exact HWRONG.out (by rw [← E3.out]; exact h5))
      have HE6 := Lib.hid (show tcpErr src dst xs l = 6 by rw [HEQ.out, HE.out]; rfl)
      go_wp2_with (first | (go_at_call 54; refine (rtright_any oa' (n + 1) cap' (F ++ [(⟨y0, oc, Z - U, cc, fun i => xs (U + i)⟩ : Ot)]) _ (by omega) HLN3.out (own_os (HO3.out.on (by ((try simp only [World.junk_junk, Array.append_assoc]); (repeat (first | with_reducible exact Junk.refl _ | with_reducible exact Junk.app _ _ _ _ _ | with_reducible exact Junk.app2 _ _ _ _ _ _ | with_reducible exact Junk.app3 _ _ _ _ _ _ _ | with_reducible exact Junk.app4 _ _ _ _ _ _ _ _ | with_reducible exact Junk.app5 _ _ _ _ _ _ _ _ _ | with_reducible apply Junk.alloc | with_reducible apply Junk.junk | with_reducible apply Junk.drew | with_reducible apply Junk.drewN))))) (fun f hf => Bts.on (HA3.out f hf).1 (by ((try simp only [World.junk_junk, Array.append_assoc]); (repeat (first | with_reducible exact Junk.refl _ | with_reducible exact Junk.app _ _ _ _ _ | with_reducible exact Junk.app2 _ _ _ _ _ _ | with_reducible exact Junk.app3 _ _ _ _ _ _ _ | with_reducible exact Junk.app4 _ _ _ _ _ _ _ _ | with_reducible exact Junk.app5 _ _ _ _ _ _ _ _ _ | with_reducible apply Junk.alloc | with_reducible apply Junk.junk | with_reducible apply Junk.drew | with_reducible apply Junk.drewN))))))).mono ?_; rintro e w' ⟨rfl, ⟨osr, dr, rfl⟩⟩; rw [HR5.out]))
      go_returns
      exact tcpM_bad HE6.out (by decide) (by ((try simp only [World.junk_junk, Array.append_assoc]); (repeat (first | with_reducible exact Junk.refl _ | with_reducible exact Junk.app _ _ _ _ _ | with_reducible exact Junk.app2 _ _ _ _ _ _ | with_reducible exact Junk.app3 _ _ _ _ _ _ _ | with_reducible exact Junk.app4 _ _ _ _ _ _ _ _ | with_reducible exact Junk.app5 _ _ _ _ _ _ _ _ _ | with_reducible apply Junk.alloc | with_reducible apply Junk.junk | with_reducible apply Junk.drew | with_reducible apply Junk.drewN))))
    | true =>
      have HR5 := Lib.hid (show rtAll (F ++ [(⟨y0, oc, Z - U, cc, fun i => xs (U + i)⟩ : Ot)]) = true from rtAll_push hRT.out h5 h40)
      have HQ2 := Lib.hid (show R = optR (fun i => xs (20 + i)) (S - 20) (Z - 20) ((F ++ [(⟨y0, oc, Z - U, cc, fun i => xs (U + i)⟩ : Ot)]).map Ot.d) by
        rw [hQ.out, HGOOD.out (by rw [← E3.out]; exact h5), HX1.out, show t - 20 + ((Y : Nat) : Int).toNat = Z - 20 by omega]
        congr 1
        rw [List.map_append]
        congr 1
        simp only [Ot.d, List.map_cons, List.map_nil, List.cons.injEq, Od.mk.injEq, and_true]
        refine ⟨HX0.out, by omega, ?_⟩
        funext i
        congr 1
        omega)
      go_wp2_with (first | (go_at_call 54; refine (rtright_any oa' (n + 1) cap' (F ++ [(⟨y0, oc, Z - U, cc, fun i => xs (U + i)⟩ : Ot)]) _ (by omega) HLN3.out (own_os (HO3.out.on (by ((try simp only [World.junk_junk, Array.append_assoc]); (repeat (first | with_reducible exact Junk.refl _ | with_reducible exact Junk.app _ _ _ _ _ | with_reducible exact Junk.app2 _ _ _ _ _ _ | with_reducible exact Junk.app3 _ _ _ _ _ _ _ | with_reducible exact Junk.app4 _ _ _ _ _ _ _ _ | with_reducible exact Junk.app5 _ _ _ _ _ _ _ _ _ | with_reducible apply Junk.alloc | with_reducible apply Junk.junk | with_reducible apply Junk.drew | with_reducible apply Junk.drewN))))) (fun f hf => Bts.on (HA3.out f hf).1 (by ((try simp only [World.junk_junk, Array.append_assoc]); (repeat (first | with_reducible exact Junk.refl _ | with_reducible exact Junk.app _ _ _ _ _ | with_reducible exact Junk.app2 _ _ _ _ _ _ | with_reducible exact Junk.app3 _ _ _ _ _ _ _ | with_reducible exact Junk.app4 _ _ _ _ _ _ _ _ | with_reducible exact Junk.app5 _ _ _ _ _ _ _ _ _ | with_reducible apply Junk.alloc | with_reducible apply Junk.junk | with_reducible apply Junk.drew | with_reducible apply Junk.drewN))))))).mono ?_; rintro e w' ⟨rfl, ⟨osr, dr, rfl⟩⟩; rw [HR5.out]))
      exact ⟨⟨Z, n + 1, cap', oa', F ++ [(⟨y0, oc, Z - U, cc, fun i => xs (U + i)⟩ : Ot)], os3 ++ osr, dr, by go_num, by first | with_reducible rfl | simp only [World.junk_junk], Lib.hid (HO3.out.on (by ((try simp only [World.junk_junk, Array.append_assoc]); (repeat (first | with_reducible exact Junk.refl _ | with_reducible exact Junk.app _ _ _ _ _ | with_reducible exact Junk.app2 _ _ _ _ _ _ | with_reducible exact Junk.app3 _ _ _ _ _ _ _ | with_reducible exact Junk.app4 _ _ _ _ _ _ _ _ | with_reducible exact Junk.app5 _ _ _ _ _ _ _ _ _ | with_reducible apply Junk.alloc | with_reducible apply Junk.junk | with_reducible apply Junk.drew | with_reducible apply Junk.drewN))))), Lib.hid (fun f hf => ⟨Bts.on (HA3.out f hf).1 (by ((try simp only [World.junk_junk, Array.append_assoc]); (repeat (first | with_reducible exact Junk.refl _ | with_reducible exact Junk.app _ _ _ _ _ | with_reducible exact Junk.app2 _ _ _ _ _ _ | with_reducible exact Junk.app3 _ _ _ _ _ _ _ | with_reducible exact Junk.app4 _ _ _ _ _ _ _ _ | with_reducible exact Junk.app5 _ _ _ _ _ _ _ _ _ | with_reducible apply Junk.alloc | with_reducible apply Junk.junk | with_reducible apply Junk.drew | with_reducible apply Junk.drewN)))), (HA3.out f hf).2⟩), HFR3, HQ2, Lib.hid (by rw [optsN_push]; have := hON.out; show optsN F + (2 + (Z - U)) ≤ Z - 20; omega), HR5, HLN3, by omega, by omega, by omega⟩, by simp [intOf]; omega⟩
end Go.Proofs.YtfkhnhenemgcmaaDoor
