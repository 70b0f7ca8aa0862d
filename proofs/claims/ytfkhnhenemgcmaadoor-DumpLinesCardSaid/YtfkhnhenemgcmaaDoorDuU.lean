/- No line has a line's end in it. -/
import Derived.Test.YtfkhnhenemgcmaaDoorDuT
set_option linter.unusedVariables false
set_option maxRecDepth 100000
set_option linter.unusedSimpArgs false
namespace Go.Proofs.YtfkhnhenemgcmaaDoor
open Go.RowKit
def noNL (s : ByteArray) : Prop := ∀ x ∈ s.data.toList, x ≠ 10
def NlL (L : List ByteArray) : Prop := ∀ s ∈ L, noNL s
theorem noNL.app {a b : ByteArray} (h : noNL a) (g : noNL b) : noNL (a ++ b) := fun x hx => by
  rw [ByteArray.data_append, Array.toList_append] at hx
  exact (List.mem_append.1 hx).elim (h x) (g x)
theorem NlL.app {L M : List ByteArray} (h : NlL L) (g : NlL M) : NlL (L ++ M) := fun s hs => (List.mem_append.1 hs).elim (h s) (g s)
theorem NlL.nil : NlL [] := fun s hs => by cases hs
theorem NlL.cons {x : ByteArray} {L : List ByteArray} (hx : noNL x) (h : NlL L) : NlL (x :: L) := fun s hs => by
  rcases List.mem_cons.1 hs with rfl | hs
  · exact hx
  · exact h s hs
theorem NlL.one {b : Bool} {x : ByteArray} (hx : noNL x) : NlL (if b = true then [x] else []) := by
  cases b with
  | true => exact NlL.cons hx NlL.nil
  | false => exact NlL.nil
theorem dig_ge : ∀ (n u : Nat), u < n → ∀ x ∈ Lib.decDigits u, x ≠ (10 : UInt8)
  | 0, u, h, _, _ => absurd h (by omega)
  | n + 1, u, h, x, hx => by
    rw [Lib.decDigits] at hx
    have one : ∀ d, d < 10 → UInt8.ofNat (48 + d) ≠ (10 : UInt8) := by decide +kernel
    split at hx
    · rename_i hu
      simp only [List.mem_singleton] at hx
      subst hx
      exact one u hu
    · rcases List.mem_append.1 hx with hx | hx
      · exact dig_ge n (u / 10) (by omega) x hx
      · simp only [List.mem_singleton] at hx
        subst hx
        exact one _ (by omega)
theorem itoaS_nl (n : Int) : noNL (itoaS n) := fun x hx => by
  unfold itoaS at hx
  simp only at hx
  unfold Lib.itoa at hx
  split at hx
  · rcases List.mem_cons.1 hx with rfl | hx
    · decide
    · exact dig_ge _ _ (Nat.lt_succ_self _) x hx
  · exact dig_ge _ _ (Nat.lt_succ_self _) x hx
theorem lit_nl {s : ByteArray} (h : (s.data.toList.all fun x => x != 10) = true) : noNL s := fun x hx => by
  rw [List.all_eq_true] at h
  simpa using h x hx
theorem adrS_nl (a : Int) : noNL (adrS a) :=
  ((((((itoaS_nl _).app (lit_nl (by decide))).app (itoaS_nl _)).app (lit_nl (by decide))).app (itoaS_nl _)).app (lit_nl (by decide))).app (itoaS_nl _)
theorem sideS_nl (a p : Int) : noNL (sideS a p) := ((adrS_nl a).app (lit_nl (by decide))).app (itoaS_nl _)
theorem flS_nl (f : Int) : ∀ k, k ≤ 8 → noNL (flS f k)
  | 0, _ => by rw [flS]; exact lit_nl (by decide)
  | k + 1, h => by
    have hc : ∀ k, k < 8 → ((⟨#[ltC k]⟩ : ByteArray).data.toList.all fun x => x != 10) = true := by decide +kernel
    rw [flS]
    split
    · exact (flS_nl f k (by omega)).app (lit_nl (hc k (by omega)))
    · exact flS_nl f k (by omega)
theorem flagsS_nl (f : Int) : noNL (flagsS f) := by
  unfold flagsS
  split
  · exact lit_nl (by decide)
  · exact flS_nl f 8 (by omega)
theorem optW_nl : ∀ ks : List Int, NlL (optW ks)
  | [] => NlL.nil
  | k :: ks => by
    have h1 := optW_nl ks
    have := (NlL.cons (x := tOPT) (lit_nl (by decide)) (NlL.cons (itoaS_nl k) NlL.nil)).app h1
    unfold optW at this ⊢
    rw [List.map_cons, List.flatten_cons]
    exact this
theorem tcpW_nl (src dst : Int) (t : Tc) (ks : List Int) : NlL (tcpW src dst t ks) := by
  have h1 : NlL [tTCP, sideS src t.sport, tGT, sideS dst t.dport, flagsS t.flags] := NlL.cons (lit_nl (by decide)) (NlL.cons (sideS_nl _ _) (NlL.cons (lit_nl (by decide)) (NlL.cons (sideS_nl _ _) (NlL.cons (flagsS_nl _) NlL.nil))))
  have h2 : NlL [tSEQ, itoaS t.seq, tACK, itoaS t.ack] := NlL.cons (lit_nl (by decide)) (NlL.cons (itoaS_nl _) (NlL.cons (lit_nl (by decide)) (NlL.cons (itoaS_nl _) NlL.nil)))
  have h3 : NlL [tWIN, itoaS t.win] := NlL.cons (lit_nl (by decide)) (NlL.cons (itoaS_nl _) NlL.nil)
  have h4 : NlL [tLEN, itoaS t.bl] := NlL.cons (lit_nl (by decide)) (NlL.cons (itoaS_nl _) NlL.nil)
  exact (((h1.app h2).app h3).app h4).app (optW_nl ks)
theorem udpW_nl (src dst sp dp : Int) (n : Nat) (ns : Bool) : NlL (udpW src dst sp dp n ns) := by
  have h1 : NlL [tUDP, sideS src sp, tGT, sideS dst dp] := NlL.cons (lit_nl (by decide)) (NlL.cons (sideS_nl _ _) (NlL.cons (lit_nl (by decide)) (NlL.cons (sideS_nl _ _) NlL.nil)))
  have h2 : NlL [tLEN, itoaS n] := NlL.cons (lit_nl (by decide)) (NlL.cons (itoaS_nl _) NlL.nil)
  exact (h1.app h2).app (NlL.one (lit_nl (by decide)))
theorem icmpW_nl (src dst t c r : Int) (n : Nat) : NlL (icmpW src dst t c r n) := by
  have h1 : NlL [tICMP, adrS src, tGT, adrS dst] := NlL.cons (lit_nl (by decide)) (NlL.cons (adrS_nl _) (NlL.cons (lit_nl (by decide)) (NlL.cons (adrS_nl _) NlL.nil)))
  have h2 : NlL [tTYPE, itoaS t] := NlL.cons (lit_nl (by decide)) (NlL.cons (itoaS_nl _) NlL.nil)
  have h3 : NlL [tCODE, itoaS c] := NlL.cons (lit_nl (by decide)) (NlL.cons (itoaS_nl _) NlL.nil)
  have h4 : NlL [tLEN, itoaS n] := NlL.cons (lit_nl (by decide)) (NlL.cons (itoaS_nl _) NlL.nil)
  have h5 : NlL (if (asksB t || answersB t) = true then [tNAME, itoaS (nameI t r)] else []) := by
    split
    · exact NlL.cons (lit_nl (by decide)) (NlL.cons (itoaS_nl _) NlL.nil)
    · exact NlL.nil
  exact (((h1.app h2).app h3).app h4).app h5
theorem bodyW_nl {p : Ip} {M : List ByteArray} (hm : bodyW p = some M) : NlL M := by
  unfold bodyW at hm
  repeat' split at hm
  all_goals (first | (cases hm; done) | (simp only [Option.some.injEq] at hm; subst hm; first | exact tcpW_nl _ _ _ _ | exact udpW_nl _ _ _ _ _ _ | exact icmpW_nl _ _ _ _ _ _))
theorem headW_nl (p : Ip) : NlL (headW p) := by
  unfold headW
  split
  · have h1 : NlL [tPIECE, adrS p.src, tGT, adrS p.dst] := NlL.cons (lit_nl (by decide)) (NlL.cons (adrS_nl _) (NlL.cons (lit_nl (by decide)) (NlL.cons (adrS_nl _) NlL.nil)))
    have h2 : NlL [tID, itoaS p.id] := NlL.cons (lit_nl (by decide)) (NlL.cons (itoaS_nl _) NlL.nil)
    have h3 : NlL [tOFF, itoaS p.off] := NlL.cons (lit_nl (by decide)) (NlL.cons (itoaS_nl _) NlL.nil)
    have h4 : NlL [tLEN, itoaS p.bl] := NlL.cons (lit_nl (by decide)) (NlL.cons (itoaS_nl _) NlL.nil)
    exact (((h1.app h2).app h3).app h4).app (NlL.one (lit_nl (by decide)))
  · cases hb : bodyW p with
    | none =>
      have h1 : NlL [tIP, adrS p.src, tGT, adrS p.dst] := NlL.cons (lit_nl (by decide)) (NlL.cons (adrS_nl _) (NlL.cons (lit_nl (by decide)) (NlL.cons (adrS_nl _) NlL.nil)))
      have h2 : NlL [tPROTO, itoaS p.proto] := NlL.cons (lit_nl (by decide)) (NlL.cons (itoaS_nl _) NlL.nil)
      have h4 : NlL [tLEN, itoaS p.bl] := NlL.cons (lit_nl (by decide)) (NlL.cons (itoaS_nl _) NlL.nil)
      exact (h1.app h2).app h4
    | some M => exact bodyW_nl hb
theorem tail_nl : ∀ (r : List (List UInt8)), (∀ l ∈ r, ∀ x ∈ l, x ≠ (10 : UInt8)) → ∀ x ∈ Lib.joinTail tSP.data.toList r, x ≠ 10
  | [], _, x, hx => by simp [Lib.joinTail] at hx
  | l :: r, h, x, hx => by
    unfold Lib.joinTail at hx
    rw [List.map_cons, List.flatten_cons] at hx
    rcases List.mem_append.1 hx with hx | hx
    · rcases List.mem_append.1 hx with hx | hx
      · exact lit_nl (s := tSP) (by decide) x hx
      · exact h l (by simp) x hx
    · exact tail_nl r (fun m hm => h m (by simp [hm])) x hx
theorem joinS_nl {L : List ByteArray} (h : NlL L) : noNL (joinS L tSP) := fun x hx => by
  unfold joinS joinL at hx
  simp only at hx
  cases L with
  | nil => simp [Lib.join_nil] at hx
  | cons s r =>
    rw [List.map_cons, Lib.join_cons] at hx
    rcases List.mem_append.1 hx with hx | hx
    · exact h s (by simp) x hx
    · refine tail_nl _ (fun l hl => ?_) x hx
      obtain ⟨t, ht, rfl⟩ := List.mem_map.1 hl
      exact h t (by simp [ht])
theorem lineS_nl (xs : Nat → Int) (l : Nat) : noNL (lineS xs l) := by
  unfold lineS
  split
  · refine joinS_nl ?_
    exact ((headW_nl _).app (NlL.cons (lit_nl (by decide)) (NlL.cons (itoaS_nl _) NlL.nil))).app (NlL.one (lit_nl (by decide)))
  · exact (lit_nl (by decide)).app (itoaS_nl _)
theorem lineS_size {xs : Nat → Int} {l : Nat} (hx : ∀ i, i < l → 0 ≤ xs i ∧ xs i ≤ 255) (hl : l ≤ 100000000) : (lineS xs l).size ≤ 100000000 := by
  unfold lineS
  split
  · rename_i h0
    exact joinS_size (lineW_sm (parse_bd h0 hx hl))
  · have := itoaS_size (n := parseErr xs l) (by have := parseErr_bd (xs := xs) (l := l); omega)
    rw [ByteArray.size_append]
    have h1 : (⟨#[110, 111, 110, 101, 32]⟩ : ByteArray).size = 5 := rfl
    omega
/-- A frame that goes, as a line. -/
def sentS (f : Ot) : ByteArray := itoaS f.k ++ ⟨#[32]⟩ ++ lineS f.xs f.l
theorem sentS_nl (f : Ot) : noNL (sentS f) := ((itoaS_nl _).app (lit_nl (by decide))).app (lineS_nl _ _)
theorem built_cells_j {w : World} {news : List Value} {e : TypeId} {n : Nat} {os : Array Obj} {d : Nat} (hn : n = w.heap.size) (h0 : news ≠ []) : ∀ ad : Addr, some (⟨n, 0, none⟩ : Addr) = some ad → ∀ j u, news[j]? = some u → ((w.alloc (.cells news.toArray e)).junk os d).cell? (ad.add j) = some u := by
  intro ad had j u hu
  have h := built_cells (e := e) hn ad had j u hu
  subst hn
  cases had
  rw [Addr.add_lit] at h ⊢
  rw [World.cell?_junk _ _ _ _ _ (by simp)]
  exact h
end Go.Proofs.YtfkhnhenemgcmaaDoor
