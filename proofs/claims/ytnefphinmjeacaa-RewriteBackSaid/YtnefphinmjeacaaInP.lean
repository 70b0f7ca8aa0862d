/- What a turn makes of a message's bytes; cells that stay. -/
import Derived.Test.YtnefphinmjeacaaInC
import Derived.Test.YtnefphinmjeacaaMix
set_option linter.unusedVariables false
set_option maxRecDepth 100000
set_option linter.unusedSimpArgs false
namespace Go.Proofs.Ytnefphinmjeacaa
open Go.RowKit
/-- Cells of the call's own that hold these values. -/
def CsH (L : List (Nat × Nat × Value)) (V : World) : Prop := ∀ q ∈ L, q.1 < V.heap.size ∧ V.cell? ⟨q.1, q.2.1, none⟩ = some q.2.2 ∧ V.frozen? ⟨q.1, q.2.1, none⟩ = false
theorem CsH.cons {b i : Nat} {u : Value} {L : List (Nat × Nat × Value)} {V : World} : CsH ((b, i, u) :: L) V ↔ (b < V.heap.size ∧ V.cell? ⟨b, i, none⟩ = some u ∧ V.frozen? ⟨b, i, none⟩ = false) ∧ CsH L V := by
  unfold CsH
  rw [List.forall_mem_cons]
theorem CsH.nil (V : World) : CsH [] V := fun q hq => by cases hq
theorem CsH.app {L M : List (Nat × Nat × Value)} {V : World} (h1 : CsH L V) (h2 : CsH M V) : CsH (L ++ M) V := fun q hq => by
  rcases List.mem_append.1 hq with h | h
  · exact h1 q h
  · exact h2 q h
theorem CsH.on {L : List (Nat × Nat × Value)} {V V' : World} (h : CsH L V) (hj : Junk V V') : CsH L V' := fun q hq => by
  obtain ⟨os, d, rfl⟩ := hj
  obtain ⟨h1, h2, h3⟩ := h q hq
  exact ⟨by simp; omega, by rw [World.cell?_junk _ _ _ _ _ h1]; exact h2, by rw [World.frozen?_junk _ _ _ _ _ h1]; exact h3⟩
theorem CsH.sub {L M : List (Nat × Nat × Value)} {V : World} (h : CsH L V) (hs : ∀ q ∈ M, q ∈ L) : CsH M V := fun q hq => h q (hs q hq)
theorem CsH.keeps {g : Nat} {L : List (Nat × Nat × Value)} (h : ∀ q ∈ L, q.1 ≠ g) : Keeps g (CsH L) :=
  ⟨fun V V' hF hj => hF.on hj, fun V i v hF q hq => by
    obtain ⟨h1, h2, h3⟩ := hF q hq
    exact ⟨by simpa [World.setCell] using h1, by rw [World.cell?_setCell_other _ _ _ _ (by intro he; have he2 := congrArg Addr.block he; exact (h q hq) (by first | exact he2 | exact he2.symm))]; exact h2, by rw [World.frozen?_setCell]; exact h3⟩⟩
theorem keeps_true (g : Nat) : Keeps g (fun _ => True) := ⟨fun _ _ _ _ => trivial, fun _ _ _ _ => trivial⟩
/-- A world in which these cells hold these values. -/
structure WF (L : List (Nat × Nat × Value)) where
  V : World
  h : CsH L V
theorem wp_region_mixf {P : Program} {id : Nat} {Q : Exit → Act → World → Prop} {a : Act} {w1 : World} {l : List Oper} (L : List (Nat × Nat × Value)) (π : List (Nat × Bool)) (hm : P.follows .mixedOrders = true)
    (hB : (Region.noSelect l.toArray && decide (π.length = l.length) && Region.mixB .any l.toArray π (Array.replicate l.length false)) = true) (h0 : CsH L w1)
    (h : wpMix P l.toArray (fun w' => ∃ x : WF L, w' = x.V) (fun a' w' => Q .normal a' w') π a w1.drew) : (Code.region id l.toArray true).wp P Q a w1 :=
  wp_region_mix _ π hm hB (fun w1 w2 h1 h2 => by
    obtain ⟨x, rfl⟩ := h1
    exact ⟨⟨w2, x.h.on h2⟩, rfl⟩) ⟨⟨_, h0.on (Junk.refl _).drew⟩, rfl⟩ h
/-- A row of words as cells. -/
def cw (b n : Nat) (zs : Nat → Int) : List (Nat × Nat × Value) := (List.range n).map fun i => (b, i, .int .u16 (zs i))
theorem CsH.ints {b n : Nat} {zs : Nat → Int} {V : World} (h : CsH (cw b n zs) V) : IntsAt V (some ⟨b, 0, none⟩) n .u16 zs := fun i hi => by
  obtain ⟨h1, h2, _⟩ := h (b, i, .int .u16 (zs i)) (List.mem_map.2 ⟨i, List.mem_range.2 hi, rfl⟩)
  exact ⟨b, 0, rfl, h1, by rw [Nat.zero_add]; exact h2⟩
theorem in_get_v {F : World → Prop} {W0 V : World} {g l cap : Nat} {xs : Nat → Int} (h : St F W0 V g l cap xs) (i : Nat) (v : Int) (hv : wd xs i = v) (l' c' : Nat) (hi : i + 2 ≤ l) (hl : 2 ≤ l') :
    Calls Try.prog 31 #[.slice (some ⟨g, i, none⟩) l' c'] V fun e w' => e = .returned (.int .i64 v) ∧ Junk V w' := hv ▸ in_get_st h i l' c' hi hl
/-! ### The bytes behind a turn. A: where the address stands; P: where the port stands, in a body that is no message of ICMP. -/
def tnAt (p : Ip) (P : Nat) : Nat := if p.proto = 1 then 4 else P
def tnNm (xs : Nat → Int) (A : Nat) (addr : Int) : Nat → Int := fun i => if i = 0 then wd xs A else if i = 1 then addr / 65536 else if i = 2 then wd xs (A + 2) else addr % 65536
def tnAll (xs : Nat → Int) (l A P : Nat) (addr port : Int) : Nat → Int := fun i => if i = 0 then wd xs (ipSize xs + tnAt (aboutIp xs l) P) else if i = 1 then port else tnNm xs A addr (i - 2)
def tn1 (xs : Nat → Int) (A : Nat) (addr : Int) : Nat → Int := w2 xs 10 (mendW (wd xs 10) (tnNm xs A addr) 2)
def tn2 (xs : Nat → Int) (l A P : Nat) (addr port : Int) : Nat → Int :=
  if (aboutIp xs l).proto = 1 then w2 (tn1 xs A addr) (ipSize xs + 2) (fullI (mendW (wd (tn1 xs A addr) (ipSize xs + 2)) (tnAll xs l A P addr port) 1))
  else if (aboutIp xs l).proto = 17 then (if wd (tn1 xs A addr) (ipSize xs + 6) = 0 then tn1 xs A addr else w2 (tn1 xs A addr) (ipSize xs + 6) (fullI (mendW (wd (tn1 xs A addr) (ipSize xs + 6)) (tnAll xs l A P addr port) 3)))
  else if 18 ≤ (aboutIp xs l).bl then w2 (tn1 xs A addr) (ipSize xs + 16) (fullI (mendW (wd (tn1 xs A addr) (ipSize xs + 16)) (tnAll xs l A P addr port) 3)) else tn1 xs A addr
def tnB (xs : Nat → Int) (l A P : Nat) (addr port : Int) : Nat → Int := w2 (w2 (w2 (tn2 xs l A P addr port) (ipSize xs + tnAt (aboutIp xs l) P) port) A (addr / 65536)) (A + 2) (addr % 65536)
def tnErr (kind : Int) (xs : Nat → Int) (l : Nat) (port : Int) : Int := if nmErr kind xs l ≠ 0 then nmErr kind xs l else if port < 0 ∨ 65535 < port then 1 else 0
def TnM (w : World) (kind code rest : Int) (E : Int) (l : Nat) (ys : Nat → Int) (e : Ending) (w' : World) : Prop := Junk w w' ∧
  ((E ≠ 0 ∧ e = .returned (.tuple #[.agg #[.int .i64 0, .int .i64 0, .int .u32 0, .slice none 0 0], .int .i64 E])) ∨
   (E = 0 ∧ ∃ (ob : Option Addr) (cb : Nat), Bts w' ob l cb ys ∧ e = .returned (.tuple #[.agg #[.int .i64 kind, .int .i64 code, .int .u32 rest, .slice ob l cb], .int .i64 0])))
theorem tn_bad {w w' : World} {kind code rest E n : Int} {l : Nat} {ys : Nat → Int} (h : E = n) (h0 : n ≠ 0) (hj : Junk w w') : TnM w kind code rest E l ys (.returned (.tuple #[.agg #[.int .i64 0, .int .i64 0, .int .u32 0, .slice none 0 0], .int .i64 n])) w' := ⟨hj, .inl ⟨by rw [h]; exact h0, by rw [h]⟩⟩
/-- What is known where a packet has names. -/
theorem nmErr_zero {kind : Int} {xs : Nat → Int} {l : Nat} (h : nmErr kind xs l = 0) : errorB kind = true ∧ WholeOk xs l ∧ (aboutIp xs l).off = 0 ∧ 8 ≤ (aboutIp xs l).bl ∧ ((aboutIp xs l).proto = 6 ∨ (aboutIp xs l).proto = 17 ∨ ((aboutIp xs l).proto = 1 ∧ (asksB ((aboutIp xs l).body 0) || answersB ((aboutIp xs l).body 0)) = true)) := by
  unfold nmErr at h
  split at h
  · rename_i h1; exact absurd h h1
  · rename_i h1
    have h1' : aboutErr kind xs l = 0 := Decidable.of_not_not h1
    split at h
    · cases h
    · rename_i h2
      split at h
      · cases h
      · rename_i h3
        have hk : errorB kind = true := by
          unfold aboutErr at h1'
          split at h1'
          · cases h1'
          · rename_i h5; simpa using h5
        have hw : wholeErr xs l = 0 := by
          unfold aboutErr at h1'
          rw [hk, if_neg (by decide)] at h1'
          exact h1'
        refine ⟨hk, wholeErr_zero hw, Decidable.of_not_not h2, by omega, ?_⟩
        split at h
        · rename_i h6; rcases h6 with h6 | h6
          · exact .inl h6
          · exact .inr (.inl h6)
        · split at h
          · rename_i h7; exact .inr (.inr h7)
          · cases h
theorem tnAll_list {xs : Nat → Int} {l A P : Nat} {addr port WP : Int} (h : wd xs (ipSize xs + tnAt (aboutIp xs l) P) = WP) :
    [Value.int .u16 WP, .int .u16 port] ++ ((List.range 4).map fun i => Value.int .u16 (tnNm xs A addr i)) = (List.range 6).map fun i => Value.int .u16 (tnAll xs l A P addr port i) := by
  subst h
  rfl
theorem tnNm_bd {xs : Nat → Int} {A : Nat} {addr : Int} (h : ∀ i, i < A + 4 → 0 ≤ xs i ∧ xs i ≤ 255) (ha : 0 ≤ addr ∧ addr ≤ 4294967295) : ∀ i, 0 ≤ tnNm xs A addr i ∧ tnNm xs A addr i ≤ 65535 := by
  intro i
  unfold tnNm
  split
  · exact wd_bd (h _ (by omega)) (h _ (by omega))
  · split
    · omega
    · split
      · exact wd_bd (h _ (by omega)) (h _ (by omega))
      · omega
theorem tnAll_bd {xs : Nat → Int} {l A P : Nat} {addr port : Int} (h : ∀ i, i < A + 4 → 0 ≤ xs i ∧ xs i ≤ 255) (ha : 0 ≤ addr ∧ addr ≤ 4294967295) (hp : 0 ≤ port ∧ port ≤ 65535)
    (hw : 0 ≤ wd xs (ipSize xs + tnAt (aboutIp xs l) P) ∧ wd xs (ipSize xs + tnAt (aboutIp xs l) P) ≤ 65535) : ∀ i, 0 ≤ tnAll xs l A P addr port i ∧ tnAll xs l A P addr port i ≤ 65535 := by
  intro i
  unfold tnAll
  split
  · exact hw
  · split
    · exact hp
    · exact tnNm_bd h ha _
theorem bts_far {V : World} {g l cap : Nat} {xs : Nat → Int} (h : Bts V (some ⟨g, 0, none⟩) l cap xs) {b i : Nat} (v : Value) (hne : b ≠ g) : Bts (V.setCell ⟨b, i, none⟩ v) (some ⟨g, 0, none⟩) l cap xs :=
  ⟨fun k hk => by
    obtain ⟨b', off, he, hlt, hc⟩ := h.at_ k hk
    cases he
    refine ⟨g, 0, rfl, by simpa [World.setCell] using hlt, ?_⟩
    rw [World.cell?_setCell_other _ _ _ _ (by intro hx; have hx2 := congrArg Addr.block hx; exact hne (by first | exact hx2 | exact hx2.symm))]
    exact hc, h.byte, h.nil, h.le, h.cap⟩
theorem cell_far {V : World} {a b i j : Nat} {u : Value} (v : Value) (h : V.cell? ⟨b, j, none⟩ = some u) (hne : a ≠ b ∨ i ≠ j) : (V.setCell ⟨a, i, none⟩ v).cell? ⟨b, j, none⟩ = some u := by
  rw [World.cell?_setCell_other _ _ _ _ (by intro hx; simp only [Addr.mk.injEq] at hx; omega)]
  exact h
theorem set4_cells {V : World} {b : Nat} {o0 o1 o2 o3 v0 v1 v2 v3 : Value} (h0 : V.cell? ⟨b, 0, none⟩ = some o0) (h1 : V.cell? ⟨b, 1, none⟩ = some o1) (h2 : V.cell? ⟨b, 2, none⟩ = some o2) (h3 : V.cell? ⟨b, 3, none⟩ = some o3) :
    ((((V.setCell ⟨b, 0, none⟩ v0).setCell ⟨b, 1, none⟩ v1).setCell ⟨b, 2, none⟩ v2).setCell ⟨b, 3, none⟩ v3).cell? ⟨b, 0, none⟩ = some v0 ∧
    ((((V.setCell ⟨b, 0, none⟩ v0).setCell ⟨b, 1, none⟩ v1).setCell ⟨b, 2, none⟩ v2).setCell ⟨b, 3, none⟩ v3).cell? ⟨b, 1, none⟩ = some v1 ∧
    ((((V.setCell ⟨b, 0, none⟩ v0).setCell ⟨b, 1, none⟩ v1).setCell ⟨b, 2, none⟩ v2).setCell ⟨b, 3, none⟩ v3).cell? ⟨b, 2, none⟩ = some v2 ∧
    ((((V.setCell ⟨b, 0, none⟩ v0).setCell ⟨b, 1, none⟩ v1).setCell ⟨b, 2, none⟩ v2).setCell ⟨b, 3, none⟩ v3).cell? ⟨b, 3, none⟩ = some v3 := by
  refine ⟨?_, ?_, ?_, ?_⟩
  · exact cell_far _ (cell_far _ (cell_far _ (World.cell?_setCell_same _ _ _ h0) (by omega)) (by omega)) (by omega)
  · exact cell_far _ (cell_far _ (World.cell?_setCell_same _ _ _ (cell_far _ h1 (by omega))) (by omega)) (by omega)
  · exact cell_far _ (World.cell?_setCell_same _ _ _ (cell_far _ (cell_far _ h2 (by omega)) (by omega))) (by omega)
  · exact World.cell?_setCell_same _ _ _ (cell_far _ (cell_far _ (cell_far _ h3 (by omega)) (by omega)) (by omega))
end Go.Proofs.Ytnefphinmjeacaa
