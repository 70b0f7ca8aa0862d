/- 'append(s, make([]T, k)...)', s the call's own, T of one cell. -/
import Derived.Test.YtnefphinmjeacaaOwn
import Derived.Lib.AppendZerosOnto
set_option linter.unusedVariables false
set_option maxRecDepth 100000
set_option linter.unusedSimpArgs false
namespace Go
open RowKit
theorem zeroCells_one (z : Value) (k : Nat) : Builtin.zeroCells #[z] k = (List.replicate k z).toArray := by
  unfold Builtin.zeroCells
  apply Array.ext
  · simp
  · intro i h1 h2
    have : i % 1 = 0 := Nat.mod_one i
    simp [this]
theorem run_append_zeros_room {P : Program} (w : World) (t tn ty e : TypeId) (i : TypeInfo) (z : Value) (kq kn : IntKind) (ht : P.underlying t = some (.slice e)) (htn : P.underlying tn = some (.int kn)) (hi : P.info? e = some i) (hz : i.zero = some z)
    (hsz : i.size = 1) (hby : i.bytes = 1) (hzc : z.cells = #[z]) (hz1 : z.oneCell' = true) (g n cap k : Nat) (cur : Array Value) (hg : w.heap[g]? = some (.cells cur e (0, 0))) (hroom : n + k ≤ cap) (hcur : cur.size = cap) (hk : k ≤ 1000000000) :
    (Builtin.append_ #[t, tn] ty #[.slice (some ⟨g, 0, none⟩) n cap, .int kq k]).run P w = .ok (.slice (some ⟨g, 0, none⟩) (n + k) cap) (w.setRow g (cur.toList.take n ++ List.replicate k z ++ cur.toList.drop (n + k)).toArray) := by
  have hw : IntKind.i64.wrap (k : Int) = k := by rw [IntKind.wrap_i64]; omega
  have hneg : ¬ ((k : Int) < 0) := by omega
  have h48i : ¬ (281474976710656 < (k : Int) * (i.bytes : Int)) := by rw [hby]; omega
  have hst := run_storeCells_at P g n e (List.replicate k z) 0 cur w hg (by simp; omega) (by intro u hu; rw [List.eq_of_mem_replicate hu]; exact hz1)
  simp only [Nat.add_zero, List.length_replicate] at hst
  by_cases h0 : k = 0
  · subst h0
    have hst0 := run_storeCells_at P g n e [] 0 cur w hg (by simp; omega) (by simp)
    simp only [Nat.add_zero, List.length_nil] at hst0
    have hw0 : IntKind.i64.wrap 0 = 0 := by decide
    have hroom' : n ≤ cap := hroom
    simp [Builtin.append_, run_underlying ht, run_underlying htn, sizeOf, typeInfo, hi, asInt, asIntOf, hroom', hsz, hby, Addr.add_lit, hw0]
    simp only [List.append_nil, List.nil_append] at hst0
    rw [hst0]
    simp
  · simp [Builtin.append_, run_underlying ht, run_underlying htn, sizeOf, typeInfo, zeroValue, hi, hz, asInt, asIntOf, hw, hneg, h48i, hroom, hsz, h0, Addr.add_lit, hzc, zeroCells_one, hby]
    have h48j : ¬ (281474976710656 < (k : Int)) := by omega
    rw [hst]
    simp [h48j, List.append_assoc]
theorem run_append_zeros {P : Program} (w : World) (base : Nat) (t tn ty e : TypeId) (i : TypeInfo) (z : Value) (kq kn : IntKind) (ht : P.underlying t = some (.slice e)) (htn : P.underlying tn = some (.int kn)) (hi : P.info? e = some i) (hz : i.zero = some z)
    (hsz : i.size = 1) (hby : i.bytes = 1) (hzc : z.cells = #[z]) (hz1 : z.oneCell' = true) (g n cap k : Nat) (xs : List Value) (hown : w.ownsRow base e 1 (.slice (some ⟨g, 0, none⟩) n cap) n xs) (hk : k ≤ 1000000000) (hn : n ≤ 1000000000) (hbase : base ≤ w.heap.size) :
    ∃ g' cap' w', (Builtin.append_ #[t, tn] ty #[.slice (some ⟨g, 0, none⟩) n cap, .int kq k]).run P w = .ok (.slice (some ⟨g', 0, none⟩) (n + k) cap') w' ∧ w'.ownsRow base e 1 (.slice (some ⟨g', 0, none⟩) (n + k) cap') (n + k) (xs ++ List.replicate k z) ∧ w.grownBy w' (some g) := by
  have hl := hown.1
  rcases hown.2 with ⟨h, _⟩ | ⟨g1, cap1, cur, h, hbg, hg, hnc, hcm, hcs, htake⟩
  · cases h
  cases h
  simp only [Nat.mul_one] at hl hcs htake
  by_cases hroom : n + k ≤ cap
  · have hr := run_append_zeros_room (P := P) w t tn ty e i z kq kn ht htn hi hz hsz hby hzc hz1 g n cap k cur hg hroom hcs hk
    refine ⟨g, cap, _, hr, ⟨by simp [hl], .inr ⟨g, cap, _, rfl, hbg, setRow_heap w g cur _ e _ hg, hroom, hcm, ?_, ?_⟩⟩, ⟨rfl, rfl, rfl, by simp, fun k _ hk => setRow_other w g k _ (fun e => hk (by simp [e]))⟩⟩
    · simp; omega
    · rw [htake, Nat.mul_one, show n + k = (xs ++ List.replicate k z).length by simp [hl]]
      exact List.take_left
  · have hold : (Builtin.firstCells i.size n (.slice (some ⟨g, 0, none⟩) n cap)).run P w.drew = .ok xs.toArray w.drew := by
      have := run_firstCells_some (P := P) w.drew i.size n ⟨g, 0, none⟩ n cap xs (by rw [hsz, Nat.mul_one]; exact hl) (fun j u hu => World.ownsRow.cells (g := g) (w := w.drew) (base := base) (e := e) (size := 1) (v := .slice (some ⟨g, 0, none⟩) n cap) (n := n) (xs := xs) hown rfl j u hu)
      exact this
    have hfit : Builtin.nextslicecap (n + k) cap * i.bytes ≤ 281474976710656 := growslice_fits (by omega) (by rw [hby]; omega)
    have hr := Lib.run_append_grow_zeros (P := P) w t tn ty e i z kq kn ht htn hi hz (some ⟨g, 0, none⟩) n cap xs hold k (by omega) (by omega) (by omega) (by omega) (by rw [hby]; omega) hfit
    refine ⟨_, _, _, hr, ⟨by simp [hl], .inr ⟨w.heap.size, _, _, rfl, hbase, heap_alloc_new w.drew _, grownCap_ge _ _ _ _, grownCap_le_maxLen w (n + k) cap e (by simp only [maxLen]; omega), ?_, ?_⟩⟩, ⟨rfl, rfl, rfl, by simp, fun q hq _ => (World.grownBy_alloc w.drew _ none).block q hq (by simp)⟩⟩
    · have := grownCap_ge w (n + k) cap e
      rw [hzc, zeroCells_one, zeroCells_one]
      simp [hl]
      omega
    · rw [hzc, zeroCells_one, zeroCells_one, Nat.mul_one]
      simp only [Array.toList_append]
      rw [show n + k = (xs ++ List.replicate k z).length by simp [hl]]
      exact List.take_left
/-- The same, in a walk. -/
theorem ap_zeros {P : Program} {W0 w : World} {ops : Array Oper} {rest : List Oper} {o : Oper} {a : Act} {Q : Exit → Act → World → Prop} (hgd : o.guard = none) (s x : Operand) (t tn : TypeId)
    (ho : o.op = .call { callee := .builtin .append, args := #[s, x], argTypes := #[t, tn] })
    (e : TypeId) (z : Value) (hinfo : (P.info? e).map (fun i => (i.zero, i.size, i.bytes)) = some (some z, 1, 1)) (hzc : z.cells = #[z]) (hz1 : z.oneCell' = true) (ht : P.underlying t = some (.slice e)) (kn kq : IntKind) (htn : P.underlying tn = some (.int kn))
    (hj : Junk W0 w) (g n cap k : Nat) (xs : List Value) (hs : a.eval s = .slice (some ⟨g, 0, none⟩) n cap) (hown : Own W0.heap.size w e 1 (some ⟨g, 0, none⟩) cap n xs)
    (hx : a.eval x = .int kq k) (hk : k ≤ 1000000000) (hn : n ≤ 1000000000)
    (h : ∀ g' cap' os d, Own W0.heap.size (W0.junk os d) e 1 (some ⟨g', 0, none⟩) cap' (n + k) (xs ++ List.replicate k z) → wpList P ops Q rest (a.put o.dst (.slice (some ⟨g', 0, none⟩) (n + k) cap')) (W0.junk os d)) : wpList P ops Q (o :: rest) a w := by
  obtain ⟨i, hi, hz0, hz1', hz2⟩ := info_parts hinfo
  obtain ⟨g', cap', w', hr, ho', hg⟩ := run_append_zeros (P := P) w W0.heap.size t tn o.type e i z kq kn ht htn hi hz0 hz1' hz2 hzc hz1 g n cap k xs hown hk hn hj.size
  refine Lib.wpList_append_run w hgd s x t tn ho _ _ hs hx _ _ hr ?_
  obtain ⟨os, d, rfl⟩ := below_of_grown hj hg (fun k hk => by cases hk; rcases hown.form with ⟨h1, _⟩ | ⟨g1, cur, h1, h2, _⟩ <;> cases h1; exact h2)
  exact h g' cap' os d ho'
end Go
