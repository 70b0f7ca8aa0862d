/- The contract of cut.Most; the fixed answers of layer 8. -/
import Derived.Test.YtgjppmkadmfibaaCutB
import Derived.Test.YtgjppmkadmfibaaIpRef
set_option linter.unusedVariables false
set_option maxRecDepth 100000
set_option linter.unusedSimpArgs false
namespace Go.Proofs.Ytgjppmkadmfibaa
open Go.RowKit
theorem CutM.len {w w' : World} {p : Ip} {mtu : Int} {e : Ending} (h : CutM w p mtu e w') {n : Nat} (hn : n = (cutL p mtu).length) : ∃ (L : List Fr) (oa : Option Addr) (cap : Nat), e = .returned (.tuple #[.slice oa n cap, .int .i64 (cutErr p mtu)]) ∧ Junk w w' ∧ L.map Fr.p = cutL p mtu ∧ L.length = n ∧ Own w.heap.size w' 25 11 oa cap n (cellsL L) ∧ (∀ f ∈ L, f.At w') := by
  obtain ⟨L, oa, cap, he, hj, hL, ho, ha⟩ := h
  have : L.length = n := by rw [hn, ← hL, List.length_map]
  subst this
  exact ⟨L, oa, cap, he, hj, hL, rfl, ho, ha⟩
/-- The heads of the pieces. -/
theorem cut_heads {p : Ip} {mtu : Int} (hm : mayB p = true) : ∀ q ∈ cutL p mtu, HeadP q := by
  have M := may_iff.1 hm
  have hf := M.fit
  have ho := M.off
  have hl := M.ol
  intro q hq
  unfold cutL at hq
  split at hq
  · cases hq
  · split at hq
    · simp only [List.mem_cons, List.not_mem_nil, or_false] at hq
      subst hq
      exact ⟨M.tos, M.ttl, M.proto, M.id, by simp only [pieceIp]; omega, M.ol, by simp only [pieceIp]; omega⟩
    · unfold piecesL at hq
      rw [List.mem_map] at hq
      obtain ⟨i, hi, rfl⟩ := hq
      rw [List.mem_range] at hi
      generalize cutZ p mtu = Z at *
      have h3 : i * Z ≤ p.bl := by
        rcases Nat.eq_zero_or_pos Z with h0 | h0
        · subst h0; simp at hi
        · have h4 : (i + 1) * Z ≤ p.bl + Z - 1 := Nat.le_trans (Nat.mul_le_mul_right Z hi) (Nat.div_mul_le_self _ _)
          rw [Nat.succ_mul] at h4
          omega
      generalize i * Z = J at *
      exact ⟨M.tos, M.ttl, M.proto, M.id, by simp only [pieceIp]; omega, M.ol, by simp only [pieceIp]; omega⟩
theorem frame_at {L : List Fr} {l : List Ip} (h : L.map Fr.p = l) (i : Nat) {q : Ip} (hq : l[i]? = some q) : ∃ f, L[i]? = some f ∧ f.p = q := by
  subst h
  rw [List.getElem?_map] at hq
  cases hf : L[i]? with
  | none => rw [hf] at hq; cases hq
  | some f => rw [hf] at hq; exact ⟨f, rfl, by simpa using hq⟩
def p28 : Ip := ⟨0, 0, false, false, 0, 0, 0, 0, 0, 0, fun _ => 0, 28, fun _ => 0⟩
theorem p28_err : cutErr p28 28 = 0 := by decide +kernel
theorem p28_list : cutL p28 28 = [pieceIp p28 0 8, pieceIp p28 8 16, pieceIp p28 16 24, pieceIp p28 24 28] := by
  unfold cutL
  rw [if_neg (by rw [p28_err]; simp), if_neg (by decide +kernel)]
  rfl
set_option maxHeartbeats 1000000 in
theorem awake08_any (w : World) : Calls Try.prog 16 #[] w fun e w' => e = .returned (.bool true) ∧ Junk w w' := by
  have h5 : Bts (w.alloc (.cells (rowArr 28 (fun _ => 0)) 5)) (some ⟨w.heap.size, 0, none⟩) 28 28 (fun _ => 0) :=
    own_bts (own_lit w 5 _ 28 (rowArr 28 (fun _ => 0)) rfl (Nat.le_refl _) rfl (by decide)) (fun i hi => by omega)
  have H5 : Hid (IpAt (w.alloc (.cells (rowArr 28 (fun _ => 0)) 5)) p28 none 0 (some ⟨w.heap.size, 0, none⟩) 28) := Lib.hid ⟨bts_none _ _, h5, by decide, by decide⟩
  clear h5
  have e1 := p28_err
  have hmk : (Instr.makeSlice 23 (.int .i64 28) (.int .i64 28)).run Try.prog w = .ok (.slice (some ⟨w.heap.size, 0, none⟩) 28 28) (w.alloc (.cells (rowArr 28 (fun _ => 0)) 5)) := make_bytes w 28 (by decide)
  go_enter Try.func16, Try.ntmps16
  go_wp2_with (first | (go_at_call 18; refine (cut_any p28 28 none _ 0 28 _ (by decide) (by decide) (H5.out.on (by (exact jkc)))).mono ?_; intro e w' hp; obtain ⟨L, oa, cap, rfl, ⟨osj, dj, rfl⟩, hL, hn, hown, _⟩ := hp.len (n := 4) (by rw [p28_list]; rfl); clear hp; obtain ⟨g, rfl, _, hgS, hgc⟩ := own_some hown (by decide); obtain ⟨f0, hf0, q0⟩ := frame_at hL 0 (by rw [p28_list]; rfl); obtain ⟨f3, hf3, q3⟩ := frame_at hL 3 (by rw [p28_list]; rfl); have c0 := (hgc 3 (.bool true) (by rw [show (3 : Nat) = 0 * 11 + 3 from rfl, cellsL_get L 0 f0 hf0 3 (by decide)]; simp only [Fr.cells, q0]; rfl)).1; have c3 := (hgc 36 (.bool false) (by rw [show (36 : Nat) = 3 * 11 + 3 from rfl, cellsL_get L 3 f3 hf3 3 (by decide)]; simp only [Fr.cells, q3]; rfl)).1; have c4 := (hgc 37 (.int .i64 24) (by rw [show (37 : Nat) = 3 * 11 + 4 from rfl, cellsL_get L 3 f3 hf3 4 (by decide)]; simp only [Fr.cells, q3]; rfl)).1; have c5 := (hgc 43 (.slice f3.ob 4 f3.bc) (by rw [show (43 : Nat) = 3 * 11 + 10 from rfl, cellsL_get L 3 f3 hf3 10 (by decide)]; simp only [Fr.cells, q3]; rfl)).1; clear hgc hown hL))
  go_ret
  exact ⟨ret_bool rfl, by (exact jkc)⟩
end Go.Proofs.Ytgjppmkadmfibaa
