/- Cut, as the law CutWhole uses it; what its loops keep. -/
import Derived.Test.YtgjppmkadmfibaaRvA
import Derived.Test.YtgjppmkadmfibaaCutB2
set_option linter.unusedVariables false
set_option maxRecDepth 100000
set_option linter.unusedSimpArgs false
namespace Go.Proofs.Ytgjppmkadmfibaa
open Go.RowKit
theorem cut_ok (p : Ip) (mtu : Int) (oo ob : Option Addr) (oc bc : Nat) (w : World) (h1 : p.ol ≤ 100000000) (h2 : p.bl ≤ 100000) (hP : IpAt w p oo oc ob bc) (hE : cutErr p mtu = 0) :
    Calls Try.prog 18 #[.agg #[.int .i64 p.tos, .int .i64 p.id, .bool p.df, .bool p.mf, .int .i64 p.off, .int .i64 p.ttl, .int .i64 p.proto, .int .u32 p.src, .int .u32 p.dst, .slice oo p.ol oc, .slice ob p.bl bc], .int .i64 mtu] w fun e w' => Junk w w' ∧ ∃ (L : List Fr) (oa : Option Addr) (cap n : Nat), e = .returned (.tuple #[.slice oa n cap, .int .i64 0]) ∧ L.map Fr.p = cutL p mtu ∧ n = L.length ∧ Own w.heap.size w' 25 11 oa cap n (cellsL L) ∧ (∀ f ∈ L, f.At w') ∧ ∀ f ∈ L, Fresh w.heap.size f.oo ∧ Fresh w.heap.size f.ob :=
  (cut2_any p mtu oo ob oc bc w h1 h2 hP).mono fun e w' h => by
    obtain ⟨L, oa, cap, he, hj, hL, ho, ha, hf⟩ := h
    exact ⟨hj, L, oa, cap, L.length, by rw [he, hE], hL, rfl, ho, ha, hf⟩
theorem cut_no (p : Ip) (mtu : Int) (oo ob : Option Addr) (oc bc : Nat) (w : World) (h1 : p.ol ≤ 100000000) (h2 : p.bl ≤ 100000) (hP : IpAt w p oo oc ob bc) (hE : cutErr p mtu ≠ 0) :
    Calls Try.prog 18 #[.agg #[.int .i64 p.tos, .int .i64 p.id, .bool p.df, .bool p.mf, .int .i64 p.off, .int .i64 p.ttl, .int .i64 p.proto, .int .u32 p.src, .int .u32 p.dst, .slice oo p.ol oc, .slice ob p.bl bc], .int .i64 mtu] w fun e w' => Junk w w' ∧ ∃ (oa : Option Addr) (cap n : Nat) (er : Int), e = .returned (.tuple #[.slice oa n cap, .int .i64 er]) ∧ (er != 0) = true :=
  (cut2_any p mtu oo ob oc bc w h1 h2 hP).mono fun e w' h => by
    obtain ⟨L, oa, cap, he, hj, hL, ho, ha, hf⟩ := h
    exact ⟨hj, oa, cap, L.length, cutErr p mtu, he, by simpa using hE⟩
theorem cutL_mem {p Y : Ip} {mtu : Int} (hE : cutErr p mtu = 0) (h : Y ∈ cutL p mtu) : Y.ol = p.ol ∧ Y.bl ≤ p.bl := by
  obtain ⟨i, hi⟩ := List.getElem?_of_mem h
  obtain ⟨a, b, hp⟩ := piece_of hE hi
  rw [hp.eq]
  refine ⟨rfl, ?_⟩
  have h1 := hp.tl
  show b - a ≤ p.bl
  omega
theorem cutL_len126 {Y : Ip} {mtu : Int} (h : Y.bl ≤ 1000) : (cutL Y mtu).length ≤ 126 := by
  have := cutL_few (p := Y) (mtu := mtu)
  omega
theorem keepFs {w w' : World} {oa oa' : Option Addr} {L : List Fr} (hL : ∀ f ∈ L, f.At w ∧ f.Off (rowOf oa)) (hg : w.grownBy w' (rowOf oa)) (hrow : rowOf oa' = rowOf oa ∨ rowOf oa' = some w.heap.size) : ∀ f ∈ L, f.At w' ∧ f.Off (rowOf oa') := by
  intro f hf
  obtain ⟨h1, h2⟩ := hL f hf
  refine ⟨h1.grown hg h2, ?_⟩
  rcases hrow with h | h
  · rw [h]; exact h2
  · rw [h]; exact h1.off (Nat.le_refl _)
def LpV (w : World) (X : Ip) (n : Nat) (R : List Pc) (r3 r : Nat) (room life : Int) (cX : List Value) (oq : Option Addr) (cq m : Nat) (L : List Fr) (wx : World) : Prop :=
  StW w r room life X n R wx ∧ Box wx r3 25 cX ∧ Own 0 wx 25 11 oq cq m (cellsL L) ∧ L.map Fr.p = R.map (pcI X) ∧ (∀ f ∈ L, f.At w) ∧ R.length = m
end Go.Proofs.Ytgjppmkadmfibaa
