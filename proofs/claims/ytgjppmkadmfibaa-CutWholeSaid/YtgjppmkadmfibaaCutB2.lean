/- The contract of cut.Cut, with the blocks of what it hands back: they are new. -/
import Derived.Test.YtgjppmkadmfibaaCutB
set_option linter.unusedVariables false
set_option maxRecDepth 100000
set_option linter.unusedSimpArgs false
namespace Go.Proofs.Ytgjppmkadmfibaa
open Go.RowKit
def CutM2 (w : World) (p : Ip) (mtu : Int) (e : Ending) (w' : World) : Prop :=
  ∃ (L : List Fr) (oa : Option Addr) (cap : Nat), e = .returned (.tuple #[.slice oa L.length cap, .int .i64 (cutErr p mtu)]) ∧ Junk w w' ∧ L.map Fr.p = cutL p mtu ∧ Own w.heap.size w' 25 11 oa cap L.length (cellsL L) ∧ (∀ f ∈ L, f.At w') ∧ ∀ f ∈ L, Fresh w.heap.size f.oo ∧ Fresh w.heap.size f.ob
theorem cutM2_one {w w' : World} {p : Ip} {mtu : Int} {f : Fr} {n : Nat} (hE : cutErr p mtu = 0) (hw : 20 + (p.ol : Int) + p.bl ≤ mtu) (hf : f.p = pieceIp p 0 p.bl) (hj : Junk w w') (ho : Own w.heap.size w' 25 11 (some ⟨n, 0, none⟩) 1 1 (cellsL [f])) (ha : f.At w') (hF : Fresh w.heap.size f.oo ∧ Fresh w.heap.size f.ob) :
    CutM2 w p mtu (.returned (.tuple #[.slice (some ⟨n, 0, none⟩) 1 1, .int .i64 0])) w' :=
  ⟨[f], some ⟨n, 0, none⟩, 1, by rw [hE]; rfl, hj, by unfold cutL; rw [if_neg (by rw [hE]; simp), if_pos hw]; simp [hf], ho, fun g hg => by rw [List.mem_singleton.1 hg]; exact ha, fun g hg => by rw [List.mem_singleton.1 hg]; exact hF⟩
theorem mem_snoc2 {α : Type} {L : List α} {x : α} {P : α → Prop} (h : ∀ y ∈ L, P y) (hx : P x) : ∀ y ∈ L ++ [x], P y := fun y hy => by
  rcases List.mem_append.1 hy with h1 | h1
  · exact h y h1
  · rw [List.mem_singleton.1 h1]; exact hx
theorem cutM2_loop {w w' : World} {p : Ip} {mtu : Int} {L : List Fr} {k j Z : Nat} {oa : Option Addr} {cap : Nat} (hE : cutErr p mtu = 0) (hw : ¬ 20 + (p.ol : Int) + p.bl ≤ mtu) (hZ : Z = cutZ p mtu) (hj : j = k * Z) (hk : L.length = k) (hz : 8 ≤ Z) (hj1 : p.bl ≤ j) (hj2 : j < p.bl + Z)
    (hL : L.map Fr.p = piecesL p Z k) (hJ : Junk w w') (ho : Own w.heap.size w' 25 11 oa cap k (cellsL L)) (ha : ∀ f ∈ L, f.At w') (hF : ∀ f ∈ L, Fresh w.heap.size f.oo ∧ Fresh w.heap.size f.ob) : CutM2 w p mtu (.returned (.tuple #[.slice oa k cap, .int .i64 0])) w' := by
  subst hk
  refine ⟨L, oa, cap, by rw [hE], hJ, ?_, ho, ha, hF⟩
  unfold cutL
  rw [if_neg (by rw [hE]; simp), if_neg hw, hL, ← hZ]
  congr 1
  rw [Nat.div_eq_of_lt_le (k := L.length)]
  · omega
  · rw [Nat.succ_mul]; omega
set_option maxHeartbeats 4000000 in
theorem cut2_loop (tos id : Int) (mf : Bool) (off ttl proto src dst : Int) (ol : Nat) (opts : Nat → Int) (bl : Nat) (body : Nat → Int) (mtu : Int) (oo ob : Option Addr) (oc bc : Nat) (w : World) (h1 : ol ≤ 40) (h2 : bl ≤ 100000) (hP : IpAt w (Ip.mk tos id false mf off ttl proto src dst ol opts bl body) oo oc ob bc)
    (hm : mayB (Ip.mk tos id false mf off ttl proto src dst ol opts bl body) = true) (hu1 : 28 ≤ mtu) (hu2 : mtu ≤ 65535) (hw : ¬ 20 + (ol : Int) + (bl : Int) ≤ mtu) (hq : 8 ≤ mtu - 20 - (ol : Int)) :
    Calls Try.prog 18 #[.agg #[.int .i64 tos, .int .i64 id, .bool false, .bool mf, .int .i64 off, .int .i64 ttl, .int .i64 proto, .int .u32 src, .int .u32 dst, .slice oo ol oc, .slice ob bl bc], .int .i64 mtu] w (CutM2 w (Ip.mk tos id false mf off ttl proto src dst ol opts bl body) mtu) := by
  have HP := Lib.hid hP
  clear hP
  have hmf : ∀ (fn : Fn) (first cap : Array Value) (w : World), (Instr.makeFunc fn first cap).run Try.prog w = .ok (.func fn first cap) w := fun _ _ _ _ => rfl
  have HE := Lib.hid (show cutErr (Ip.mk tos id false mf off ttl proto src dst ol opts bl body) mtu = 0 by unfold cutErr; rw [if_pos ⟨hm, hu1, hu2⟩, if_neg hw, if_neg (by simp), if_neg (by show ¬ mtu - 20 - (ol : Int) < 8; omega)])
  have hof := (may_iff.1 hm).off
  have HM := Lib.hid hm
  clear hm
  obtain ⟨Z, hZ⟩ : ∃ Z, Z = cutZ (Ip.mk tos id false mf off ttl proto src dst ol opts bl body) mtu := ⟨_, rfl⟩
  have ez : (mtu - 20 - (ol : Int)) / 8 * 8 = (Z : Int) := by
    have : cutZ (Ip.mk tos id false mf off ttl proto src dst ol opts bl body) mtu = ((mtu - 20 - (ol : Int)) / 8 * 8).toNat := rfl
    rw [hZ, this]
    omega
  have z8 : 8 ≤ Z := by omega
  have z9 : Z ≤ 65535 := by omega
  have HZ := Lib.hid hZ
  clear hZ
  obtain ⟨ho0, ho1⟩ := hof
  go_enter Try.func18, Try.ntmps18
  go_wp2_with (first | (go_at_call 25; refine (ipPut_any (Ip.mk tos id false mf off ttl proto src dst ol opts bl body) oo ob oc bc _ (by show ol ≤ _; omega) (by show bl ≤ _; omega) (HP.out.on (by (exact jkc)))).mono ?_; intro e w' hp; obtain ⟨o1, c1, rfl, ⟨osj, dj, rfl⟩, _⟩ := hp.ok HM.out; clear hp))
  go_loopw [11, 12] (fun v i wr => ∃ (L : List Fr) (k j : Nat) (oa : Option Addr) (cap : Nat) (os : Array Obj) (d : Nat), v = .slice oa k cap ∧ i = .int .i64 (j : Int) ∧ wr = (((w.alloc (.cells #[.int .i64 tos, .int .i64 id, .bool false, .bool mf, .int .i64 off, .int .i64 ttl, .int .i64 proto, .int .u32 src, .int .u32 dst, .slice oo ol oc, .slice ob bl bc] 25)).junk osj dj).alloc (.cells #[.int .i64 tos, .int .i64 id, .bool false, .bool mf, .int .i64 off, .int .i64 ttl, .int .i64 proto, .int .u32 src, .int .u32 dst, .slice oo ol oc, .slice ob bl bc, .int .i64 (Z : Int)] 74)).junk os d ∧ L.length = k ∧ Hid (j = k * Z) ∧ L.map Fr.p = piecesL (Ip.mk tos id false mf off ttl proto src dst ol opts bl body) Z k ∧ Own (((w.alloc (.cells #[.int .i64 tos, .int .i64 id, .bool false, .bool mf, .int .i64 off, .int .i64 ttl, .int .i64 proto, .int .u32 src, .int .u32 dst, .slice oo ol oc, .slice ob bl bc] 25)).junk osj dj).alloc (.cells #[.int .i64 tos, .int .i64 id, .bool false, .bool mf, .int .i64 off, .int .i64 ttl, .int .i64 proto, .int .u32 src, .int .u32 dst, .slice oo ol oc, .slice ob bl bc, .int .i64 (Z : Int)] 74)).heap.size wr 25 11 oa cap k (cellsL L) ∧ (∀ f ∈ L, f.At wr ∧ f.Off (rowOf oa)) ∧ Hid (∀ f ∈ L, Fresh w.heap.size f.oo ∧ Fresh w.heap.size f.ob) ∧ j < bl + Z ∧ k ≤ j) (fun _ i _ => bl + Z - (intOf i).toNat)
  case atStart => exact ⟨[], 0, 0, none, 0, #[], _, rfl, rfl, junk_nil _, rfl, Lib.hid (by simp), rfl, Own.nil _ _ _ _, fun f hf => (by cases hf), Lib.hid (fun f hf => (by cases hf)), by omega, by omega⟩
  case round =>
    obtain ⟨L, k, j, oa, cap, os, d, rfl, rfl, rfl, hk, hj, hL, hown, hAt, hFr, hjb, hkb⟩ := hrel
    have Hown := Lib.hid hown
    have HA := Lib.hid hAt
    have HL := Lib.hid hL
    have Hk := Lib.hid hk
    clear hown hAt hL hk
    by_cases hlt : j < bl
    · obtain ⟨TO, hTO⟩ : ∃ TO, TO = min (j + Z) bl := ⟨_, rfl⟩
      have t1 : (TO : Int) = min ((j : Int) + (Z : Int)) (bl : Int) := by omega
      have t2 : j ≤ TO := by omega
      have HT := Lib.hid hTO
      have T1 := Lib.hid t1
      clear hTO t1
      go_wp2_with (first | (go_at_call 40; (try simp only [World.junk_junk, Array.append_assoc]); refine (piece_to (Ip.mk tos id false mf off ttl proto src dst ol opts bl body) (Z : Int) j TO oo ob oc bc _ (HP.out.on (by (exact jkc))) (by show ol ≤ _; omega) (by show bl ≤ _; omega) t2 (by omega) (by omega) T1.out ho0 ho1).mono ?_; rintro e w' ⟨oo2, ob2, oc2, bc2, rfl, ⟨osj2, dj2, rfl⟩, hq2, hf1, hf2⟩; (try simp only [World.junk_junk, Array.append_assoc] at hq2); have HQ := Lib.hid hq2; have HF1 := Lib.hid hf1; have HF2 := Lib.hid hf2; clear hq2 hf1 hf2) | (at_builtin; (refine ap_own2 (W0 := (((w.alloc (.cells #[.int .i64 tos, .int .i64 id, .bool false, .bool mf, .int .i64 off, .int .i64 ttl, .int .i64 proto, .int .u32 src, .int .u32 dst, .slice oo ol oc, .slice ob bl bc] 25)).junk osj dj).alloc (.cells #[.int .i64 tos, .int .i64 id, .bool false, .bool mf, .int .i64 off, .int .i64 ttl, .int .i64 proto, .int .u32 src, .int .u32 dst, .slice oo ol oc, .slice ob bl bc, .int .i64 (Z : Int)] 74))) rfl _ _ 28 rfl 25 (.agg #[.int .i64 0, .int .i64 0, .bool false, .bool false, .int .i64 0, .int .i64 0, .int .i64 0, .int .u32 0, .int .u32 0, .slice none 0 0, .slice none 0 0]) 11 104 (by kernel_rfl) rfl (by decide) Try.underlying28 (by (exact jkc)) oa cap k _ rfl (Hown.out.on (by (exact jkc))) _ 1 1 rfl (Fr.cells ⟨pieceIp (Ip.mk tos id false mf off ttl proto src dst ol opts bl body) j TO, oo2, oc2, ob2, bc2⟩) rfl (built_cells (by simp) _ rfl) (Fr.one _) (by simp only [maxLen]; omega) (by omega) (by decide) ?_; intro oa' cap' os' d' hown' hg hrow; have hkp := keepF (fun f hf => ⟨(HA.out f hf).1.on (by (exact jkc)), (HA.out f hf).2⟩) (fn := ⟨pieceIp (Ip.mk tos id false mf off ttl proto src dst ol opts bl body) j TO, oo2, oc2, ob2, bc2⟩) (HQ.out.on (by (exact jkc))) ⟨Fresh.off HF1.out (own_row Hown.out), Fresh.off HF2.out (own_row Hown.out)⟩ hg hrow; have HK := Lib.hid hkp; have Hown2 := Lib.hid hown'; clear hkp hg hrow hown')))
      exact ⟨⟨L ++ [⟨pieceIp (Ip.mk tos id false mf off ttl proto src dst ol opts bl body) j TO, oo2, oc2, ob2, bc2⟩], k + 1, j + Z, oa', cap', _, _, rfl, by go_num, rfl, by simp [Hk.out], Lib.hid (by rw [hj.out, Nat.succ_mul]), pieces_snoc HL.out hj.out HT.out, own_cast3 Hown2.out (cellsL_one _ _), HK.out, Lib.hid (mem_snoc2 hFr.out ⟨HF1.out.lower (by simp; try omega), HF2.out.lower (by simp; try omega)⟩), by omega, by omega⟩, by simp [intOf]; omega⟩
    · go_wp2
      go_returns
      exact cutM2_loop HE.out (by show ¬ 20 + (ol : Int) + (bl : Int) ≤ mtu; omega) HZ.out hj.out Hk.out z8 (by show bl ≤ j; omega) (by show j < bl + Z; omega) HL.out (by (exact jkc)) (Hown.out.lower (by simp; try omega)) (fun f hf => (HA.out f hf).1) hFr.out
set_option maxHeartbeats 4000000 in
theorem cut2_one (p : Ip) (mtu : Int) (oo ob : Option Addr) (oc bc : Nat) (w : World) (h1 : p.ol ≤ 100000000) (h2 : p.bl ≤ 100000) (hP : IpAt w p oo oc ob bc) (hm : mayB p = true) (hu1 : 28 ≤ mtu) (hu2 : mtu ≤ 65535) (hw : 20 + (p.ol : Int) + (p.bl : Int) ≤ mtu) :
    Calls Try.prog 18 #[.agg #[.int .i64 p.tos, .int .i64 p.id, .bool p.df, .bool p.mf, .int .i64 p.off, .int .i64 p.ttl, .int .i64 p.proto, .int .u32 p.src, .int .u32 p.dst, .slice oo p.ol oc, .slice ob p.bl bc], .int .i64 mtu] w (CutM2 w p mtu) := by
  have HP := Lib.hid hP
  clear hP
  have hmf : ∀ (fn : Fn) (first cap : Array Value) (w : World), (Instr.makeFunc fn first cap).run Try.prog w = .ok (.func fn first cap) w := fun _ _ _ _ => rfl
  have MP := may_iff.1 hm
  have hol := MP.ol
  obtain ⟨ho0, ho1⟩ := MP.off
  have HE := Lib.hid (show cutErr p mtu = 0 by unfold cutErr; rw [if_pos ⟨hm, hu1, hu2⟩, if_pos hw])
  clear MP
  go_enter Try.func18, Try.ntmps18
  go_wp2_with (first | (go_at_call 25; refine (ipPut_any p oo ob oc bc _ h1 (by omega) (HP.out.on (by (exact jkc)))).mono ?_; intro e w' hp; obtain ⟨o1, c1, rfl, ⟨osj, dj, rfl⟩, _⟩ := hp.ok hm; clear hp) | (go_at_call 40; (try simp only [World.junk_junk]); refine (piece_to p (p.bl : Int) 0 p.bl oo ob oc bc _ (HP.out.on (by (exact jkc))) h1 (by omega) (by omega) (by omega) (by omega) (by omega) ho0 ho1).mono ?_; rintro e w' ⟨oo2, ob2, oc2, bc2, rfl, ⟨osj2, dj2, rfl⟩, hq, hf1, hf2⟩; have HQ := Lib.hid hq; have HF := Lib.hid (And.intro hf1 hf2); clear hq hf1 hf2))
  go_returns
  exact cutM2_one (f := ⟨pieceIp p 0 p.bl, oo2, oc2, ob2, bc2⟩) HE.out hw rfl (by (exact jkc)) (own_cast3 (own_litk _ _ 11 _ 1 _ (by simp) (by simp; try omega) rfl (by decide)) rfl) (HQ.out.on (by (exact jkc))) ⟨HF.out.1.lower (by simp; try omega), HF.out.2.lower (by simp; try omega)⟩
theorem cutM2_bad {w w' : World} {p : Ip} {mtu : Int} {e : Ending} (h : CutM w p mtu e w') (hn : cutErr p mtu ≠ 0) : CutM2 w p mtu e w' := by
  obtain ⟨L, oa, cap, h1, h2, h3, h4, h5⟩ := h
  have h6 : L = [] := by
    unfold cutL at h3
    rw [if_pos hn] at h3
    exact List.map_eq_nil_iff.1 h3
  exact ⟨L, oa, cap, h1, h2, h3, h4, h5, fun f hf => by rw [h6] at hf; cases hf⟩
theorem cut2_any (p : Ip) (mtu : Int) (oo ob : Option Addr) (oc bc : Nat) (w : World) (h1 : p.ol ≤ 100000000) (h2 : p.bl ≤ 100000) (hP : IpAt w p oo oc ob bc) :
    Calls Try.prog 18 #[.agg #[.int .i64 p.tos, .int .i64 p.id, .bool p.df, .bool p.mf, .int .i64 p.off, .int .i64 p.ttl, .int .i64 p.proto, .int .u32 p.src, .int .u32 p.dst, .slice oo p.ol oc, .slice ob p.bl bc], .int .i64 mtu] w (CutM2 w p mtu) := by
  by_cases hn : cutErr p mtu = 0
  case neg => exact (cut_any p mtu oo ob oc bc w h1 h2 hP).mono fun e w' h => cutM2_bad h hn
  have hE := hn
  unfold cutErr at hE
  by_cases hg : mayB p = true ∧ 28 ≤ mtu ∧ mtu ≤ 65535
  case neg => rw [if_neg hg] at hE; cases hE
  rw [if_pos hg] at hE
  obtain ⟨hm, hu1, hu2⟩ := hg
  by_cases hw : 20 + (p.ol : Int) + p.bl ≤ mtu
  · exact cut2_one p mtu oo ob oc bc w h1 h2 hP hm hu1 hu2 hw
  · rw [if_neg hw] at hE
    cases hd : p.df with
    | true => rw [if_pos hd] at hE; cases hE
    | false =>
      rw [if_neg (by rw [hd]; simp)] at hE
      by_cases h8 : mtu - 20 - (p.ol : Int) < 8
      · rw [if_pos h8] at hE; cases hE
      · obtain ⟨tos, id, df, mf, off, ttl, proto, src, dst, ol, opts, bl, body⟩ := p
        have hd' : df = false := hd
        subst hd'
        exact cut2_loop tos id mf off ttl proto src dst ol opts bl body mtu oo ob oc bc w (may_iff.1 hm).ol h2 hP hm hu1 hu2 hw (by have h9 : ¬ mtu - 20 - (ol : Int) < 8 := h8; omega)
end Go.Proofs.Ytgjppmkadmfibaa
