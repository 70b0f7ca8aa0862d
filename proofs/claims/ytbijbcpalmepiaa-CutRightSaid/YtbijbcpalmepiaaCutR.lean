/- The contract of the reference's Cut. -/
import Derived.Test.YtbijbcpalmepiaaCutB
import Derived.Test.YtbijbcpalmepiaaIpRef
set_option linter.unusedVariables false
set_option maxRecDepth 100000
set_option linter.unusedSimpArgs false
namespace Go.Proofs.Ytbijbcpalmepiaa
open Go.RowKit
theorem piece_whole (p : Ip) : pieceIp p 0 p.bl = p := by
  obtain ⟨tos, id, df, mf, off, ttl, proto, src, dst, ol, opts, bl, body⟩ := p
  simp [pieceIp]
def lenV : Value → Nat
  | .slice _ n _ => n
  | _ => 0
theorem bts_sub7 {w : World} {b off l c : Nat} {xs : Nat → Int} (h : Bts w (some ⟨b, off, none⟩) l c xs) (i j : Nat) (hij : i ≤ j) (hj : j ≤ l) (hc : c ≠ i) : Bts w (some ⟨b, off + i, none⟩) (j - i) (c - i) (fun k => xs (i + k)) := by
  have := bts_sub h i j hij hj
  rwa [if_neg hc] at this
theorem piece_mid {tos id : Int} {mf : Bool} {off ttl proto src dst : Int} {ol : Nat} {opts : Nat → Int} {bl : Nat} {body : Nat → Int} {j Z : Nat} (h : j + Z < bl) :
    pieceIp (Ip.mk tos id false mf off ttl proto src dst ol opts bl body) j (j + Z) = Ip.mk tos id false true (off + (j : Int)) ttl proto src dst ol opts Z (fun q => body (j + q)) := by
  simp [pieceIp, h]
theorem piece_last {tos id : Int} {mf : Bool} {off ttl proto src dst : Int} {ol : Nat} {opts : Nat → Int} {bl : Nat} {body : Nat → Int} {j : Nat} :
    pieceIp (Ip.mk tos id false mf off ttl proto src dst ol opts bl body) j bl = Ip.mk tos id false mf (off + (j : Int)) ttl proto src dst ol opts (bl - j) (fun q => body (j + q)) := by
  simp [pieceIp]
theorem pieces_snoc2 {p q : Ip} {Z k j : Nat} {L : List Fr} {oo ob : Option Addr} {oc bc : Nat} (h : L.map Fr.p = piecesL p Z k) (hj : j = k * Z) (hT : Z + j ≤ p.bl) (hq : pieceIp p j (j + Z) = q) : (L ++ [(⟨q, oo, oc, ob, bc⟩ : Fr)]).map Fr.p = piecesL p Z (k + 1) := by
  subst hq
  exact pieces_snoc h hj (by omega)
theorem pieces_snoc3 {p q : Ip} {Z k j : Nat} {L : List Fr} {oo ob : Option Addr} {oc bc : Nat} (h : L.map Fr.p = piecesL p Z k) (hj : j = k * Z) (hT : p.bl ≤ j + Z) (hq : pieceIp p j p.bl = q) : (L ++ [(⟨q, oo, oc, ob, bc⟩ : Fr)]).map Fr.p = piecesL p Z (k + 1) := by
  subst hq
  exact pieces_snoc h hj (by omega)
theorem own_over2' {V : World} {cur cur' : Array Value} {t e : TypeId} {os : Array Obj} {d size cap n : Nat} {oa : Option Addr} {l : List Value} (h : Own (V.heap.size + 1) ((V.alloc (.cells cur t)).junk os d) e size oa cap n l) : Own (V.heap.size + 1) ((V.alloc (.cells cur' t)).junk os d) e size oa cap n l := by
  refine ⟨h.1, ?_⟩
  rcases h.2 with hn | ⟨g, cap', cur1, h1, hb, hg, hr⟩
  · exact .inl hn
  · refine .inr ⟨g, cap', cur1, h1, hb, ?_, hr⟩
    rw [← hg]
    have hlt := (Array.getElem?_eq_some_iff.1 hg).1
    simp only [World.junk, World.alloc] at hlt ⊢
    rw [Array.getElem?_append_right (by simp; omega), Array.getElem?_append_right (by simp; omega)]
    simp
theorem Fr.at_of {w : World} {p : Ip} {oo ob : Option Addr} {oc bc : Nat} (h : IpAt w p oo oc ob bc) : Fr.At w ⟨p, oo, oc, ob, bc⟩ := h
theorem all_snoc {w : World} {L : List Fr} {fn : Fr} (h : ∀ f ∈ L, f.At w) (hn : fn.At w) : ∀ f ∈ L ++ [fn], f.At w := by
  intro f hf
  rcases List.mem_append.1 hf with h1 | h1
  · exact h f h1
  · simp only [List.mem_cons, List.not_mem_nil, or_false] at h1; subst h1; exact hn
theorem tmod_eight (m : Int) : m.tmod 8 = 0 ↔ m % 8 = 0 := by
  exact ⟨fun h => Int.emod_eq_zero_of_dvd (Int.dvd_of_tmod_eq_zero h), fun h => Int.tmod_eq_zero_of_dvd (Int.dvd_of_emod_eq_zero h)⟩
set_option maxHeartbeats 1000000 in
theorem rcut_frag (tos id : Int) (mf : Bool) (off ttl proto src dst : Int) (ol : Nat) (opts : Nat → Int) (bl : Nat) (body : Nat → Int) (mtu : Int) (oo ob : Option Addr) (oc bc : Nat) (w : World) (h1 : ol ≤ 40) (h2 : bl ≤ 100000) (hP : IpAt w (Ip.mk tos id true mf off ttl proto src dst ol opts bl body) oo oc ob bc)
    (hm : mayB (Ip.mk tos id true mf off ttl proto src dst ol opts bl body) = true) (hu1 : 28 ≤ mtu) (hu2 : mtu ≤ 65535) (hw : ¬ 20 + (ol : Int) + (bl : Int) ≤ mtu) :
    Calls Try.prog 16 #[.agg #[.int .i64 tos, .int .i64 id, .bool true, .bool mf, .int .i64 off, .int .i64 ttl, .int .i64 proto, .int .u32 src, .int .u32 dst, .slice oo ol oc, .slice ob bl bc], .int .i64 mtu] w (CutM w (Ip.mk tos id true mf off ttl proto src dst ol opts bl body) mtu) := by
  have HP := Lib.hid hP
  clear hP
  have HE := Lib.hid (show cutErr (Ip.mk tos id true mf off ttl proto src dst ol opts bl body) mtu = 7 by unfold cutErr; rw [if_pos ⟨hm, hu1, hu2⟩, if_neg hw, if_pos rfl])
  go_enter Try.func16, Try.ntmps16
  go_wp2_with (first | (go_at_call 45; refine (rmay_any (Ip.mk tos id true mf off ttl proto src dst ol opts bl body) oo ob oc bc _ (by show ol ≤ _; omega) (by show bl ≤ _; omega)).mono ?_; rintro e w' ⟨rfl, ⟨osj, dj, rfl⟩⟩))
  go_returns
  exact cutM_bad HE.out (by decide) (by ((try simp only [World.junk_junk, Array.append_assoc]); (repeat (first | with_reducible exact Junk.refl _ | with_reducible exact Junk.app _ _ _ _ _ | with_reducible exact Junk.app2 _ _ _ _ _ _ | with_reducible exact Junk.app3 _ _ _ _ _ _ _ | with_reducible exact Junk.app4 _ _ _ _ _ _ _ _ | with_reducible exact Junk.app5 _ _ _ _ _ _ _ _ _ | with_reducible apply Junk.alloc | with_reducible apply Junk.junk | with_reducible apply Junk.drew | with_reducible apply Junk.drewN))))
set_option maxHeartbeats 1000000 in
theorem rcut_small (tos id : Int) (mf : Bool) (off ttl proto src dst : Int) (ol : Nat) (opts : Nat → Int) (bl : Nat) (body : Nat → Int) (mtu : Int) (oo ob : Option Addr) (oc bc : Nat) (w : World) (h1 : ol ≤ 40) (h2 : bl ≤ 100000) (hP : IpAt w (Ip.mk tos id false mf off ttl proto src dst ol opts bl body) oo oc ob bc)
    (hm : mayB (Ip.mk tos id false mf off ttl proto src dst ol opts bl body) = true) (hu1 : 28 ≤ mtu) (hu2 : mtu ≤ 65535) (hw : ¬ 20 + (ol : Int) + (bl : Int) ≤ mtu) (hq : 0 ≤ mtu - (20 + (ol : Int))) (hq8 : mtu - (20 + (ol : Int)) < 8) :
    Calls Try.prog 16 #[.agg #[.int .i64 tos, .int .i64 id, .bool false, .bool mf, .int .i64 off, .int .i64 ttl, .int .i64 proto, .int .u32 src, .int .u32 dst, .slice oo ol oc, .slice ob bl bc], .int .i64 mtu] w (CutM w (Ip.mk tos id false mf off ttl proto src dst ol opts bl body) mtu) := by
  have HP := Lib.hid hP
  clear hP
  have HE := Lib.hid (show cutErr (Ip.mk tos id false mf off ttl proto src dst ol opts bl body) mtu = 4 by unfold cutErr; rw [if_pos ⟨hm, hu1, hu2⟩, if_neg hw, if_neg (by simp), if_pos (by show mtu - 20 - (ol : Int) < 8; omega)])
  go_enter Try.func16, Try.ntmps16
  go_wp2_with (first | (go_at_call 45; refine (rmay_any (Ip.mk tos id false mf off ttl proto src dst ol opts bl body) oo ob oc bc _ (by show ol ≤ _; omega) (by show bl ≤ _; omega)).mono ?_; rintro e w' ⟨rfl, ⟨osj, dj, rfl⟩⟩))
  go_loopw [7] (fun i wr => ∃ m : Int, i = .int .i64 m ∧ wr = ((w.alloc (.cells #[.int .i64 tos, .int .i64 id, .bool false, .bool mf, .int .i64 off, .int .i64 ttl, .int .i64 proto, .int .u32 src, .int .u32 dst, .slice oo ol oc, .slice ob bl bc] 25)).junk osj dj) ∧ (mtu - (20 + (ol : Int))) / 8 * 8 ≤ m ∧ m ≤ mtu - (20 + (ol : Int))) (fun i _ => (intOf i - (mtu - (20 + (ol : Int))) / 8 * 8).toNat)
  case atStart => exact ⟨_, rfl, by first | rfl | trivial, by omega, by omega⟩
  case round =>
    obtain ⟨m, rfl, rfl, m1, m2⟩ := hrel
    by_cases hz : m % 8 = 0
    · have hz2 : (m % 8 != 0) = false := by simp [hz]
      have m8 : m < 8 := by omega
      go_wp2
      go_returns
      exact cutM_bad HE.out (by decide) (by ((try simp only [World.junk_junk, Array.append_assoc]); (repeat (first | with_reducible exact Junk.refl _ | with_reducible exact Junk.app _ _ _ _ _ | with_reducible exact Junk.app2 _ _ _ _ _ _ | with_reducible exact Junk.app3 _ _ _ _ _ _ _ | with_reducible exact Junk.app4 _ _ _ _ _ _ _ _ | with_reducible exact Junk.app5 _ _ _ _ _ _ _ _ _ | with_reducible apply Junk.alloc | with_reducible apply Junk.junk | with_reducible apply Junk.drew | with_reducible apply Junk.drewN))))
    · have hz2 : (m % 8 != 0) = true := by simp [hz]
      go_wp2
      exact ⟨⟨m - 1, by first | rfl | trivial, by first | rfl | trivial, by omega, by omega⟩, by simp [intOf]; omega⟩
set_option maxHeartbeats 1000000 in
theorem rcut_small2 (tos id : Int) (mf : Bool) (off ttl proto src dst : Int) (ol : Nat) (opts : Nat → Int) (bl : Nat) (body : Nat → Int) (mtu : Int) (oo ob : Option Addr) (oc bc : Nat) (w : World) (h1 : ol ≤ 40) (h2 : bl ≤ 100000) (hP : IpAt w (Ip.mk tos id false mf off ttl proto src dst ol opts bl body) oo oc ob bc)
    (hm : mayB (Ip.mk tos id false mf off ttl proto src dst ol opts bl body) = true) (hu1 : 28 ≤ mtu) (hu2 : mtu ≤ 65535) (hw : ¬ 20 + (ol : Int) + (bl : Int) ≤ mtu) (hq : ¬ 0 ≤ mtu - (20 + (ol : Int))) :
    Calls Try.prog 16 #[.agg #[.int .i64 tos, .int .i64 id, .bool false, .bool mf, .int .i64 off, .int .i64 ttl, .int .i64 proto, .int .u32 src, .int .u32 dst, .slice oo ol oc, .slice ob bl bc], .int .i64 mtu] w (CutM w (Ip.mk tos id false mf off ttl proto src dst ol opts bl body) mtu) := by
  have HP := Lib.hid hP
  clear hP
  have HE := Lib.hid (show cutErr (Ip.mk tos id false mf off ttl proto src dst ol opts bl body) mtu = 4 by unfold cutErr; rw [if_pos ⟨hm, hu1, hu2⟩, if_neg hw, if_neg (by simp), if_pos (by show mtu - 20 - (ol : Int) < 8; omega)])
  go_enter Try.func16, Try.ntmps16
  go_wp2_with (first | (go_at_call 45; refine (rmay_any (Ip.mk tos id false mf off ttl proto src dst ol opts bl body) oo ob oc bc _ (by show ol ≤ _; omega) (by show bl ≤ _; omega)).mono ?_; rintro e w' ⟨rfl, ⟨osj, dj, rfl⟩⟩))
  go_loopw [7] (fun i wr => ∃ m : Int, i = .int .i64 m ∧ wr = ((w.alloc (.cells #[.int .i64 tos, .int .i64 id, .bool false, .bool mf, .int .i64 off, .int .i64 ttl, .int .i64 proto, .int .u32 src, .int .u32 dst, .slice oo ol oc, .slice ob bl bc] 25)).junk osj dj) ∧ (mtu - (20 + (ol : Int))) / 8 * 8 ≤ m ∧ m ≤ mtu - (20 + (ol : Int))) (fun i _ => (intOf i - (mtu - (20 + (ol : Int))) / 8 * 8).toNat)
  case atStart => exact ⟨_, rfl, by first | rfl | trivial, by omega, by omega⟩
  case round =>
    obtain ⟨m, rfl, rfl, m1, m2⟩ := hrel
    by_cases hz : m % 8 = 0
    · have hz2 : (m.tmod 8 != 0) = false := by have := tmod_eight m; simp [this, hz]
      have m8 : m < 8 := by omega
      go_wp2
      go_returns
      exact cutM_bad HE.out (by decide) (by ((try simp only [World.junk_junk, Array.append_assoc]); (repeat (first | with_reducible exact Junk.refl _ | with_reducible exact Junk.app _ _ _ _ _ | with_reducible exact Junk.app2 _ _ _ _ _ _ | with_reducible exact Junk.app3 _ _ _ _ _ _ _ | with_reducible exact Junk.app4 _ _ _ _ _ _ _ _ | with_reducible exact Junk.app5 _ _ _ _ _ _ _ _ _ | with_reducible apply Junk.alloc | with_reducible apply Junk.junk | with_reducible apply Junk.drew | with_reducible apply Junk.drewN))))
    · have hz2 : (m.tmod 8 != 0) = true := by have := tmod_eight m; simp [this, hz]
      go_wp2
      exact ⟨⟨m - 1, by first | rfl | trivial, by first | rfl | trivial, by omega, by omega⟩, by simp [intOf]; omega⟩
set_option maxHeartbeats 4000000 in
theorem rcut_loop (tos id : Int) (mf : Bool) (off ttl proto src dst : Int) (ol : Nat) (opts : Nat → Int) (bl : Nat) (body : Nat → Int) (mtu : Int) (oo : Option Addr) (b boff : Nat) (oc bc : Nat) (w : World) (h1 : ol ≤ 40) (h2 : bl ≤ 100000) (hP : IpAt w (Ip.mk tos id false mf off ttl proto src dst ol opts bl body) oo oc (some ⟨b, boff, none⟩) bc)
    (hm : mayB (Ip.mk tos id false mf off ttl proto src dst ol opts bl body) = true) (hu1 : 28 ≤ mtu) (hu2 : mtu ≤ 65535) (hw : ¬ 20 + (ol : Int) + (bl : Int) ≤ mtu) (hq : 8 ≤ mtu - (20 + (ol : Int))) :
    Calls Try.prog 16 #[.agg #[.int .i64 tos, .int .i64 id, .bool false, .bool mf, .int .i64 off, .int .i64 ttl, .int .i64 proto, .int .u32 src, .int .u32 dst, .slice oo ol oc, .slice (some ⟨b, boff, none⟩) bl bc], .int .i64 mtu] w (CutM w (Ip.mk tos id false mf off ttl proto src dst ol opts bl body) mtu) := by
  have HP := Lib.hid hP
  have hbc := hP.body.le
  have hbm : bc ≤ 9223372036854775807 := hP.body.cap
  clear hP
  have HE := Lib.hid (show cutErr (Ip.mk tos id false mf off ttl proto src dst ol opts bl body) mtu = 0 by unfold cutErr; rw [if_pos ⟨hm, hu1, hu2⟩, if_neg hw, if_neg (by simp), if_neg (by show ¬ mtu - 20 - (ol : Int) < 8; omega)])
  have hof := (may_iff.1 hm).off
  obtain ⟨ho0, ho1⟩ := hof
  obtain ⟨Z, hZ⟩ : ∃ Z, Z = cutZ (Ip.mk tos id false mf off ttl proto src dst ol opts bl body) mtu := ⟨_, rfl⟩
  have ez : (mtu - 20 - (ol : Int)) / 8 * 8 = (Z : Int) := by
    have : cutZ (Ip.mk tos id false mf off ttl proto src dst ol opts bl body) mtu = ((mtu - 20 - (ol : Int)) / 8 * 8).toNat := rfl
    rw [hZ, this]
    omega
  have z8 : 8 ≤ Z := by omega
  have z9 : Z ≤ 65535 := by omega
  have HZ := Lib.hid hZ
  clear hZ
  have hbl : Z < bl := by omega
  have ho0' : 0 ≤ off := ho0
  have ho1' : off ≤ 65528 := ho1
  go_enter Try.func16, Try.ntmps16
  go_wp2_with (first | (go_at_call 45; refine (rmay_any (Ip.mk tos id false mf off ttl proto src dst ol opts bl body) oo (some ⟨b, boff, none⟩) oc bc _ (by show ol ≤ _; omega) (by show bl ≤ _; omega)).mono ?_; rintro e w' ⟨rfl, ⟨osj, dj, rfl⟩⟩))
  go_loopw [7] (fun i wr => ∃ m : Int, i = .int .i64 m ∧ wr = ((w.alloc (.cells #[.int .i64 tos, .int .i64 id, .bool false, .bool mf, .int .i64 off, .int .i64 ttl, .int .i64 proto, .int .u32 src, .int .u32 dst, .slice oo ol oc, .slice (some ⟨b, boff, none⟩) bl bc] 25)).junk osj dj) ∧ (mtu - (20 + (ol : Int))) / 8 * 8 ≤ m ∧ m ≤ mtu - (20 + (ol : Int))) (fun i _ => (intOf i - (mtu - (20 + (ol : Int))) / 8 * 8).toNat)
  case atStart => exact ⟨_, rfl, by first | rfl | trivial, by omega, by omega⟩
  case round =>
    obtain ⟨m, rfl, rfl, m1, m2⟩ := hrel
    by_cases hz : m % 8 = 0
    case neg =>
      have hz2 : (m % 8 != 0) = true := by simp [hz]
      go_wp2
      exact ⟨⟨m - 1, by first | rfl | trivial, by first | rfl | trivial, by omega, by omega⟩, by simp [intOf]; omega⟩
    obtain rfl : m = (Z : Int) := by omega
    have hz2 : ((Z : Int) % 8 != 0) = false := by simp [hz]
    have z8i : ¬ (Z : Int) < 8 := by omega
    clear m1 m2 ez
    go_wp2
    go_loopw [8] (fun v wr => ∃ (L : List Fr) (k j : Nat) (oa : Option Addr) (cap : Nat) (os : Array Obj) (d : Nat), v = .slice oa k cap ∧ wr = (((w.alloc (.cells #[.int .i64 tos, .int .i64 id, .bool false, .bool mf, .int .i64 off, .int .i64 ttl, .int .i64 proto, .int .u32 src, .int .u32 dst, .slice oo ol oc, .slice (some ⟨b, boff, none⟩) bl bc] 25)).junk osj dj).alloc (.cells #[.int .i64 tos, .int .i64 id, .bool false, .bool mf, .int .i64 (off + (j : Int)), .int .i64 ttl, .int .i64 proto, .int .u32 src, .int .u32 dst, .slice oo ol oc, .slice (some ⟨b, boff + j, none⟩) (bl - j) (bc - j)] 25)).junk os d ∧ L.length = k ∧ Hid (j = k * Z) ∧ L.map Fr.p = piecesL (Ip.mk tos id false mf off ttl proto src dst ol opts bl body) Z k ∧ Own (((w.alloc (.cells #[.int .i64 tos, .int .i64 id, .bool false, .bool mf, .int .i64 off, .int .i64 ttl, .int .i64 proto, .int .u32 src, .int .u32 dst, .slice oo ol oc, .slice (some ⟨b, boff, none⟩) bl bc] 25)).junk osj dj).heap.size + 1) wr 25 11 oa cap k (cellsL L) ∧ (∀ f ∈ L, f.At w) ∧ j < bl ∧ k ≤ j) (fun v _ => bl + 1 - lenV v)
    case atStart => exact ⟨[], 0, 0, none, 0, #[], _, rfl, by simp only [Nat.add_zero, Nat.sub_zero, Int.ofNat_zero, Int.natCast_zero, Int.cast_ofNat_Int, Int.add_zero]; exact junk_nil _, rfl, Lib.hid (by simp), rfl, Own.nil _ _ _ _, fun f hf => (by cases hf), by omega, by omega⟩
    case round =>
      obtain ⟨L, k, j, oa, cap, os, d, rfl, rfl, hk, hj, hL, hown, hAt, hjb, hkb⟩ := hrel
      have Hown := Lib.hid hown
      have HA := Lib.hid hAt
      have HL := Lib.hid hL
      have Hk := Lib.hid hk
      clear hown hAt hL hk
      have hba := HP.out.body
      by_cases hlt : Z < bl - j
      · have g1 : (Z : Int) < ((bl - j : Nat) : Int) := by omega
        have g2 : (Z : Int) ≤ ((bc - j : Nat) : Int) := by omega
        have g3 : ¬ bc - j = Z := by omega
        have g4 : (Z : Int) ≤ ((bl - j : Nat) : Int) := by omega
        have HQ : Hid (IpAt w (Ip.mk tos id false true (off + (j : Int)) ttl proto src dst ol opts Z (fun q => body (j + q))) oo oc (some ⟨b, boff + j, none⟩) (bc - j)) := Lib.hid ⟨HP.out.opts, by have := bts_sub7 hba j (j + Z) (by omega) (by show j + Z ≤ bl; omega) (by omega); rw [Nat.add_sub_cancel_left] at this; exact this, HP.out.src, HP.out.dst⟩
        have HPC := Lib.hid (piece_mid (tos := tos) (id := id) (mf := mf) (off := off) (ttl := ttl) (proto := proto) (src := src) (dst := dst) (ol := ol) (opts := opts) (bl := bl) (body := body) (j := j) (Z := Z) (by omega))
        clear hba
        go_wp2_with (first | (at_builtin; (refine ap_own (W0 := ((w.alloc (.cells #[.int .i64 tos, .int .i64 id, .bool false, .bool mf, .int .i64 off, .int .i64 ttl, .int .i64 proto, .int .u32 src, .int .u32 dst, .slice oo ol oc, .slice (some ⟨b, boff, none⟩) bl bc] 25)).junk osj dj).alloc (.cells #[.int .i64 tos, .int .i64 id, .bool false, .bool mf, .int .i64 (off + (j : Int)), .int .i64 ttl, .int .i64 proto, .int .u32 src, .int .u32 dst, .slice oo ol oc, .slice (some ⟨b, boff + j, none⟩) (bl - j) (bc - j)] 25)) rfl _ _ 28 rfl 25 (.agg #[.int .i64 0, .int .i64 0, .bool false, .bool false, .int .i64 0, .int .i64 0, .int .i64 0, .int .u32 0, .int .u32 0, .slice none 0 0, .slice none 0 0]) 11 104 (by kernel_rfl) rfl (by decide) Try.underlying28 (by ((try simp only [World.junk_junk, Array.append_assoc]); (repeat (first | with_reducible exact Junk.refl _ | with_reducible exact Junk.app _ _ _ _ _ | with_reducible exact Junk.app2 _ _ _ _ _ _ | with_reducible exact Junk.app3 _ _ _ _ _ _ _ | with_reducible exact Junk.app4 _ _ _ _ _ _ _ _ | with_reducible exact Junk.app5 _ _ _ _ _ _ _ _ _ | with_reducible apply Junk.alloc | with_reducible apply Junk.junk | with_reducible apply Junk.drew | with_reducible apply Junk.drewN)))) oa cap k _ rfl ((Hown.out.lower (by simp)).on (by ((try simp only [World.junk_junk, Array.append_assoc]); (repeat (first | with_reducible exact Junk.refl _ | with_reducible exact Junk.app _ _ _ _ _ | with_reducible exact Junk.app2 _ _ _ _ _ _ | with_reducible exact Junk.app3 _ _ _ _ _ _ _ | with_reducible exact Junk.app4 _ _ _ _ _ _ _ _ | with_reducible exact Junk.app5 _ _ _ _ _ _ _ _ _ | with_reducible apply Junk.alloc | with_reducible apply Junk.junk | with_reducible apply Junk.drew | with_reducible apply Junk.drewN))))) _ 1 1 rfl (Fr.cells ⟨Ip.mk tos id false true (off + (j : Int)) ttl proto src dst ol opts Z (fun q => body (j + q)), oo, oc, some ⟨b, boff + j, none⟩, bc - j⟩) rfl (built_cells (by simp)) (fun h => by cases h) (Fr.one _) (by simp only [maxLen]; omega) (by omega) ?_; intro oa' cap' os' d' hown' _; have Hown2 := Lib.hid hown'; clear hown')))
        exact ⟨⟨L ++ [⟨Ip.mk tos id false true (off + (j : Int)) ttl proto src dst ol opts Z (fun q => body (j + q)), oo, oc, some ⟨b, boff + j, none⟩, bc - j⟩], k + 1, j + Z, oa', cap', _, _, rfl, by simp only [Nat.add_assoc, Nat.sub_sub, Int.natCast_add, Int.add_assoc]; rfl, by simp [Hk.out], Lib.hid (by rw [hj.out, Nat.succ_mul]), pieces_snoc2 HL.out hj.out (show Z + j ≤ bl by omega) HPC.out, own_over2' (own_cast3 (Hown2.out.lower (by simp)) (cellsL_one _ _)), all_snoc HA.out (Fr.at_of HQ.out), by omega, by omega⟩, by simp [lenV]; omega⟩
      · have g1 : ¬ (Z : Int) < ((bl - j : Nat) : Int) := by omega
        have HQ : Hid (IpAt w (Ip.mk tos id false mf (off + (j : Int)) ttl proto src dst ol opts (bl - j) (fun q => body (j + q))) oo oc (some ⟨b, boff + j, none⟩) (bc - j)) := Lib.hid ⟨HP.out.opts, bts_sub7 hba j bl (by omega) (Nat.le_refl _) (by omega), HP.out.src, HP.out.dst⟩
        have HPC := Lib.hid (piece_last (tos := tos) (id := id) (mf := mf) (off := off) (ttl := ttl) (proto := proto) (src := src) (dst := dst) (ol := ol) (opts := opts) (bl := bl) (body := body) (j := j))
        clear hba
        go_wp2_with (first | (at_builtin; (refine ap_own (W0 := ((w.alloc (.cells #[.int .i64 tos, .int .i64 id, .bool false, .bool mf, .int .i64 off, .int .i64 ttl, .int .i64 proto, .int .u32 src, .int .u32 dst, .slice oo ol oc, .slice (some ⟨b, boff, none⟩) bl bc] 25)).junk osj dj).alloc (.cells #[.int .i64 tos, .int .i64 id, .bool false, .bool mf, .int .i64 (off + (j : Int)), .int .i64 ttl, .int .i64 proto, .int .u32 src, .int .u32 dst, .slice oo ol oc, .slice (some ⟨b, boff + j, none⟩) (bl - j) (bc - j)] 25)) rfl _ _ 28 rfl 25 (.agg #[.int .i64 0, .int .i64 0, .bool false, .bool false, .int .i64 0, .int .i64 0, .int .i64 0, .int .u32 0, .int .u32 0, .slice none 0 0, .slice none 0 0]) 11 104 (by kernel_rfl) rfl (by decide) Try.underlying28 (by ((try simp only [World.junk_junk, Array.append_assoc]); (repeat (first | with_reducible exact Junk.refl _ | with_reducible exact Junk.app _ _ _ _ _ | with_reducible exact Junk.app2 _ _ _ _ _ _ | with_reducible exact Junk.app3 _ _ _ _ _ _ _ | with_reducible exact Junk.app4 _ _ _ _ _ _ _ _ | with_reducible exact Junk.app5 _ _ _ _ _ _ _ _ _ | with_reducible apply Junk.alloc | with_reducible apply Junk.junk | with_reducible apply Junk.drew | with_reducible apply Junk.drewN)))) oa cap k _ rfl ((Hown.out.lower (by simp)).on (by ((try simp only [World.junk_junk, Array.append_assoc]); (repeat (first | with_reducible exact Junk.refl _ | with_reducible exact Junk.app _ _ _ _ _ | with_reducible exact Junk.app2 _ _ _ _ _ _ | with_reducible exact Junk.app3 _ _ _ _ _ _ _ | with_reducible exact Junk.app4 _ _ _ _ _ _ _ _ | with_reducible exact Junk.app5 _ _ _ _ _ _ _ _ _ | with_reducible apply Junk.alloc | with_reducible apply Junk.junk | with_reducible apply Junk.drew | with_reducible apply Junk.drewN))))) _ 1 1 rfl (Fr.cells ⟨Ip.mk tos id false mf (off + (j : Int)) ttl proto src dst ol opts (bl - j) (fun q => body (j + q)), oo, oc, some ⟨b, boff + j, none⟩, bc - j⟩) rfl (built_cells (by simp)) (fun h => by cases h) (Fr.one _) (by simp only [maxLen]; omega) (by omega) ?_; intro oa' cap' os' d' hown' _; have Hown2 := Lib.hid hown'; clear hown')))
        go_returns
        exact cutM_loop (j := j + Z) HE.out (by show ¬ 20 + (ol : Int) + (bl : Int) ≤ mtu; omega) HZ.out (by rw [hj.out, Nat.succ_mul]) (by simp [Hk.out]) z8 (by show bl ≤ j + Z; omega) (by show j + Z < bl + Z; omega) (pieces_snoc3 HL.out hj.out (show bl ≤ j + Z by omega) HPC.out) (by ((try simp only [World.junk_junk, Array.append_assoc]); (repeat (first | with_reducible exact Junk.refl _ | with_reducible exact Junk.app _ _ _ _ _ | with_reducible exact Junk.app2 _ _ _ _ _ _ | with_reducible exact Junk.app3 _ _ _ _ _ _ _ | with_reducible exact Junk.app4 _ _ _ _ _ _ _ _ | with_reducible exact Junk.app5 _ _ _ _ _ _ _ _ _ | with_reducible apply Junk.alloc | with_reducible apply Junk.junk | with_reducible apply Junk.drew | with_reducible apply Junk.drewN)))) (own_cast3 (Hown2.out.lower (by simp; try omega)) (cellsL_one _ _)) (fun f hf => (all_snoc HA.out (Fr.at_of HQ.out) f hf).on (by ((try simp only [World.junk_junk, Array.append_assoc]); (repeat (first | with_reducible exact Junk.refl _ | with_reducible exact Junk.app _ _ _ _ _ | with_reducible exact Junk.app2 _ _ _ _ _ _ | with_reducible exact Junk.app3 _ _ _ _ _ _ _ | with_reducible exact Junk.app4 _ _ _ _ _ _ _ _ | with_reducible exact Junk.app5 _ _ _ _ _ _ _ _ _ | with_reducible apply Junk.alloc | with_reducible apply Junk.junk | with_reducible apply Junk.drew | with_reducible apply Junk.drewN)))))
set_option maxHeartbeats 1000000 in
theorem rcut_any (p : Ip) (mtu : Int) (oo ob : Option Addr) (oc bc : Nat) (w : World) (h1 : p.ol ≤ 100000000) (h2 : p.bl ≤ 100000) (hP : IpAt w p oo oc ob bc) :
    Calls Try.prog 16 #[.agg #[.int .i64 p.tos, .int .i64 p.id, .bool p.df, .bool p.mf, .int .i64 p.off, .int .i64 p.ttl, .int .i64 p.proto, .int .u32 p.src, .int .u32 p.dst, .slice oo p.ol oc, .slice ob p.bl bc], .int .i64 mtu] w (CutM w p mtu) := by
  have HP := Lib.hid hP
  clear hP
  cases hm : mayB p with
  | false =>
    go_enter Try.func16, Try.ntmps16
    go_wp2_with (first | (go_at_call 45; refine (rmay_any p oo ob oc bc _ h1 (by omega)).mono ?_; rintro e w' ⟨rfl, ⟨osj, dj, rfl⟩⟩))
    go_returns
    exact cutM_bad (by unfold cutErr; rw [if_neg (by simp [hm])]) (by decide) (by ((try simp only [World.junk_junk, Array.append_assoc]); (repeat (first | with_reducible exact Junk.refl _ | with_reducible exact Junk.app _ _ _ _ _ | with_reducible exact Junk.app2 _ _ _ _ _ _ | with_reducible exact Junk.app3 _ _ _ _ _ _ _ | with_reducible exact Junk.app4 _ _ _ _ _ _ _ _ | with_reducible exact Junk.app5 _ _ _ _ _ _ _ _ _ | with_reducible apply Junk.alloc | with_reducible apply Junk.junk | with_reducible apply Junk.drew | with_reducible apply Junk.drewN))))
  | true =>
  by_cases hu1 : 28 ≤ mtu
  case neg =>
    go_enter Try.func16, Try.ntmps16
    go_wp2_with (first | (go_at_call 45; refine (rmay_any p oo ob oc bc _ h1 (by omega)).mono ?_; rintro e w' ⟨rfl, ⟨osj, dj, rfl⟩⟩))
    go_returns
    exact cutM_bad (by unfold cutErr; rw [if_neg (fun h => by omega)]) (by decide) (by ((try simp only [World.junk_junk, Array.append_assoc]); (repeat (first | with_reducible exact Junk.refl _ | with_reducible exact Junk.app _ _ _ _ _ | with_reducible exact Junk.app2 _ _ _ _ _ _ | with_reducible exact Junk.app3 _ _ _ _ _ _ _ | with_reducible exact Junk.app4 _ _ _ _ _ _ _ _ | with_reducible exact Junk.app5 _ _ _ _ _ _ _ _ _ | with_reducible apply Junk.alloc | with_reducible apply Junk.junk | with_reducible apply Junk.drew | with_reducible apply Junk.drewN))))
  by_cases hu2 : mtu ≤ 65535
  case neg =>
    go_enter Try.func16, Try.ntmps16
    go_wp2_with (first | (go_at_call 45; refine (rmay_any p oo ob oc bc _ h1 (by omega)).mono ?_; rintro e w' ⟨rfl, ⟨osj, dj, rfl⟩⟩))
    go_returns
    exact cutM_bad (by unfold cutErr; rw [if_neg (fun h => by omega)]) (by decide) (by ((try simp only [World.junk_junk, Array.append_assoc]); (repeat (first | with_reducible exact Junk.refl _ | with_reducible exact Junk.app _ _ _ _ _ | with_reducible exact Junk.app2 _ _ _ _ _ _ | with_reducible exact Junk.app3 _ _ _ _ _ _ _ | with_reducible exact Junk.app4 _ _ _ _ _ _ _ _ | with_reducible exact Junk.app5 _ _ _ _ _ _ _ _ _ | with_reducible apply Junk.alloc | with_reducible apply Junk.junk | with_reducible apply Junk.drew | with_reducible apply Junk.drewN))))
  have MP := may_iff.1 hm
  have hol := MP.ol
  obtain ⟨ho0, ho1⟩ := MP.off
  clear MP
  by_cases hw : 20 + (p.ol : Int) + (p.bl : Int) ≤ mtu
  · have HE := Lib.hid (show cutErr p mtu = 0 by unfold cutErr; rw [if_pos ⟨hm, hu1, hu2⟩, if_pos hw])
    go_enter Try.func16, Try.ntmps16
    go_wp2_with (first | (go_at_call 45; refine (rmay_any p oo ob oc bc _ h1 (by omega)).mono ?_; rintro e w' ⟨rfl, ⟨osj, dj, rfl⟩⟩))
    go_returns
    exact cutM_one (f := ⟨p, oo, oc, ob, bc⟩) HE.out hw (piece_whole p).symm (by ((try simp only [World.junk_junk, Array.append_assoc]); (repeat (first | with_reducible exact Junk.refl _ | with_reducible exact Junk.app _ _ _ _ _ | with_reducible exact Junk.app2 _ _ _ _ _ _ | with_reducible exact Junk.app3 _ _ _ _ _ _ _ | with_reducible exact Junk.app4 _ _ _ _ _ _ _ _ | with_reducible exact Junk.app5 _ _ _ _ _ _ _ _ _ | with_reducible apply Junk.alloc | with_reducible apply Junk.junk | with_reducible apply Junk.drew | with_reducible apply Junk.drewN)))) (own_cast3 (own_litk _ _ 11 _ 1 _ (by simp) (by simp; try omega) rfl (by decide)) rfl) (HP.out.on (by ((try simp only [World.junk_junk, Array.append_assoc]); (repeat (first | with_reducible exact Junk.refl _ | with_reducible exact Junk.app _ _ _ _ _ | with_reducible exact Junk.app2 _ _ _ _ _ _ | with_reducible exact Junk.app3 _ _ _ _ _ _ _ | with_reducible exact Junk.app4 _ _ _ _ _ _ _ _ | with_reducible exact Junk.app5 _ _ _ _ _ _ _ _ _ | with_reducible apply Junk.alloc | with_reducible apply Junk.junk | with_reducible apply Junk.drew | with_reducible apply Junk.drewN)))))
  have hPP := HP.out
  clear HP
  obtain ⟨tos, id, df, mf, off, ttl, proto, src, dst, ol, opts, bl, body⟩ := p
  have hw2 : ¬ 20 + (ol : Int) + (bl : Int) ≤ mtu := hw
  cases df with
  | true => exact rcut_frag tos id mf off ttl proto src dst ol opts bl body mtu oo ob oc bc w hol h2 hPP hm hu1 hu2 hw2
  | false =>
    by_cases hq : 0 ≤ mtu - (20 + (ol : Int))
    · by_cases hq8 : mtu - (20 + (ol : Int)) < 8
      · exact rcut_small tos id mf off ttl proto src dst ol opts bl body mtu oo ob oc bc w hol h2 hPP hm hu1 hu2 hw2 hq hq8
      · obtain ⟨b, boff, rfl, _, _⟩ := hPP.body.at_ 0 (by show 0 < bl; omega)
        exact rcut_loop tos id mf off ttl proto src dst ol opts bl body mtu oo b boff oc bc w hol h2 hPP hm hu1 hu2 hw2 (by omega)
    · exact rcut_small2 tos id mf off ttl proto src dst ol opts bl body mtu oo ob oc bc w hol h2 hPP hm hu1 hu2 hw2 hq
end Go.Proofs.Ytbijbcpalmepiaa
