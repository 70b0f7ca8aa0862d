/- dump.Line. -/
import Derived.Test.YtfkhnhenemgcmaaDoorDuF
import Derived.Test.YtfkhnhenemgcmaaDoorIcmpA
import Derived.Test.YtfkhnhenemgcmaaDoorMix4
import Derived.Test.YtfkhnhenemgcmaaDoorIpA
import Derived.Test.YtfkhnhenemgcmaaDoorTcpD
import Derived.Test.YtfkhnhenemgcmaaDoorUdpA
import Derived.Test.YtfkhnhenemgcmaaDoorIcmpParse
import Derived.Test.YtfkhnhenemgcmaaDoorIpParse
set_option linter.unusedVariables false
set_option maxRecDepth 100000
set_option linter.unusedSimpArgs false
namespace Go.Proofs.YtfkhnhenemgcmaaDoor
open Go.RowKit
theorem WdAt.cell {V : World} {g : Nat} {w : World} {L : List ByteArray} (h : WdAt V g w L) {k i : Nat} (hk : k ≠ g) (hlt : k < V.heap.size) : w.cell? ⟨k, i, none⟩ = V.cell? ⟨k, i, none⟩ := by
  obtain ⟨oa, cap, ⟨os, d, rfl⟩, _⟩ := h
  rw [World.cell?_junk _ _ _ _ _ (by rw [setCell_size]; exact hlt)]
  exact World.cell?_setCell_other _ _ _ _ (by simp [hk])
theorem WdAt.size {V : World} {g : Nat} {w : World} {L : List ByteArray} (h : WdAt V g w L) : V.heap.size ≤ w.heap.size := by
  obtain ⟨oa, cap, hj, _⟩ := h
  have := hj.size
  rwa [setCell_size] at this
theorem WB.on {w V : World} {g : Nat} (h : WB w g) (hj : Junk w V) : WB V g := by
  have hl := h.lt
  obtain ⟨os, d, rfl⟩ := hj
  refine ⟨by simp; omega, ?_, ?_, fun i k v => ?_, fun x w' hw => ?_⟩
  · rw [World.cell?_junk _ _ _ _ _ hl]; exact h.cell
  · rw [World.frozen?_junk _ _ _ _ _ hl]; exact h.fr
  · rw [World.cell?_junk _ _ _ _ _ hl]; exact h.ni i k v
  · rw [World.setCell_junk _ _ _ _ _ _ hl] at hw
    exact h.tab x w' (Junk.trans (show Junk (w.setCell ⟨g, 0, none⟩ x) ((w.setCell ⟨g, 0, none⟩ x).junk os d) from ⟨os, d, rfl⟩) hw)
theorem WB.pow {w : World} {g : Nat} (h : WB w g) : PowT w := h.tab (.slice none 0 0) w (by rw [setCell_self h.cell]; exact Junk.refl _)
theorem say_lit {V : World} {g : Nat} (hB : WB V g) (L M : List ByteArray) (w : World) (h : WdAt V g w L) (m : Nat) (hm : m = M.length) (hs : L.length + m ≤ 1000) (w1 : World) (hj : Junk w w1) (k : Nat) (hk : k = w1.heap.size) (os : Array Obj) (d : Nat) :
    Calls Tryd.prog 17 #[.pointer (some ⟨g, 0, none⟩), .slice (some ⟨k, 0, none⟩) m m] ((w1.alloc (.cells (M.map Value.string).toArray 9)).junk os d) fun e w' => e = .returned (.tuple #[]) ∧ WdAt V g w' (L ++ M) := by
  subst hk
  refine say_any hB L M _ ((h.on hj).on (((Junk.refl _).alloc _).junk _ _)) _ m m hm hs (fun j u hu => ?_)
  rw [Addr.add_lit, World.cell?_junk _ _ _ _ _ (by simp), ← Addr.add_lit]
  exact built_txt j u hu
/-- 'icmp', '>', .. as bytes. -/
def tICMP : ByteArray := ⟨#[105, 99, 109, 112]⟩
def tGT : ByteArray := ⟨#[62]⟩
def tTYPE : ByteArray := ⟨#[116, 121, 112, 101]⟩
def tCODE : ByteArray := ⟨#[99, 111, 100, 101]⟩
def tLEN : ByteArray := ⟨#[108, 101, 110]⟩
def tNAME : ByteArray := ⟨#[110, 97, 109, 101]⟩
def icmpW (src dst t c r : Int) (l : Nat) : List ByteArray :=
  [tICMP, adrS src, tGT, adrS dst] ++ [tTYPE, itoaS t] ++ [tCODE, itoaS c] ++ [tLEN, itoaS l] ++ if (asksB t || answersB t) = true then [tNAME, itoaS (nameI t r)] else []
theorem nameI_bd {t r : Int} (hr : 0 ≤ r ∧ r ≤ 4294967295) : 0 ≤ nameI t r ∧ nameI t r ≤ 65535 := by
  unfold nameI
  split <;> omega
set_option maxRecDepth 100000 in
set_option maxHeartbeats 8000000 in
theorem message_any (g : Nat) (p : Ip) (oo ob : Option Addr) (oc bc : Nat) (t c r : Int) (om : Option Addr) (lm cm : Nat) (w : World) (hB : WB w g) (hs : 0 ≤ p.src ∧ p.src ≤ 4294967295) (hd : 0 ≤ p.dst ∧ p.dst ≤ 4294967295)
    (ht : 0 ≤ t ∧ t ≤ 255) (hc : 0 ≤ c ∧ c ≤ 255) (hr : 0 ≤ r ∧ r ≤ 4294967295) (hl : lm ≤ 100000000) :
    Calls Tryd.prog 44 #[.pointer (some ⟨g, 0, none⟩), .agg #[.int .i64 p.tos, .int .i64 p.id, .bool p.df, .bool p.mf, .int .i64 p.off, .int .i64 p.ttl, .int .i64 p.proto, .int .u32 p.src, .int .u32 p.dst, .slice oo p.ol oc, .slice ob p.bl bc], .agg #[.int .i64 t, .int .i64 c, .int .u32 r, .slice om lm cm]] w fun e w' => e = .returned (.tuple #[]) ∧ WdAt w g w' (icmpW p.src p.dst t c r lm) := by
  have HB0 := Lib.hid hB
  have HRR := Lib.hid hr
  go_enter Tryd.func44, Tryd.ntmps44
  go_upto_region 1 with (first | fail)
  have q7 : ((w.alloc (.cells #[.int .i64 p.tos, .int .i64 p.id, .bool p.df, .bool p.mf, .int .i64 p.off, .int .i64 p.ttl, .int .i64 p.proto, .int .u32 p.src, .int .u32 p.dst, .slice oo p.ol oc, .slice ob p.bl bc] 29)).alloc (.cells #[.int .i64 t, .int .i64 c, .int .u32 r, .slice om lm cm] 65)).cell? ⟨w.heap.size, 7, none⟩ = some (.int .u32 p.src) := by go_simp
  have q8 : ((w.alloc (.cells #[.int .i64 p.tos, .int .i64 p.id, .bool p.df, .bool p.mf, .int .i64 p.off, .int .i64 p.ttl, .int .i64 p.proto, .int .u32 p.src, .int .u32 p.dst, .slice oo p.ol oc, .slice ob p.bl bc] 29)).alloc (.cells #[.int .i64 t, .int .i64 c, .int .u32 r, .slice om lm cm] 65)).cell? ⟨w.heap.size, 8, none⟩ = some (.int .u32 p.dst) := by go_simp
  have m0 : ((w.alloc (.cells #[.int .i64 p.tos, .int .i64 p.id, .bool p.df, .bool p.mf, .int .i64 p.off, .int .i64 p.ttl, .int .i64 p.proto, .int .u32 p.src, .int .u32 p.dst, .slice oo p.ol oc, .slice ob p.bl bc] 29)).alloc (.cells #[.int .i64 t, .int .i64 c, .int .u32 r, .slice om lm cm] 65)).cell? ⟨w.heap.size + 1, 0, none⟩ = some (.int .i64 t) := by go_simp
  have m1 : ((w.alloc (.cells #[.int .i64 p.tos, .int .i64 p.id, .bool p.df, .bool p.mf, .int .i64 p.off, .int .i64 p.ttl, .int .i64 p.proto, .int .u32 p.src, .int .u32 p.dst, .slice oo p.ol oc, .slice ob p.bl bc] 29)).alloc (.cells #[.int .i64 t, .int .i64 c, .int .u32 r, .slice om lm cm] 65)).cell? ⟨w.heap.size + 1, 1, none⟩ = some (.int .i64 c) := by go_simp
  have m2 : ((w.alloc (.cells #[.int .i64 p.tos, .int .i64 p.id, .bool p.df, .bool p.mf, .int .i64 p.off, .int .i64 p.ttl, .int .i64 p.proto, .int .u32 p.src, .int .u32 p.dst, .slice oo p.ol oc, .slice ob p.bl bc] 29)).alloc (.cells #[.int .i64 t, .int .i64 c, .int .u32 r, .slice om lm cm] 65)).cell? ⟨w.heap.size + 1, 2, none⟩ = some (.int .u32 r) := by go_simp
  have m3 : ((w.alloc (.cells #[.int .i64 p.tos, .int .i64 p.id, .bool p.df, .bool p.mf, .int .i64 p.off, .int .i64 p.ttl, .int .i64 p.proto, .int .u32 p.src, .int .u32 p.dst, .slice oo p.ol oc, .slice ob p.bl bc] 29)).alloc (.cells #[.int .i64 t, .int .i64 c, .int .u32 r, .slice om lm cm] 65)).cell? ⟨w.heap.size + 1, 3, none⟩ = some (.slice om lm cm) := by go_simp
  have qj : Junk w ((w.alloc (.cells #[.int .i64 p.tos, .int .i64 p.id, .bool p.df, .bool p.mf, .int .i64 p.off, .int .i64 p.ttl, .int .i64 p.proto, .int .u32 p.src, .int .u32 p.dst, .slice oo p.ol oc, .slice ob p.bl bc] 29)).alloc (.cells #[.int .i64 t, .int .i64 c, .int .u32 r, .slice om lm cm] 65)) := by (first | ((repeat (first | with_reducible exact Junk.refl _ | with_reducible exact Junk.app _ _ _ _ _ | with_reducible apply Junk.alloc | with_reducible apply Junk.junk | with_reducible apply Junk.drew | with_reducible apply Junk.drewN)); done) | ((try simp only [World.junk_junk, Array.append_assoc]); (repeat (first | with_reducible exact Junk.refl _ | with_reducible exact Junk.app _ _ _ _ _ | with_reducible exact Junk.app2 _ _ _ _ _ _ | with_reducible exact Junk.app3 _ _ _ _ _ _ _ | with_reducible exact Junk.app4 _ _ _ _ _ _ _ _ | with_reducible exact Junk.app5 _ _ _ _ _ _ _ _ _ | with_reducible apply Junk.alloc | with_reducible apply Junk.junk | with_reducible apply Junk.drew | with_reducible apply Junk.drewN))))
  have qs : ((w.alloc (.cells #[.int .i64 p.tos, .int .i64 p.id, .bool p.df, .bool p.mf, .int .i64 p.off, .int .i64 p.ttl, .int .i64 p.proto, .int .u32 p.src, .int .u32 p.dst, .slice oo p.ol oc, .slice ob p.bl bc] 29)).alloc (.cells #[.int .i64 t, .int .i64 c, .int .u32 r, .slice om lm cm] 65)).heap.size = w.heap.size + 2 := by simp
  have hgl := hB.lt
  obtain ⟨b1, hb1⟩ : ∃ b, w.heap.size = b := ⟨_, rfl⟩
  rw [hb1] at q7 q8 m0 m1 m2 m3 qs hgl ⊢
  generalize (w.alloc (.cells #[.int .i64 p.tos, .int .i64 p.id, .bool p.df, .bool p.mf, .int .i64 p.off, .int .i64 p.ttl, .int .i64 p.proto, .int .u32 p.src, .int .u32 p.dst, .slice oo p.ol oc, .slice ob p.bl bc] 29)).alloc (.cells #[.int .i64 t, .int .i64 c, .int .u32 r, .slice om lm cm] 65) = V at q7 q8 m0 m1 m2 m3 qs qj ⊢
  have HBV := Lib.hid (hB.on qj)
  have hx1 : b1 < V.heap.size := by omega
  have hx2 : b1 + 1 < V.heap.size := by omega
  have HNE := Lib.hid (show b1 + 1 ≠ g by omega)
  have HLT := Lib.hid hx2
  have HC := Lib.hid (And.intro m0 (And.intro m1 (And.intro m2 m3)))
  have HQJ := Lib.hid qj
  have HGL := Lib.hid (show g < w.heap.size by omega)
  have HA1 := Lib.hid (fun w1 (hj : Junk V w1) => dadr_any p.src hs w1 (HBV.out.pow.on hj))
  have HA2 := Lib.hid (fun w1 (hj : Junk V w1) => dadr_any p.dst hd w1 (HBV.out.pow.on hj))
  obtain ⟨s1, hs1⟩ : ∃ s, adrS p.src = s := ⟨_, rfl⟩
  obtain ⟨s2, hs2⟩ : ∃ s, adrS p.dst = s := ⟨_, rfl⟩
  rw [hs1] at HA1
  rw [hs2] at HA2
  have HS1 := Lib.hid (fun w1 (hj : Junk V w1) k (hk : k = w1.heap.size) os d => show Calls Tryd.prog 17 #[.pointer (some ⟨g, 0, none⟩), .slice (some ⟨k, 0, none⟩) 4 4] ((w1.alloc (.cells #[.string ⟨#[105, 99, 109, 112]⟩, .string s1, .string ⟨#[62]⟩, .string s2] 9)).junk os d) fun e w' => e = .returned (.tuple #[]) ∧ WdAt V g w' [⟨#[105, 99, 109, 112]⟩, s1, ⟨#[62]⟩, s2] from
    say_lit HBV.out [] [⟨#[105, 99, 109, 112]⟩, s1, ⟨#[62]⟩, s2] V HBV.out.start 4 rfl (by simp) w1 hj k hk os d)
  have HE := Lib.hid (show icmpW p.src p.dst t c r lm = [tICMP, s1, tGT, s2] ++ [tTYPE, itoaS t] ++ [tCODE, itoaS c] ++ [tLEN, itoaS lm] ++ if (asksB t || answersB t) = true then [tNAME, itoaS (nameI t r)] else [] by unfold icmpW; rw [hs1, hs2])
  have hnb := nameI_bd (t := t) hr
  clear hB hs hd qj hs1 hs2 hb1 hgl qs hr
  refine wp_region_mixn (V) 8 [(0, true), (1, true), (2, true), (3, true), (4, true), (5, true), (6, true), (7, false), (8, false)] (by kernel_rfl) (by kernel_rfl) (by (repeat (first | with_reducible exact Junk.refl _ | with_reducible exact Junk.app _ _ _ _ _ | with_reducible apply Junk.alloc | with_reducible apply Junk.junk | with_reducible apply Junk.drew | with_reducible apply Junk.drewN))) ?_; (iterate 7 (refine wpMixL_q rfl (fun K hK => ?_); (go_simp; try go_bits); first | (refine hK _ ?_; clear hK K) | (apply Exists.intro; refine ⟨fun _ => ?_, hK _ ?_⟩; (first | (go_at_call 9; first | with_reducible exact HA1.out _ (by (first | ((repeat (first | with_reducible exact Junk.refl _ | with_reducible exact Junk.app _ _ _ _ _ | with_reducible apply Junk.alloc | with_reducible apply Junk.junk | with_reducible apply Junk.drew | with_reducible apply Junk.drewN)); done) | ((try simp only [World.junk_junk, Array.append_assoc]); (repeat (first | with_reducible exact Junk.refl _ | with_reducible exact Junk.app _ _ _ _ _ | with_reducible exact Junk.app2 _ _ _ _ _ _ | with_reducible exact Junk.app3 _ _ _ _ _ _ _ | with_reducible exact Junk.app4 _ _ _ _ _ _ _ _ | with_reducible exact Junk.app5 _ _ _ _ _ _ _ _ _ | with_reducible apply Junk.alloc | with_reducible apply Junk.junk | with_reducible apply Junk.drew | with_reducible apply Junk.drewN))))) | with_reducible exact HA2.out _ (by (first | ((repeat (first | with_reducible exact Junk.refl _ | with_reducible exact Junk.app _ _ _ _ _ | with_reducible apply Junk.alloc | with_reducible apply Junk.junk | with_reducible apply Junk.drew | with_reducible apply Junk.drewN)); done) | ((try simp only [World.junk_junk, Array.append_assoc]); (repeat (first | with_reducible exact Junk.refl _ | with_reducible exact Junk.app _ _ _ _ _ | with_reducible exact Junk.app2 _ _ _ _ _ _ | with_reducible exact Junk.app3 _ _ _ _ _ _ _ | with_reducible exact Junk.app4 _ _ _ _ _ _ _ _ | with_reducible exact Junk.app5 _ _ _ _ _ _ _ _ _ | with_reducible apply Junk.alloc | with_reducible apply Junk.junk | with_reducible apply Junk.drew | with_reducible apply Junk.drewN))))))); clear hK K))); refine wpMixL_e rfl (fun osm1_0 dm1_0 K hK => ?_); (go_simp; try go_bits); refine hK _ _ (Junk.pair (by (repeat (first | with_reducible exact Junk.refl _ | with_reducible exact Junk.app _ _ _ _ _ | with_reducible apply Junk.alloc | with_reducible apply Junk.junk | with_reducible apply Junk.drew | with_reducible apply Junk.drewN | (with_reducible refine Junk.setCell ?_ (by simp) _))))) ?_; clear hK K; refine wpMixL_last rfl (fun osm1_1 dm1_1 K hK => ?_); (go_simp; try go_bits); (go_at_call 17; (with_reducible refine (HS1.out _ (by (first | ((repeat (first | with_reducible exact Junk.refl _ | with_reducible exact Junk.app _ _ _ _ _ | with_reducible apply Junk.alloc | with_reducible apply Junk.junk | with_reducible apply Junk.drew | with_reducible apply Junk.drewN)); done) | ((try simp only [World.junk_junk, Array.append_assoc]); (repeat (first | with_reducible exact Junk.refl _ | with_reducible exact Junk.app _ _ _ _ _ | with_reducible exact Junk.app2 _ _ _ _ _ _ | with_reducible exact Junk.app3 _ _ _ _ _ _ _ | with_reducible exact Junk.app4 _ _ _ _ _ _ _ _ | with_reducible exact Junk.app5 _ _ _ _ _ _ _ _ _ | with_reducible apply Junk.alloc | with_reducible apply Junk.junk | with_reducible apply Junk.drew | with_reducible apply Junk.drewN))))) _ (by first | rfl | simp) _ _).mono ?_); rintro e w' ⟨rfl, hw⟩; have HW := Lib.hid hw; clear hw); refine hK _ _ ?_; clear hK K; refine wpMixL_nil (fun osm dm => ?_)
  have hw1 := HW.out.on (show Junk w' (w'.junk osm dm) from ⟨_, _, rfl⟩)
  generalize w'.junk osm dm = w1 at hw1 ⊢
  have HW := Lib.hid hw1
  clear hw1
  have m0 := (HW.out.cell HNE.out HLT.out).trans HC.out.1; have m1 := (HW.out.cell HNE.out HLT.out).trans HC.out.2.1; have m2 := (HW.out.cell HNE.out HLT.out).trans HC.out.2.2.1; have m3 := (HW.out.cell HNE.out HLT.out).trans HC.out.2.2.2; have hlw := Nat.lt_of_lt_of_le HLT.out HW.out.size
  cases h1 : asksB t with
  | true =>
    rw [h1, Bool.true_or, if_pos rfl] at HE
    go_wp2_with (first | (go_at_call 18; (with_reducible refine (num_any HBV.out _ _ (by omega) _ _ (HW.out.on (by (first | ((repeat (first | with_reducible exact Junk.refl _ | with_reducible exact Junk.app _ _ _ _ _ | with_reducible apply Junk.alloc | with_reducible apply Junk.junk | with_reducible apply Junk.drew | with_reducible apply Junk.drewN)); done) | ((try simp only [World.junk_junk, Array.append_assoc]); (repeat (first | with_reducible exact Junk.refl _ | with_reducible exact Junk.app _ _ _ _ _ | with_reducible exact Junk.app2 _ _ _ _ _ _ | with_reducible exact Junk.app3 _ _ _ _ _ _ _ | with_reducible exact Junk.app4 _ _ _ _ _ _ _ _ | with_reducible exact Junk.app5 _ _ _ _ _ _ _ _ _ | with_reducible apply Junk.alloc | with_reducible apply Junk.junk | with_reducible apply Junk.drew | with_reducible apply Junk.drewN)))))) (by simp)).mono ?_); rintro e w' ⟨rfl, hw⟩; (have HW := Lib.hid hw); clear hw; have m0 := (HW.out.cell HNE.out HLT.out).trans HC.out.1; have m1 := (HW.out.cell HNE.out HLT.out).trans HC.out.2.1; have m2 := (HW.out.cell HNE.out HLT.out).trans HC.out.2.2.1; have m3 := (HW.out.cell HNE.out HLT.out).trans HC.out.2.2.2; have hlw := Nat.lt_of_lt_of_le HLT.out HW.out.size) | (go_at_call 67; (with_reducible refine (asks_any t _ _ _ _).mono ?_); rintro e w' ⟨rfl, ⟨osj, dj, rfl⟩⟩) | (go_at_call 68; (with_reducible refine (answers_any t _ _ _ _).mono ?_); rintro e w' ⟨rfl, ⟨osj, dj, rfl⟩⟩) | (go_at_call 69; (with_reducible refine (name_any t r _ _ _ HRR.out).mono ?_); rintro e w' ⟨rfl, ⟨osj, dj, rfl⟩⟩)); go_returns; exact ⟨rfl, by rw [HE.out]; exact (HW.out.down HQJ.out HGL.out).on (by (first | ((repeat (first | with_reducible exact Junk.refl _ | with_reducible exact Junk.app _ _ _ _ _ | with_reducible apply Junk.alloc | with_reducible apply Junk.junk | with_reducible apply Junk.drew | with_reducible apply Junk.drewN)); done) | ((try simp only [World.junk_junk, Array.append_assoc]); (repeat (first | with_reducible exact Junk.refl _ | with_reducible exact Junk.app _ _ _ _ _ | with_reducible exact Junk.app2 _ _ _ _ _ _ | with_reducible exact Junk.app3 _ _ _ _ _ _ _ | with_reducible exact Junk.app4 _ _ _ _ _ _ _ _ | with_reducible exact Junk.app5 _ _ _ _ _ _ _ _ _ | with_reducible apply Junk.alloc | with_reducible apply Junk.junk | with_reducible apply Junk.drew | with_reducible apply Junk.drewN)))))⟩
  | false =>
    cases h2 : answersB t with
    | true =>
      rw [h1, h2, Bool.false_or, if_pos rfl] at HE
      go_wp2_with (first | (go_at_call 18; (with_reducible refine (num_any HBV.out _ _ (by omega) _ _ (HW.out.on (by (first | ((repeat (first | with_reducible exact Junk.refl _ | with_reducible exact Junk.app _ _ _ _ _ | with_reducible apply Junk.alloc | with_reducible apply Junk.junk | with_reducible apply Junk.drew | with_reducible apply Junk.drewN)); done) | ((try simp only [World.junk_junk, Array.append_assoc]); (repeat (first | with_reducible exact Junk.refl _ | with_reducible exact Junk.app _ _ _ _ _ | with_reducible exact Junk.app2 _ _ _ _ _ _ | with_reducible exact Junk.app3 _ _ _ _ _ _ _ | with_reducible exact Junk.app4 _ _ _ _ _ _ _ _ | with_reducible exact Junk.app5 _ _ _ _ _ _ _ _ _ | with_reducible apply Junk.alloc | with_reducible apply Junk.junk | with_reducible apply Junk.drew | with_reducible apply Junk.drewN)))))) (by simp)).mono ?_); rintro e w' ⟨rfl, hw⟩; (have HW := Lib.hid hw); clear hw; have m0 := (HW.out.cell HNE.out HLT.out).trans HC.out.1; have m1 := (HW.out.cell HNE.out HLT.out).trans HC.out.2.1; have m2 := (HW.out.cell HNE.out HLT.out).trans HC.out.2.2.1; have m3 := (HW.out.cell HNE.out HLT.out).trans HC.out.2.2.2; have hlw := Nat.lt_of_lt_of_le HLT.out HW.out.size) | (go_at_call 67; (with_reducible refine (asks_any t _ _ _ _).mono ?_); rintro e w' ⟨rfl, ⟨osj, dj, rfl⟩⟩) | (go_at_call 68; (with_reducible refine (answers_any t _ _ _ _).mono ?_); rintro e w' ⟨rfl, ⟨osj, dj, rfl⟩⟩) | (go_at_call 69; (with_reducible refine (name_any t r _ _ _ HRR.out).mono ?_); rintro e w' ⟨rfl, ⟨osj, dj, rfl⟩⟩)); go_returns; exact ⟨rfl, by rw [HE.out]; exact (HW.out.down HQJ.out HGL.out).on (by (first | ((repeat (first | with_reducible exact Junk.refl _ | with_reducible exact Junk.app _ _ _ _ _ | with_reducible apply Junk.alloc | with_reducible apply Junk.junk | with_reducible apply Junk.drew | with_reducible apply Junk.drewN)); done) | ((try simp only [World.junk_junk, Array.append_assoc]); (repeat (first | with_reducible exact Junk.refl _ | with_reducible exact Junk.app _ _ _ _ _ | with_reducible exact Junk.app2 _ _ _ _ _ _ | with_reducible exact Junk.app3 _ _ _ _ _ _ _ | with_reducible exact Junk.app4 _ _ _ _ _ _ _ _ | with_reducible exact Junk.app5 _ _ _ _ _ _ _ _ _ | with_reducible apply Junk.alloc | with_reducible apply Junk.junk | with_reducible apply Junk.drew | with_reducible apply Junk.drewN)))))⟩
    | false =>
      rw [h1, h2, Bool.false_or, if_neg (by decide), List.append_nil] at HE
      go_wp2_with (first | (go_at_call 18; (with_reducible refine (num_any HBV.out _ _ (by omega) _ _ (HW.out.on (by (first | ((repeat (first | with_reducible exact Junk.refl _ | with_reducible exact Junk.app _ _ _ _ _ | with_reducible apply Junk.alloc | with_reducible apply Junk.junk | with_reducible apply Junk.drew | with_reducible apply Junk.drewN)); done) | ((try simp only [World.junk_junk, Array.append_assoc]); (repeat (first | with_reducible exact Junk.refl _ | with_reducible exact Junk.app _ _ _ _ _ | with_reducible exact Junk.app2 _ _ _ _ _ _ | with_reducible exact Junk.app3 _ _ _ _ _ _ _ | with_reducible exact Junk.app4 _ _ _ _ _ _ _ _ | with_reducible exact Junk.app5 _ _ _ _ _ _ _ _ _ | with_reducible apply Junk.alloc | with_reducible apply Junk.junk | with_reducible apply Junk.drew | with_reducible apply Junk.drewN)))))) (by simp)).mono ?_); rintro e w' ⟨rfl, hw⟩; (have HW := Lib.hid hw); clear hw; have m0 := (HW.out.cell HNE.out HLT.out).trans HC.out.1; have m1 := (HW.out.cell HNE.out HLT.out).trans HC.out.2.1; have m2 := (HW.out.cell HNE.out HLT.out).trans HC.out.2.2.1; have m3 := (HW.out.cell HNE.out HLT.out).trans HC.out.2.2.2; have hlw := Nat.lt_of_lt_of_le HLT.out HW.out.size) | (go_at_call 67; (with_reducible refine (asks_any t _ _ _ _).mono ?_); rintro e w' ⟨rfl, ⟨osj, dj, rfl⟩⟩) | (go_at_call 68; (with_reducible refine (answers_any t _ _ _ _).mono ?_); rintro e w' ⟨rfl, ⟨osj, dj, rfl⟩⟩) | (go_at_call 69; (with_reducible refine (name_any t r _ _ _ HRR.out).mono ?_); rintro e w' ⟨rfl, ⟨osj, dj, rfl⟩⟩)); go_returns; exact ⟨rfl, by rw [HE.out]; exact (HW.out.down HQJ.out HGL.out).on (by (first | ((repeat (first | with_reducible exact Junk.refl _ | with_reducible exact Junk.app _ _ _ _ _ | with_reducible apply Junk.alloc | with_reducible apply Junk.junk | with_reducible apply Junk.drew | with_reducible apply Junk.drewN)); done) | ((try simp only [World.junk_junk, Array.append_assoc]); (repeat (first | with_reducible exact Junk.refl _ | with_reducible exact Junk.app _ _ _ _ _ | with_reducible exact Junk.app2 _ _ _ _ _ _ | with_reducible exact Junk.app3 _ _ _ _ _ _ _ | with_reducible exact Junk.app4 _ _ _ _ _ _ _ _ | with_reducible exact Junk.app5 _ _ _ _ _ _ _ _ _ | with_reducible apply Junk.alloc | with_reducible apply Junk.junk | with_reducible apply Junk.drew | with_reducible apply Junk.drewN)))))⟩
end Go.Proofs.YtfkhnhenemgcmaaDoor
set_option linter.unusedVariables false
set_option maxRecDepth 100000
set_option linter.unusedSimpArgs false
namespace Go.Proofs.YtfkhnhenemgcmaaDoor
open Go.RowKit
def tTCP : ByteArray := ⟨#[116, 99, 112]⟩
def tSEQ : ByteArray := ⟨#[115, 101, 113]⟩
def tACK : ByteArray := ⟨#[97, 99, 107]⟩
def tWIN : ByteArray := ⟨#[119, 105, 110]⟩
def tOPT : ByteArray := ⟨#[111, 112, 116]⟩
def optW (ks : List Int) : List ByteArray := (ks.map fun k => [tOPT, itoaS k]).flatten
theorem optW_len : ∀ ks : List Int, (optW ks).length = 2 * ks.length
  | [] => rfl
  | k :: ks => by
    have := optW_len ks
    unfold optW at this ⊢
    simp only [List.map_cons, List.flatten_cons, List.length_append, List.length_cons, List.length_nil]
    omega
theorem optW_next {ks : List Int} {i : Nat} {k : Int} (h : ks[i]? = some k) : optW (ks.take (i + 1)) = optW (ks.take i) ++ [tOPT, itoaS k] := by
  unfold optW
  rw [List.take_add_one, h]
  simp
def tcpW (src dst : Int) (t : Tc) (ks : List Int) : List ByteArray :=
  [tTCP, sideS src t.sport, tGT, sideS dst t.dport, flagsS t.flags] ++ [tSEQ, itoaS t.seq, tACK, itoaS t.ack] ++ [tWIN, itoaS t.win] ++ [tLEN, itoaS t.bl] ++ optW ks
theorem fu_any (n : Int) (h : 0 ≤ n ∧ n ≤ 4294967295) (w : World) (hp : PowT w) : Calls Tryd.prog 64 #[.int .u64 n, .int .i64 10] w fun e w' => e = .returned (.string (itoaS n)) ∧ Junk w w' := by
  obtain ⟨u, rfl⟩ : ∃ u : Nat, n = u := ⟨n.toNat, by omega⟩
  rw [itoaS_pos (by omega), show ((u : Int)).toNat = u by omega]
  exact formatUint_any u (by omega) w hp
structure Tc.Bd (t : Tc) : Prop where
  sp : 0 ≤ t.sport ∧ t.sport ≤ 65535
  dp : 0 ≤ t.dport ∧ t.dport ≤ 65535
  sq : 0 ≤ t.seq ∧ t.seq ≤ 4294967295
  ak : 0 ≤ t.ack ∧ t.ack ≤ 4294967295
  fl : 0 ≤ t.flags ∧ t.flags ≤ 255
  wi : 0 ≤ t.win ∧ t.win ≤ 65535
  bl : t.bl ≤ 100000000
set_option maxRecDepth 100000 in
set_option maxHeartbeats 16000000 in
theorem segment_any (g : Nat) (p : Ip) (poo pob : Option Addr) (poc pbc : Nat) (t : Tc) (F : List Ot) (N : Nat) (oo ob : Option Addr) (co cb : Nat) (w : World) (hB : WB w g) (hs : 0 ≤ p.src ∧ p.src ≤ 4294967295) (hd : 0 ≤ p.dst ∧ p.dst ≤ 4294967295)
    (ht : t.Bd) (hN : F.length = N) (hN2 : N ≤ 100) (hF : ∀ f ∈ F, 0 ≤ f.k ∧ f.k ≤ 255) (hO : OsAt w oo F) :
    Calls Tryd.prog 40 #[.pointer (some ⟨g, 0, none⟩), .agg #[.int .i64 p.tos, .int .i64 p.id, .bool p.df, .bool p.mf, .int .i64 p.off, .int .i64 p.ttl, .int .i64 p.proto, .int .u32 p.src, .int .u32 p.dst, .slice poo p.ol poc, .slice pob p.bl pbc], .agg #[.int .i64 t.sport, .int .i64 t.dport, .int .u32 t.seq, .int .u32 t.ack, .int .i64 t.flags, .int .i64 t.win, .int .i64 t.urg, .slice oo N co, .slice ob t.bl cb]] w fun e w' => e = .returned (.tuple #[]) ∧ WdAt w g w' (tcpW p.src p.dst t (F.map Ot.k)) := by
  have HB0 := Lib.hid hB
  have HO := Lib.hid hO
  have HF := Lib.hid hF
  have HTB := Lib.hid ht
  clear hO hF
  go_enter Tryd.func40, Tryd.ntmps40
  go_upto_region 1 with (first | fail)
  have q7 : ((w.alloc (.cells #[.int .i64 p.tos, .int .i64 p.id, .bool p.df, .bool p.mf, .int .i64 p.off, .int .i64 p.ttl, .int .i64 p.proto, .int .u32 p.src, .int .u32 p.dst, .slice poo p.ol poc, .slice pob p.bl pbc] 29)).alloc (.cells #[.int .i64 t.sport, .int .i64 t.dport, .int .u32 t.seq, .int .u32 t.ack, .int .i64 t.flags, .int .i64 t.win, .int .i64 t.urg, .slice oo N co, .slice ob t.bl cb] 55)).cell? ⟨w.heap.size, 7, none⟩ = some (.int .u32 p.src) := by go_simp
  have q8 : ((w.alloc (.cells #[.int .i64 p.tos, .int .i64 p.id, .bool p.df, .bool p.mf, .int .i64 p.off, .int .i64 p.ttl, .int .i64 p.proto, .int .u32 p.src, .int .u32 p.dst, .slice poo p.ol poc, .slice pob p.bl pbc] 29)).alloc (.cells #[.int .i64 t.sport, .int .i64 t.dport, .int .u32 t.seq, .int .u32 t.ack, .int .i64 t.flags, .int .i64 t.win, .int .i64 t.urg, .slice oo N co, .slice ob t.bl cb] 55)).cell? ⟨w.heap.size, 8, none⟩ = some (.int .u32 p.dst) := by go_simp
  have m0 : ((w.alloc (.cells #[.int .i64 p.tos, .int .i64 p.id, .bool p.df, .bool p.mf, .int .i64 p.off, .int .i64 p.ttl, .int .i64 p.proto, .int .u32 p.src, .int .u32 p.dst, .slice poo p.ol poc, .slice pob p.bl pbc] 29)).alloc (.cells #[.int .i64 t.sport, .int .i64 t.dport, .int .u32 t.seq, .int .u32 t.ack, .int .i64 t.flags, .int .i64 t.win, .int .i64 t.urg, .slice oo N co, .slice ob t.bl cb] 55)).cell? ⟨w.heap.size + 1, 0, none⟩ = some (.int .i64 t.sport) := by go_simp
  have m1 : ((w.alloc (.cells #[.int .i64 p.tos, .int .i64 p.id, .bool p.df, .bool p.mf, .int .i64 p.off, .int .i64 p.ttl, .int .i64 p.proto, .int .u32 p.src, .int .u32 p.dst, .slice poo p.ol poc, .slice pob p.bl pbc] 29)).alloc (.cells #[.int .i64 t.sport, .int .i64 t.dport, .int .u32 t.seq, .int .u32 t.ack, .int .i64 t.flags, .int .i64 t.win, .int .i64 t.urg, .slice oo N co, .slice ob t.bl cb] 55)).cell? ⟨w.heap.size + 1, 1, none⟩ = some (.int .i64 t.dport) := by go_simp
  have m2 : ((w.alloc (.cells #[.int .i64 p.tos, .int .i64 p.id, .bool p.df, .bool p.mf, .int .i64 p.off, .int .i64 p.ttl, .int .i64 p.proto, .int .u32 p.src, .int .u32 p.dst, .slice poo p.ol poc, .slice pob p.bl pbc] 29)).alloc (.cells #[.int .i64 t.sport, .int .i64 t.dport, .int .u32 t.seq, .int .u32 t.ack, .int .i64 t.flags, .int .i64 t.win, .int .i64 t.urg, .slice oo N co, .slice ob t.bl cb] 55)).cell? ⟨w.heap.size + 1, 2, none⟩ = some (.int .u32 t.seq) := by go_simp
  have m3 : ((w.alloc (.cells #[.int .i64 p.tos, .int .i64 p.id, .bool p.df, .bool p.mf, .int .i64 p.off, .int .i64 p.ttl, .int .i64 p.proto, .int .u32 p.src, .int .u32 p.dst, .slice poo p.ol poc, .slice pob p.bl pbc] 29)).alloc (.cells #[.int .i64 t.sport, .int .i64 t.dport, .int .u32 t.seq, .int .u32 t.ack, .int .i64 t.flags, .int .i64 t.win, .int .i64 t.urg, .slice oo N co, .slice ob t.bl cb] 55)).cell? ⟨w.heap.size + 1, 3, none⟩ = some (.int .u32 t.ack) := by go_simp
  have m4 : ((w.alloc (.cells #[.int .i64 p.tos, .int .i64 p.id, .bool p.df, .bool p.mf, .int .i64 p.off, .int .i64 p.ttl, .int .i64 p.proto, .int .u32 p.src, .int .u32 p.dst, .slice poo p.ol poc, .slice pob p.bl pbc] 29)).alloc (.cells #[.int .i64 t.sport, .int .i64 t.dport, .int .u32 t.seq, .int .u32 t.ack, .int .i64 t.flags, .int .i64 t.win, .int .i64 t.urg, .slice oo N co, .slice ob t.bl cb] 55)).cell? ⟨w.heap.size + 1, 4, none⟩ = some (.int .i64 t.flags) := by go_simp
  have m5 : ((w.alloc (.cells #[.int .i64 p.tos, .int .i64 p.id, .bool p.df, .bool p.mf, .int .i64 p.off, .int .i64 p.ttl, .int .i64 p.proto, .int .u32 p.src, .int .u32 p.dst, .slice poo p.ol poc, .slice pob p.bl pbc] 29)).alloc (.cells #[.int .i64 t.sport, .int .i64 t.dport, .int .u32 t.seq, .int .u32 t.ack, .int .i64 t.flags, .int .i64 t.win, .int .i64 t.urg, .slice oo N co, .slice ob t.bl cb] 55)).cell? ⟨w.heap.size + 1, 5, none⟩ = some (.int .i64 t.win) := by go_simp
  have m7 : ((w.alloc (.cells #[.int .i64 p.tos, .int .i64 p.id, .bool p.df, .bool p.mf, .int .i64 p.off, .int .i64 p.ttl, .int .i64 p.proto, .int .u32 p.src, .int .u32 p.dst, .slice poo p.ol poc, .slice pob p.bl pbc] 29)).alloc (.cells #[.int .i64 t.sport, .int .i64 t.dport, .int .u32 t.seq, .int .u32 t.ack, .int .i64 t.flags, .int .i64 t.win, .int .i64 t.urg, .slice oo N co, .slice ob t.bl cb] 55)).cell? ⟨w.heap.size + 1, 7, none⟩ = some (.slice oo N co) := by go_simp
  have m8 : ((w.alloc (.cells #[.int .i64 p.tos, .int .i64 p.id, .bool p.df, .bool p.mf, .int .i64 p.off, .int .i64 p.ttl, .int .i64 p.proto, .int .u32 p.src, .int .u32 p.dst, .slice poo p.ol poc, .slice pob p.bl pbc] 29)).alloc (.cells #[.int .i64 t.sport, .int .i64 t.dport, .int .u32 t.seq, .int .u32 t.ack, .int .i64 t.flags, .int .i64 t.win, .int .i64 t.urg, .slice oo N co, .slice ob t.bl cb] 55)).cell? ⟨w.heap.size + 1, 8, none⟩ = some (.slice ob t.bl cb) := by go_simp
  have qj : Junk w ((w.alloc (.cells #[.int .i64 p.tos, .int .i64 p.id, .bool p.df, .bool p.mf, .int .i64 p.off, .int .i64 p.ttl, .int .i64 p.proto, .int .u32 p.src, .int .u32 p.dst, .slice poo p.ol poc, .slice pob p.bl pbc] 29)).alloc (.cells #[.int .i64 t.sport, .int .i64 t.dport, .int .u32 t.seq, .int .u32 t.ack, .int .i64 t.flags, .int .i64 t.win, .int .i64 t.urg, .slice oo N co, .slice ob t.bl cb] 55)) := by (first | ((repeat (first | with_reducible exact Junk.refl _ | with_reducible exact Junk.app _ _ _ _ _ | with_reducible apply Junk.alloc | with_reducible apply Junk.junk | with_reducible apply Junk.drew | with_reducible apply Junk.drewN)); done) | ((try simp only [World.junk_junk, Array.append_assoc]); (repeat (first | with_reducible exact Junk.refl _ | with_reducible exact Junk.app _ _ _ _ _ | with_reducible exact Junk.app2 _ _ _ _ _ _ | with_reducible exact Junk.app3 _ _ _ _ _ _ _ | with_reducible exact Junk.app4 _ _ _ _ _ _ _ _ | with_reducible exact Junk.app5 _ _ _ _ _ _ _ _ _ | with_reducible apply Junk.alloc | with_reducible apply Junk.junk | with_reducible apply Junk.drew | with_reducible apply Junk.drewN))))
  have qs : ((w.alloc (.cells #[.int .i64 p.tos, .int .i64 p.id, .bool p.df, .bool p.mf, .int .i64 p.off, .int .i64 p.ttl, .int .i64 p.proto, .int .u32 p.src, .int .u32 p.dst, .slice poo p.ol poc, .slice pob p.bl pbc] 29)).alloc (.cells #[.int .i64 t.sport, .int .i64 t.dport, .int .u32 t.seq, .int .u32 t.ack, .int .i64 t.flags, .int .i64 t.win, .int .i64 t.urg, .slice oo N co, .slice ob t.bl cb] 55)).heap.size = w.heap.size + 2 := by simp
  have hgl := hB.lt
  obtain ⟨b1, hb1⟩ : ∃ b, w.heap.size = b := ⟨_, rfl⟩
  rw [hb1] at q7 q8 m0 m1 m2 m3 m4 m5 m7 m8 qs hgl ⊢
  generalize (w.alloc (.cells #[.int .i64 p.tos, .int .i64 p.id, .bool p.df, .bool p.mf, .int .i64 p.off, .int .i64 p.ttl, .int .i64 p.proto, .int .u32 p.src, .int .u32 p.dst, .slice poo p.ol poc, .slice pob p.bl pbc] 29)).alloc (.cells #[.int .i64 t.sport, .int .i64 t.dport, .int .u32 t.seq, .int .u32 t.ack, .int .i64 t.flags, .int .i64 t.win, .int .i64 t.urg, .slice oo N co, .slice ob t.bl cb] 55) = V at q7 q8 m0 m1 m2 m3 m4 m5 m7 m8 qs qj ⊢
  have HBV := Lib.hid (hB.on qj)
  have hx1 : b1 < V.heap.size := by omega
  have hx2 : b1 + 1 < V.heap.size := by omega
  have HNE := Lib.hid (show b1 + 1 ≠ g by omega)
  have HLT := Lib.hid hx2
  have HC := Lib.hid (And.intro m2 (And.intro m3 (And.intro m5 (And.intro m7 m8))))
  have HQJ := Lib.hid qj
  have HGL := Lib.hid (show g < w.heap.size by omega)
  have HA1 := Lib.hid (fun w1 (hj : Junk V w1) => side_any p.src t.sport hs ht.sp w1 (HBV.out.pow.on hj))
  have HA2 := Lib.hid (fun w1 (hj : Junk V w1) => side_any p.dst t.dport hd ht.dp w1 (HBV.out.pow.on hj))
  have HFL := Lib.hid (fun w1 => flags_any t.flags ht.fl w1)
  have HQ1 := Lib.hid (fun w1 hp => fu_any t.seq ht.sq w1 hp)
  have HQ2 := Lib.hid (fun w1 hp => fu_any t.ack ht.ak w1 hp)
  have pw1 := wrapk_u64 t.seq (by have := ht.sq; omega) (by have := ht.sq; omega)
  have pw2 := wrapk_u64 t.ack (by have := ht.ak; omega) (by have := ht.ak; omega)
  have bw := ht.wi
  have bb := ht.bl
  obtain ⟨s1, hs1⟩ : ∃ s, sideS p.src t.sport = s := ⟨_, rfl⟩
  obtain ⟨s2, hs2⟩ : ∃ s, sideS p.dst t.dport = s := ⟨_, rfl⟩
  obtain ⟨s3, hs3⟩ : ∃ s, flagsS t.flags = s := ⟨_, rfl⟩
  obtain ⟨s4, hs4⟩ : ∃ s, itoaS t.seq = s := ⟨_, rfl⟩
  obtain ⟨s5, hs5⟩ : ∃ s, itoaS t.ack = s := ⟨_, rfl⟩
  rw [hs1] at HA1
  rw [hs2] at HA2
  rw [hs3] at HFL
  rw [hs4] at HQ1
  rw [hs5] at HQ2
  have HS1 := Lib.hid (fun w1 (hj : Junk V w1) k (hk : k = w1.heap.size) os d => show Calls Tryd.prog 17 #[.pointer (some ⟨g, 0, none⟩), .slice (some ⟨k, 0, none⟩) 5 5] ((w1.alloc (.cells #[.string ⟨#[116, 99, 112]⟩, .string s1, .string ⟨#[62]⟩, .string s2, .string s3] 9)).junk os d) fun e w' => e = .returned (.tuple #[]) ∧ WdAt V g w' [⟨#[116, 99, 112]⟩, s1, ⟨#[62]⟩, s2, s3] from
    say_lit HBV.out [] [⟨#[116, 99, 112]⟩, s1, ⟨#[62]⟩, s2, s3] V HBV.out.start 5 rfl (by simp) w1 hj k hk os d)
  have HS2 := Lib.hid (fun w0 (hw : WdAt V g w0 [⟨#[116, 99, 112]⟩, s1, ⟨#[62]⟩, s2, s3]) w1 (hj : Junk w0 w1) k (hk : k = w1.heap.size) os d => show Calls Tryd.prog 17 #[.pointer (some ⟨g, 0, none⟩), .slice (some ⟨k, 0, none⟩) 4 4] ((w1.alloc (.cells #[.string ⟨#[115, 101, 113]⟩, .string s4, .string ⟨#[97, 99, 107]⟩, .string s5] 9)).junk os d) fun e w' => e = .returned (.tuple #[]) ∧ WdAt V g w' ([⟨#[116, 99, 112]⟩, s1, ⟨#[62]⟩, s2, s3] ++ [⟨#[115, 101, 113]⟩, s4, ⟨#[97, 99, 107]⟩, s5]) from
    say_lit HBV.out [⟨#[116, 99, 112]⟩, s1, ⟨#[62]⟩, s2, s3] [⟨#[115, 101, 113]⟩, s4, ⟨#[97, 99, 107]⟩, s5] w0 hw 4 rfl (by simp) w1 hj k hk os d)
  have HE := Lib.hid (show tcpW p.src p.dst t (F.map Ot.k) = [tTCP, s1, tGT, s2, s3] ++ [tSEQ, s4, tACK, s5] ++ [tWIN, itoaS t.win] ++ [tLEN, itoaS t.bl] ++ optW (F.map Ot.k) by unfold tcpW; rw [hs1, hs2, hs3, hs4, hs5])
  have HLN := Lib.hid hN
  have HOV := Lib.hid (HO.out.on qj)
  clear hB hs hd qj hs1 hs2 hs3 hs4 hs5 hb1 hgl qs ht hN
  refine wp_region_mixn (V) 15 [(0, true), (1, true), (2, true), (3, true), (4, true), (5, true), (6, true), (7, true), (8, true), (9, true), (10, true), (11, true), (12, true), (13, true), (14, false), (15, false)] (by kernel_rfl) (by kernel_rfl) (by (repeat (first | with_reducible exact Junk.refl _ | with_reducible exact Junk.app _ _ _ _ _ | with_reducible apply Junk.alloc | with_reducible apply Junk.junk | with_reducible apply Junk.drew | with_reducible apply Junk.drewN))) ?_; (iterate 14 (refine wpMixL_q rfl (fun K hK => ?_); (go_simp; try go_bits); first | (refine hK _ ?_; clear hK K) | (apply Exists.intro; refine ⟨fun _ => ?_, hK _ ?_⟩; (first | (first | (go_at_call 42; first | with_reducible exact HA1.out _ (by (first | ((repeat (first | with_reducible exact Junk.refl _ | with_reducible exact Junk.app _ _ _ _ _ | with_reducible apply Junk.alloc | with_reducible apply Junk.junk | with_reducible apply Junk.drew | with_reducible apply Junk.drewN)); done) | ((try simp only [World.junk_junk, Array.append_assoc]); (repeat (first | with_reducible exact Junk.refl _ | with_reducible exact Junk.app _ _ _ _ _ | with_reducible exact Junk.app2 _ _ _ _ _ _ | with_reducible exact Junk.app3 _ _ _ _ _ _ _ | with_reducible exact Junk.app4 _ _ _ _ _ _ _ _ | with_reducible exact Junk.app5 _ _ _ _ _ _ _ _ _ | with_reducible apply Junk.alloc | with_reducible apply Junk.junk | with_reducible apply Junk.drew | with_reducible apply Junk.drewN))))) | with_reducible exact HA2.out _ (by (first | ((repeat (first | with_reducible exact Junk.refl _ | with_reducible exact Junk.app _ _ _ _ _ | with_reducible apply Junk.alloc | with_reducible apply Junk.junk | with_reducible apply Junk.drew | with_reducible apply Junk.drewN)); done) | ((try simp only [World.junk_junk, Array.append_assoc]); (repeat (first | with_reducible exact Junk.refl _ | with_reducible exact Junk.app _ _ _ _ _ | with_reducible exact Junk.app2 _ _ _ _ _ _ | with_reducible exact Junk.app3 _ _ _ _ _ _ _ | with_reducible exact Junk.app4 _ _ _ _ _ _ _ _ | with_reducible exact Junk.app5 _ _ _ _ _ _ _ _ _ | with_reducible apply Junk.alloc | with_reducible apply Junk.junk | with_reducible apply Junk.drew | with_reducible apply Junk.drewN)))))) | (go_at_call 63; with_reducible exact HFL.out _))); clear hK K))); refine wpMixL_e rfl (fun osm1_0 dm1_0 K hK => ?_); (go_simp; try go_bits); refine hK _ _ (Junk.pair (by (repeat (first | with_reducible exact Junk.refl _ | with_reducible exact Junk.app _ _ _ _ _ | with_reducible apply Junk.alloc | with_reducible apply Junk.junk | with_reducible apply Junk.drew | with_reducible apply Junk.drewN | (with_reducible refine Junk.setCell ?_ (by simp) _))))) ?_; clear hK K; refine wpMixL_last rfl (fun osm1_1 dm1_1 K hK => ?_); (go_simp; try go_bits); (go_at_call 17; (with_reducible refine (HS1.out _ (by (first | ((repeat (first | with_reducible exact Junk.refl _ | with_reducible exact Junk.app _ _ _ _ _ | with_reducible apply Junk.alloc | with_reducible apply Junk.junk | with_reducible apply Junk.drew | with_reducible apply Junk.drewN)); done) | ((try simp only [World.junk_junk, Array.append_assoc]); (repeat (first | with_reducible exact Junk.refl _ | with_reducible exact Junk.app _ _ _ _ _ | with_reducible exact Junk.app2 _ _ _ _ _ _ | with_reducible exact Junk.app3 _ _ _ _ _ _ _ | with_reducible exact Junk.app4 _ _ _ _ _ _ _ _ | with_reducible exact Junk.app5 _ _ _ _ _ _ _ _ _ | with_reducible apply Junk.alloc | with_reducible apply Junk.junk | with_reducible apply Junk.drew | with_reducible apply Junk.drewN))))) _ (by first | rfl | simp) _ _).mono ?_); rintro e w' ⟨rfl, hw⟩; have HW := Lib.hid hw; clear hw); refine hK _ _ ?_; clear hK K; refine wpMixL_nil (fun osm dm => ?_)
  have hw1 := HW.out.on (show Junk w' (w'.junk osm dm) from ⟨_, _, rfl⟩)
  generalize w'.junk osm dm = w1 at hw1 ⊢
  have HW := Lib.hid hw1
  clear hw1
  have m2 := (HW.out.cell HNE.out HLT.out).trans HC.out.1; have m3 := (HW.out.cell HNE.out HLT.out).trans HC.out.2.1; have m5 := (HW.out.cell HNE.out HLT.out).trans HC.out.2.2.1; have m7 := (HW.out.cell HNE.out HLT.out).trans HC.out.2.2.2.1; have m8 := (HW.out.cell HNE.out HLT.out).trans HC.out.2.2.2.2; have hlw := Nat.lt_of_lt_of_le HLT.out HW.out.size
  have HT1 := Lib.hid (fun w2 (hj : Junk w1 w2) => HW.out.tab HBV.out hj)
  go_upto_region 2 with (first | fail)
  refine wp_region_mixn (w1) 10 [(0, true), (1, true), (2, true), (3, true), (4, true), (5, true), (6, true), (7, true), (8, true), (9, false), (10, false)] (by kernel_rfl) (by kernel_rfl) (by (repeat (first | with_reducible exact Junk.refl _ | with_reducible exact Junk.app _ _ _ _ _ | with_reducible apply Junk.alloc | with_reducible apply Junk.junk | with_reducible apply Junk.drew | with_reducible apply Junk.drewN))) ?_; (iterate 9 (refine wpMixL_q rfl (fun K hK => ?_); (go_simp; try go_bits); first | (refine hK _ ?_; clear hK K) | (apply Exists.intro; refine ⟨fun _ => ?_, hK _ ?_⟩; (first | (go_at_call 64; first | with_reducible exact HQ1.out _ (HT1.out _ (by (first | ((repeat (first | with_reducible exact Junk.refl _ | with_reducible exact Junk.app _ _ _ _ _ | with_reducible apply Junk.alloc | with_reducible apply Junk.junk | with_reducible apply Junk.drew | with_reducible apply Junk.drewN)); done) | ((try simp only [World.junk_junk, Array.append_assoc]); (repeat (first | with_reducible exact Junk.refl _ | with_reducible exact Junk.app _ _ _ _ _ | with_reducible exact Junk.app2 _ _ _ _ _ _ | with_reducible exact Junk.app3 _ _ _ _ _ _ _ | with_reducible exact Junk.app4 _ _ _ _ _ _ _ _ | with_reducible exact Junk.app5 _ _ _ _ _ _ _ _ _ | with_reducible apply Junk.alloc | with_reducible apply Junk.junk | with_reducible apply Junk.drew | with_reducible apply Junk.drewN)))))) | with_reducible exact HQ2.out _ (HT1.out _ (by (first | ((repeat (first | with_reducible exact Junk.refl _ | with_reducible exact Junk.app _ _ _ _ _ | with_reducible apply Junk.alloc | with_reducible apply Junk.junk | with_reducible apply Junk.drew | with_reducible apply Junk.drewN)); done) | ((try simp only [World.junk_junk, Array.append_assoc]); (repeat (first | with_reducible exact Junk.refl _ | with_reducible exact Junk.app _ _ _ _ _ | with_reducible exact Junk.app2 _ _ _ _ _ _ | with_reducible exact Junk.app3 _ _ _ _ _ _ _ | with_reducible exact Junk.app4 _ _ _ _ _ _ _ _ | with_reducible exact Junk.app5 _ _ _ _ _ _ _ _ _ | with_reducible apply Junk.alloc | with_reducible apply Junk.junk | with_reducible apply Junk.drew | with_reducible apply Junk.drewN)))))))); clear hK K))); refine wpMixL_e rfl (fun osm2_0 dm2_0 K hK => ?_); (go_simp; try go_bits); refine hK _ _ (Junk.pair (by (repeat (first | with_reducible exact Junk.refl _ | with_reducible exact Junk.app _ _ _ _ _ | with_reducible apply Junk.alloc | with_reducible apply Junk.junk | with_reducible apply Junk.drew | with_reducible apply Junk.drewN | (with_reducible refine Junk.setCell ?_ (by simp) _))))) ?_; clear hK K; refine wpMixL_last rfl (fun osm2_1 dm2_1 K hK => ?_); (go_simp; try go_bits); (go_at_call 17; (with_reducible refine (HS2.out _ HW.out _ (by (first | ((repeat (first | with_reducible exact Junk.refl _ | with_reducible exact Junk.app _ _ _ _ _ | with_reducible apply Junk.alloc | with_reducible apply Junk.junk | with_reducible apply Junk.drew | with_reducible apply Junk.drewN)); done) | ((try simp only [World.junk_junk, Array.append_assoc]); (repeat (first | with_reducible exact Junk.refl _ | with_reducible exact Junk.app _ _ _ _ _ | with_reducible exact Junk.app2 _ _ _ _ _ _ | with_reducible exact Junk.app3 _ _ _ _ _ _ _ | with_reducible exact Junk.app4 _ _ _ _ _ _ _ _ | with_reducible exact Junk.app5 _ _ _ _ _ _ _ _ _ | with_reducible apply Junk.alloc | with_reducible apply Junk.junk | with_reducible apply Junk.drew | with_reducible apply Junk.drewN))))) _ (by first | rfl | simp) _ _).mono ?_); rintro e w2 ⟨rfl, hw⟩; have HW := Lib.hid hw; clear hw); refine hK _ _ ?_; clear hK K; refine wpMixL_nil (fun osm dm => ?_)
  have hw1 := HW.out.on (show Junk w2 (w2.junk osm dm) from ⟨_, _, rfl⟩)
  generalize w2.junk osm dm = w3 at hw1 ⊢
  have HW := Lib.hid hw1
  clear hw1
  have m2 := (HW.out.cell HNE.out HLT.out).trans HC.out.1; have m3 := (HW.out.cell HNE.out HLT.out).trans HC.out.2.1; have m5 := (HW.out.cell HNE.out HLT.out).trans HC.out.2.2.1; have m7 := (HW.out.cell HNE.out HLT.out).trans HC.out.2.2.2.1; have m8 := (HW.out.cell HNE.out HLT.out).trans HC.out.2.2.2.2; have hlw := Nat.lt_of_lt_of_le HLT.out HW.out.size
  go_wp2_with (first | (go_at_call 18; (with_reducible refine (num_any HBV.out _ _ (by omega) _ _ (HW.out.on (by (first | ((repeat (first | with_reducible exact Junk.refl _ | with_reducible exact Junk.app _ _ _ _ _ | with_reducible apply Junk.alloc | with_reducible apply Junk.junk | with_reducible apply Junk.drew | with_reducible apply Junk.drewN)); done) | ((try simp only [World.junk_junk, Array.append_assoc]); (repeat (first | with_reducible exact Junk.refl _ | with_reducible exact Junk.app _ _ _ _ _ | with_reducible exact Junk.app2 _ _ _ _ _ _ | with_reducible exact Junk.app3 _ _ _ _ _ _ _ | with_reducible exact Junk.app4 _ _ _ _ _ _ _ _ | with_reducible exact Junk.app5 _ _ _ _ _ _ _ _ _ | with_reducible apply Junk.alloc | with_reducible apply Junk.junk | with_reducible apply Junk.drew | with_reducible apply Junk.drewN)))))) (by simp)).mono ?_); rintro e w' ⟨rfl, hw⟩; (have HW := Lib.hid hw); clear hw; have m2 := (HW.out.cell HNE.out HLT.out).trans HC.out.1; have m3 := (HW.out.cell HNE.out HLT.out).trans HC.out.2.1; have m5 := (HW.out.cell HNE.out HLT.out).trans HC.out.2.2.1; have m7 := (HW.out.cell HNE.out HLT.out).trans HC.out.2.2.2.1; have m8 := (HW.out.cell HNE.out HLT.out).trans HC.out.2.2.2.2; have hlw := Nat.lt_of_lt_of_le HLT.out HW.out.size))
  rename_i _ wl hxl0 hxl
  obtain ⟨B, hBB, hwB, hBL⟩ : ∃ B, B = [⟨#[116, 99, 112]⟩, s1, ⟨#[62]⟩, s2, s3] ++ [⟨#[115, 101, 113]⟩, s4, ⟨#[97, 99, 107]⟩, s5] ++ [⟨#[119, 105, 110]⟩, itoaS t.win] ++ [⟨#[108, 101, 110]⟩, itoaS t.bl] ∧ WdAt V g w' B ∧ B.length ≤ 20 := ⟨_, rfl, HW.out, by simp⟩
  have HBB := Lib.hid hBB
  have HW0 := Lib.hid hwB
  have HBL := Lib.hid hBL
  clear hBB hwB hBL HW
  go_loopw [47] (fun i wr => ∃ k : Nat, k ≤ N ∧ i = .int .i64 (k : Int) ∧ Hid (WdAt V g wr (B ++ optW ((F.map Ot.k).take k)))) (fun i _ => N + 1 - (intOf i).toNat)
  case atStart => exact ⟨0, by omega, rfl, Lib.hid (by simpa [optW] using HW0.out)⟩
  case round =>
    obtain ⟨k, hk, rfl, hw⟩ := hrel
    have HW := Lib.hid hw.out
    clear hw
    by_cases hkn : k < N
    · have hkn2 : (k : Int) < (N : Int) := by omega
      have pk := wrapk_i64 ((k : Int) + 1) (by omega) (by omega)
      obtain ⟨f, hf⟩ : ∃ f, F[k]? = some f := ⟨_, List.getElem?_eq_getElem (by rw [HLN.out]; exact hkn)⟩
      obtain ⟨bx, off, hob, hbl, c0, c1, _⟩ := HOV.out k f hf
      have hfk := HF.out f (List.mem_of_getElem? hf)
      have hne : bx ≠ g := fun h => by
        subst h
        exact HBV.out.ni _ _ _ c0
      have c0 := (HW.out.cell hne hbl).trans c0
      have c1 := (HW.out.cell hne hbl).trans c1
      have hbw : bx < wr.heap.size := Nat.lt_of_lt_of_le hbl HW.out.size
      have HN := Lib.hid (show B ++ optW ((F.map Ot.k).take (k + 1)) = (B ++ optW ((F.map Ot.k).take k)) ++ [tOPT, itoaS f.k] by rw [optW_next (k := f.k) (by rw [List.getElem?_map, hf]; rfl), List.append_assoc])
      have hlen : (B ++ optW ((F.map Ot.k).take k)).length + 2 ≤ 1000 := by rw [List.length_append, optW_len, List.length_take]; have := HBL.out; omega
      generalize B ++ optW ((F.map Ot.k).take k) = Lk at HW HN hlen ⊢
      subst hob
      obtain ⟨fk, fo, fl, fc, fx⟩ := f
      simp only at c0 c1 hfk HN
      clear hf
      go_wp2_with (first | (go_at_call 18; (with_reducible refine (num_any HBV.out _ _ (by omega) _ _ (HW.out.on (by (first | ((repeat (first | with_reducible exact Junk.refl _ | with_reducible exact Junk.app _ _ _ _ _ | with_reducible apply Junk.alloc | with_reducible apply Junk.junk | with_reducible apply Junk.drew | with_reducible apply Junk.drewN)); done) | ((try simp only [World.junk_junk, Array.append_assoc]); (repeat (first | with_reducible exact Junk.refl _ | with_reducible exact Junk.app _ _ _ _ _ | with_reducible exact Junk.app2 _ _ _ _ _ _ | with_reducible exact Junk.app3 _ _ _ _ _ _ _ | with_reducible exact Junk.app4 _ _ _ _ _ _ _ _ | with_reducible exact Junk.app5 _ _ _ _ _ _ _ _ _ | with_reducible apply Junk.alloc | with_reducible apply Junk.junk | with_reducible apply Junk.drew | with_reducible apply Junk.drewN)))))) hlen).mono ?_); rintro e w' ⟨rfl, hw⟩; (have HW := Lib.hid hw); clear hw))
      exact ⟨⟨k + 1, by omega, by go_num, Lib.hid (by rw [HN.out]; exact HW.out)⟩, by simp [intOf]; omega⟩
    · have hkn2 : ¬ (k : Int) < (N : Int) := by omega
      obtain rfl : k = N := by omega
      go_wp2
      go_returns
      refine ⟨rfl, ?_⟩
      have := HW.out.down HQJ.out HGL.out
      rw [List.take_of_length_le (by rw [List.length_map, HLN.out]; exact Nat.le_refl _)] at this
      rw [HE.out]
      rw [HBB.out] at this
      exact this
end Go.Proofs.YtfkhnhenemgcmaaDoor
set_option linter.unusedVariables false
set_option maxRecDepth 100000
set_option linter.unusedSimpArgs false
namespace Go.Proofs.YtfkhnhenemgcmaaDoor
open Go.RowKit
def tUDP : ByteArray := ⟨#[117, 100, 112]⟩
def tNOSUM : ByteArray := ⟨#[110, 111, 115, 117, 109]⟩
def udpW (src dst sp dp : Int) (n : Nat) (ns : Bool) : List ByteArray := [tUDP, sideS src sp, tGT, sideS dst dp] ++ [tLEN, itoaS n] ++ if ns = true then [tNOSUM] else []
def bodyW (p : Ip) : Option (List ByteArray) :=
  if p.proto = 6 then (if tcpErr p.src p.dst p.body p.bl = 0 then some (tcpW p.src p.dst (tcpTc p.body p.bl) ((tcpTc p.body p.bl).os.map Od.k)) else none)
  else if p.proto = 17 then (if udpErr p.src p.dst p.body p.bl = 0 then some (udpW p.src p.dst (p.body 0 * 256 + p.body 1) (p.body 2 * 256 + p.body 3) (uSize p.body - 8) (uChk p.body == 0)) else none)
  else if p.proto = 1 then (if pErr p.body p.bl = 0 then some (icmpW p.src p.dst (p.body 0) (p.body 1) (pRest p.body) (p.bl - 8)) else none)
  else none
def BodyM (w : World) (g : Nat) (p : Ip) (e : Ending) (w' : World) : Prop := match bodyW p with
  | none => e = .returned (.bool false) ∧ Junk w w'
  | some M => e = .returned (.bool true) ∧ WdAt w g w' M
theorem bodyM_no {w w' : World} {g : Nat} {p : Ip} (h : bodyW p = none) (hj : Junk w w') : BodyM w g p (.returned (.bool false)) w' := by unfold BodyM; rw [h]; exact ⟨rfl, hj⟩
theorem bodyM_ok {w w' : World} {g : Nat} {p : Ip} {M : List ByteArray} (h : bodyW p = some M) (hw : WdAt w g w' M) : BodyM w g p (.returned (.bool true)) w' := by unfold BodyM; rw [h]; exact ⟨rfl, hw⟩
theorem optP_k (xs : Nat → Int) (S : Nat) : ∀ n a acc Q, optP xs S n a acc = some Q → (∀ f ∈ acc, 0 ≤ f.k ∧ f.k ≤ 255) → ∀ f ∈ Q, 0 ≤ f.k ∧ f.k ≤ 255
  | 0, a, acc, Q, h, hk => by rw [optP] at h; cases h; exact hk
  | n + 1, a, acc, Q, h, hk => by
    rw [optP] at h
    split at h
    · cases h; exact hk
    · split at h
      · exact optP_k xs S n _ _ _ h hk
      · split at h
        · cases h
        · split at h
          · rename_i hr
            refine optP_k xs S n _ _ _ h (fun f hf => ?_)
            rcases List.mem_append.1 hf with h1 | h1
            · exact hk f h1
            · simp only [List.mem_singleton] at h1
              subst h1
              unfold rightD at hr
              simp only [Bool.and_eq_true, decide_eq_true_eq] at hr
              exact ⟨by have := hr.1.1; simp only; omega, hr.1.2⟩
          · cases h
theorem optP_len2 (xs : Nat → Int) (S : Nat) : ∀ n a acc Q, optP xs S n a acc = some Q → Q.length ≤ acc.length + n
  | 0, a, acc, Q, h => by rw [optP] at h; cases h; omega
  | n + 1, a, acc, Q, h => by
    rw [optP] at h
    split at h
    · cases h; omega
    · split at h
      · have := optP_len2 xs S n _ _ _ h; omega
      · split at h
        · cases h
        · split at h
          · have := optP_len2 xs S n _ _ _ h; simp at this; omega
          · cases h
theorem tcp_bd {src dst : Int} {xs : Nat → Int} {l : Nat} (h : tcpErr src dst xs l = 0) (hx : ∀ i, i < l → 0 ≤ xs i ∧ xs i ≤ 255) (hl : l ≤ 100000000) :
    (tcpTc xs l).Bd ∧ (tcpTc xs l).os.length ≤ 100 ∧ ∀ f ∈ (tcpTc xs l).os, 0 ≤ f.k ∧ f.k ≤ 255 := by
  have h20 : 20 ≤ l := by
    unfold tcpErr at h
    split at h
    · cases h
    · split at h
      · cases h
      · omega
  have x := fun i (hi : i < 20) => hx i (by omega)
  have x0 := x 0 (by omega); have x1 := x 1 (by omega); have x2 := x 2 (by omega); have x3 := x 3 (by omega); have x4 := x 4 (by omega); have x5 := x 5 (by omega); have x6 := x 6 (by omega); have x7 := x 7 (by omega)
  have x8 := x 8 (by omega); have x9 := x 9 (by omega); have x10 := x 10 (by omega); have x11 := x 11 (by omega); have x12 := x 12 (by omega); have x13 := x 13 (by omega); have x14 := x 14 (by omega); have x15 := x 15 (by omega)
  refine ⟨⟨?_, ?_, ?_, ?_, ?_, ?_, ?_⟩, ?_, ?_⟩
  · simp only [tcpTc]; omega
  · simp only [tcpTc]; omega
  · simp only [tcpTc]; omega
  · simp only [tcpTc]; omega
  · simp only [tcpTc]; omega
  · simp only [tcpTc]; omega
  · simp only [tcpTc]; omega
  · show ((tcpOpts xs).getD []).length ≤ 100
    cases hq : tcpOpts xs with
    | none => simp
    | some Q =>
      have := optP_len2 _ _ _ _ _ _ hq
      have hz : tcpSize xs ≤ 60 := by unfold tcpSize; omega
      simp at this ⊢
      omega
  · show ∀ f ∈ (tcpOpts xs).getD [], 0 ≤ f.k ∧ f.k ≤ 255
    cases hq : tcpOpts xs with
    | none => simp
    | some Q => exact optP_k _ _ _ _ _ _ hq (fun f hf => by simp at hf)
set_option maxRecDepth 100000 in
set_option maxHeartbeats 8000000 in
theorem body_tcp (g : Nat) (p : Ip) (oo ob : Option Addr) (oc bc : Nat) (w : World) (hB : WB w g) (hP : IpAt w p oo oc ob bc) (hl : p.bl ≤ 100000000) (h6 : p.proto = 6) : Calls Tryd.prog 20 #[.pointer (some ⟨g, 0, none⟩), .agg #[.int .i64 p.tos, .int .i64 p.id, .bool p.df, .bool p.mf, .int .i64 p.off, .int .i64 p.ttl, .int .i64 p.proto, .int .u32 p.src, .int .u32 p.dst, .slice oo p.ol oc, .slice ob p.bl bc]] w (BodyM w g p) := by
  have HP := Lib.hid hP
  have HB := Lib.hid hB
  have hpe : (p.proto == 6) = true := by simp [h6]
  by_cases h0 : tcpErr p.src p.dst p.body p.bl = 0
  · obtain ⟨hbd, hlen, hks⟩ := tcp_bd h0 hP.body.byte hl
    have HE0 : bodyW p = some (tcpW p.src p.dst (tcpTc p.body p.bl) ((tcpTc p.body p.bl).os.map Od.k)) := by unfold bodyW; rw [if_pos h6, if_pos h0]
    have HTP := fun w1 (hb : Bts w1 ob p.bl bc p.body) => (tparse_any p.src p.dst ob p.bl bc p.body w1 hP.src hP.dst hl hb).mono fun e w' hq => show ∃ (F : List Ot) (N : Nat) (o1 : Option Addr) (c1 : Nat) (o2 : Option Addr) (c2 : Nat), e = .returned (.tuple #[.agg #[.int .i64 (tcpTc p.body p.bl).sport, .int .i64 (tcpTc p.body p.bl).dport, .int .u32 (tcpTc p.body p.bl).seq, .int .u32 (tcpTc p.body p.bl).ack, .int .i64 (tcpTc p.body p.bl).flags, .int .i64 (tcpTc p.body p.bl).win, .int .i64 (tcpTc p.body p.bl).urg, .slice o1 N c1, .slice o2 (tcpTc p.body p.bl).bl c2], .int .i64 0]) ∧ Junk w1 w' ∧ F.length = N ∧ F.map Ot.d = (tcpTc p.body p.bl).os ∧ OsAt w' o1 F by
      obtain ⟨hj, ⟨h1, _⟩ | ⟨_, F, o1, c1, o2, c2, hF, hT, rfl⟩⟩ := hq
      · exact absurd h0 h1
      · exact ⟨F, F.length, o1, c1, o2, c2, rfl, hj, rfl, hF, hT.os⟩
    obtain ⟨T, hT⟩ : ∃ T, tcpTc p.body p.bl = T := ⟨_, rfl⟩
    rw [hT] at hbd hlen hks HE0 HTP
    have HTP := Lib.hid HTP
    have HE := Lib.hid HE0
    have HSG := Lib.hid (fun (F : List Ot) (N : Nat) (o1 : Option Addr) (c1 : Nat) (o2 : Option Addr) (c2 : Nat) w2 (hj : Junk w w2) (hN : F.length = N) (hF : F.map Ot.d = T.os) (hO : OsAt w2 o1 F) => show Calls Tryd.prog 40 #[.pointer (some ⟨g, 0, none⟩), .agg #[.int .i64 p.tos, .int .i64 p.id, .bool p.df, .bool p.mf, .int .i64 p.off, .int .i64 p.ttl, .int .i64 p.proto, .int .u32 p.src, .int .u32 p.dst, .slice oo p.ol oc, .slice ob p.bl bc], .agg #[.int .i64 T.sport, .int .i64 T.dport, .int .u32 T.seq, .int .u32 T.ack, .int .i64 T.flags, .int .i64 T.win, .int .i64 T.urg, .slice o1 N c1, .slice o2 T.bl c2]] w2 fun e w' => e = .returned (.tuple #[]) ∧ WdAt w g w' (tcpW p.src p.dst T (T.os.map Od.k)) from by
      have hL : F.length ≤ 100 := by have := congrArg List.length hF; rw [List.length_map] at this; omega
      refine (segment_any g p oo ob oc bc T F N o1 o2 c1 c2 w2 (hB.on hj) hP.src hP.dst hbd hN (by omega) (fun f hf => ?_) hO).mono fun e w' hq => ⟨hq.1, ?_⟩
      · have := hks f.d (by rw [← hF]; exact List.mem_map_of_mem hf)
        exact this
      · have h1 := hq.2.down hj hB.lt
        rw [show F.map Ot.k = T.os.map Od.k by rw [← hF, List.map_map]; rfl] at h1
        exact h1)
    clear hB hP hl h6 h0 hbd hlen hks HE0 hT
    go_enter Tryd.func20, Tryd.ntmps20
    go_wp2_with (first
      | (go_at_call 39; (with_reducible refine (HTP.out _ (HP.out.body.on (by (first | ((repeat (first | with_reducible exact Junk.refl _ | with_reducible exact Junk.app _ _ _ _ _ | with_reducible apply Junk.alloc | with_reducible apply Junk.junk | with_reducible apply Junk.drew | with_reducible apply Junk.drewN)); done) | ((try simp only [World.junk_junk, Array.append_assoc]); (repeat (first | with_reducible exact Junk.refl _ | with_reducible exact Junk.app _ _ _ _ _ | with_reducible exact Junk.app2 _ _ _ _ _ _ | with_reducible exact Junk.app3 _ _ _ _ _ _ _ | with_reducible exact Junk.app4 _ _ _ _ _ _ _ _ | with_reducible exact Junk.app5 _ _ _ _ _ _ _ _ _ | with_reducible apply Junk.alloc | with_reducible apply Junk.junk | with_reducible apply Junk.drew | with_reducible apply Junk.drewN))))))).mono ?_); rintro e w' ⟨F, N, o1, c1, o2, c2, rfl, ⟨osj, dj, rfl⟩, hN, hF, hO⟩; (have HO := Lib.hid hO); have HN := Lib.hid hN; have HF := Lib.hid hF; clear hO hN hF)
      | (go_at_call 40; (with_reducible refine (HSG.out F N o1 c1 o2 c2 _ (by (first | ((repeat (first | with_reducible exact Junk.refl _ | with_reducible exact Junk.app _ _ _ _ _ | with_reducible apply Junk.alloc | with_reducible apply Junk.junk | with_reducible apply Junk.drew | with_reducible apply Junk.drewN)); done) | ((try simp only [World.junk_junk, Array.append_assoc]); (repeat (first | with_reducible exact Junk.refl _ | with_reducible exact Junk.app _ _ _ _ _ | with_reducible exact Junk.app2 _ _ _ _ _ _ | with_reducible exact Junk.app3 _ _ _ _ _ _ _ | with_reducible exact Junk.app4 _ _ _ _ _ _ _ _ | with_reducible exact Junk.app5 _ _ _ _ _ _ _ _ _ | with_reducible apply Junk.alloc | with_reducible apply Junk.junk | with_reducible apply Junk.drew | with_reducible apply Junk.drewN))))) HN.out HF.out (HO.out.on (by (first | ((repeat (first | with_reducible exact Junk.refl _ | with_reducible exact Junk.app _ _ _ _ _ | with_reducible apply Junk.alloc | with_reducible apply Junk.junk | with_reducible apply Junk.drew | with_reducible apply Junk.drewN)); done) | ((try simp only [World.junk_junk, Array.append_assoc]); (repeat (first | with_reducible exact Junk.refl _ | with_reducible exact Junk.app _ _ _ _ _ | with_reducible exact Junk.app2 _ _ _ _ _ _ | with_reducible exact Junk.app3 _ _ _ _ _ _ _ | with_reducible exact Junk.app4 _ _ _ _ _ _ _ _ | with_reducible exact Junk.app5 _ _ _ _ _ _ _ _ _ | with_reducible apply Junk.alloc | with_reducible apply Junk.junk | with_reducible apply Junk.drew | with_reducible apply Junk.drewN))))))).mono ?_); rintro e w' ⟨rfl, hw⟩; have HW := Lib.hid hw; clear hw))
    go_returns
    exact bodyM_ok HE.out HW.out
  · have HE := Lib.hid (show bodyW p = none by unfold bodyW; rw [if_pos h6, if_neg h0])
    obtain ⟨E, hE⟩ : ∃ E, tcpErr p.src p.dst p.body p.bl = E := ⟨_, rfl⟩
    rw [hE] at h0
    have hne : (E != 0) = true := by simpa using h0
    have HTP := Lib.hid (fun w1 (hb : Bts w1 ob p.bl bc p.body) => show Calls Tryd.prog 39 #[.int .u32 p.src, .int .u32 p.dst, .slice ob p.bl bc] w1 fun e w' => e = .returned (.tuple #[.agg #[.int .i64 0, .int .i64 0, .int .u32 0, .int .u32 0, .int .i64 0, .int .i64 0, .int .i64 0, .slice none 0 0, .slice none 0 0], .int .i64 E]) ∧ Junk w1 w' from (tparse_any p.src p.dst ob p.bl bc p.body w1 hP.src hP.dst hl hb).mono fun e w' hq => by
      obtain ⟨hj, ⟨_, h1⟩ | ⟨h1, _⟩⟩ := hq
      · rw [hE] at h1; exact ⟨h1, hj⟩
      · exact absurd (hE.symm.trans h1) h0)
    clear hB hP hl h6 h0 hE
    go_enter Tryd.func20, Tryd.ntmps20
    go_wp2_with (first | (go_at_call 39; (with_reducible refine (HTP.out _ (HP.out.body.on (by (first | ((repeat (first | with_reducible exact Junk.refl _ | with_reducible exact Junk.app _ _ _ _ _ | with_reducible apply Junk.alloc | with_reducible apply Junk.junk | with_reducible apply Junk.drew | with_reducible apply Junk.drewN)); done) | ((try simp only [World.junk_junk, Array.append_assoc]); (repeat (first | with_reducible exact Junk.refl _ | with_reducible exact Junk.app _ _ _ _ _ | with_reducible exact Junk.app2 _ _ _ _ _ _ | with_reducible exact Junk.app3 _ _ _ _ _ _ _ | with_reducible exact Junk.app4 _ _ _ _ _ _ _ _ | with_reducible exact Junk.app5 _ _ _ _ _ _ _ _ _ | with_reducible apply Junk.alloc | with_reducible apply Junk.junk | with_reducible apply Junk.drew | with_reducible apply Junk.drewN))))))).mono ?_); rintro e w' ⟨rfl, ⟨osj, dj, rfl⟩⟩))
    go_returns
    exact bodyM_no HE.out (by (first | ((repeat (first | with_reducible exact Junk.refl _ | with_reducible exact Junk.app _ _ _ _ _ | with_reducible apply Junk.alloc | with_reducible apply Junk.junk | with_reducible apply Junk.drew | with_reducible apply Junk.drewN)); done) | ((try simp only [World.junk_junk, Array.append_assoc]); (repeat (first | with_reducible exact Junk.refl _ | with_reducible exact Junk.app _ _ _ _ _ | with_reducible exact Junk.app2 _ _ _ _ _ _ | with_reducible exact Junk.app3 _ _ _ _ _ _ _ | with_reducible exact Junk.app4 _ _ _ _ _ _ _ _ | with_reducible exact Junk.app5 _ _ _ _ _ _ _ _ _ | with_reducible apply Junk.alloc | with_reducible apply Junk.junk | with_reducible apply Junk.drew | with_reducible apply Junk.drewN)))))
set_option maxRecDepth 100000 in
set_option maxHeartbeats 8000000 in
theorem body_icmp (g : Nat) (p : Ip) (oo ob : Option Addr) (oc bc : Nat) (w : World) (hB : WB w g) (hP : IpAt w p oo oc ob bc) (hl : p.bl ≤ 100000000) (h1 : p.proto = 1) : Calls Tryd.prog 20 #[.pointer (some ⟨g, 0, none⟩), .agg #[.int .i64 p.tos, .int .i64 p.id, .bool p.df, .bool p.mf, .int .i64 p.off, .int .i64 p.ttl, .int .i64 p.proto, .int .u32 p.src, .int .u32 p.dst, .slice oo p.ol oc, .slice ob p.bl bc]] w (BodyM w g p) := by
  have HP := Lib.hid hP
  have HB := Lib.hid hB
  have hp6 : (p.proto == 6) = false := by simp [h1]
  have hp17 : (p.proto == 17) = false := by simp [h1]
  have hp1 : (p.proto == 1) = true := by simp [h1]
  by_cases h0 : pErr p.body p.bl = 0
  · have h8 : 8 ≤ p.bl := by
      unfold pErr at h0
      split at h0
      · cases h0
      · omega
    have x := fun i (hi : i < 8) => hP.body.byte i (by omega)
    have x0 := x 0 (by omega); have x1 := x 1 (by omega); have x4 := x 4 (by omega); have x5 := x 5 (by omega); have x6 := x 6 (by omega); have x7 := x 7 (by omega)
    have hrb : 0 ≤ pRest p.body ∧ pRest p.body ≤ 4294967295 := by unfold pRest; omega
    have HE0 : bodyW p = some (icmpW p.src p.dst (p.body 0) (p.body 1) (pRest p.body) (p.bl - 8)) := by unfold bodyW; rw [if_neg (by omega), if_neg (by omega), if_pos h1, if_pos h0]
    have HTP := fun w1 (hb : Bts w1 ob p.bl bc p.body) => (parse_any ob p.bl bc p.body w1 hl hb).mono fun e w' hq => show ∃ (o1 : Option Addr) (c1 : Nat), e = .returned (.tuple #[.agg #[.int .i64 (p.body 0), .int .i64 (p.body 1), .int .u32 (pRest p.body), .slice o1 (p.bl - 8) c1], .int .i64 0]) ∧ Junk w1 w' by
      obtain ⟨t, c, r, o1, lb, cb, rfl, hj, hb, ⟨_, rfl, rfl, rfl, rfl⟩ | ⟨h1, _⟩⟩ := hq
      · exact ⟨o1, cb, by rw [h0], hj⟩
      · exact absurd h0 h1
    obtain ⟨t, ht⟩ : ∃ t, p.body 0 = t := ⟨_, rfl⟩
    obtain ⟨c, hc⟩ : ∃ c, p.body 1 = c := ⟨_, rfl⟩
    obtain ⟨r, hr⟩ : ∃ r, pRest p.body = r := ⟨_, rfl⟩
    obtain ⟨n, hn⟩ : ∃ n, p.bl - 8 = n := ⟨_, rfl⟩
    rw [ht, hc, hr, hn] at HE0 HTP
    rw [ht] at x0
    rw [hc] at x1
    rw [hr] at hrb
    have HTP := Lib.hid HTP
    have HE := Lib.hid HE0
    have HMS := Lib.hid (fun (o1 : Option Addr) (c1 : Nat) w2 (hj : Junk w w2) => show Calls Tryd.prog 44 #[.pointer (some ⟨g, 0, none⟩), .agg #[.int .i64 p.tos, .int .i64 p.id, .bool p.df, .bool p.mf, .int .i64 p.off, .int .i64 p.ttl, .int .i64 p.proto, .int .u32 p.src, .int .u32 p.dst, .slice oo p.ol oc, .slice ob p.bl bc], .agg #[.int .i64 t, .int .i64 c, .int .u32 r, .slice o1 n c1]] w2 fun e w' => e = .returned (.tuple #[]) ∧ WdAt w g w' (icmpW p.src p.dst t c r n) from
      (message_any g p oo ob oc bc t c r o1 n c1 w2 (hB.on hj) hP.src hP.dst x0 x1 hrb (by omega)).mono fun e w' hq => ⟨hq.1, hq.2.down hj hB.lt⟩)
    clear hB hP hl h1 h0 HE0 ht hc hr hn x x0 x1 x4 x5 x6 x7 hrb h8
    go_enter Tryd.func20, Tryd.ntmps20
    go_wp2_with (first
      | (go_at_call 43; (with_reducible refine (HTP.out _ (HP.out.body.on (by (first | ((repeat (first | with_reducible exact Junk.refl _ | with_reducible exact Junk.app _ _ _ _ _ | with_reducible apply Junk.alloc | with_reducible apply Junk.junk | with_reducible apply Junk.drew | with_reducible apply Junk.drewN)); done) | ((try simp only [World.junk_junk, Array.append_assoc]); (repeat (first | with_reducible exact Junk.refl _ | with_reducible exact Junk.app _ _ _ _ _ | with_reducible exact Junk.app2 _ _ _ _ _ _ | with_reducible exact Junk.app3 _ _ _ _ _ _ _ | with_reducible exact Junk.app4 _ _ _ _ _ _ _ _ | with_reducible exact Junk.app5 _ _ _ _ _ _ _ _ _ | with_reducible apply Junk.alloc | with_reducible apply Junk.junk | with_reducible apply Junk.drew | with_reducible apply Junk.drewN))))))).mono ?_); rintro e w' ⟨o1, c1, rfl, ⟨osj, dj, rfl⟩⟩)
      | (go_at_call 44; (with_reducible refine (HMS.out o1 c1 _ (by (first | ((repeat (first | with_reducible exact Junk.refl _ | with_reducible exact Junk.app _ _ _ _ _ | with_reducible apply Junk.alloc | with_reducible apply Junk.junk | with_reducible apply Junk.drew | with_reducible apply Junk.drewN)); done) | ((try simp only [World.junk_junk, Array.append_assoc]); (repeat (first | with_reducible exact Junk.refl _ | with_reducible exact Junk.app _ _ _ _ _ | with_reducible exact Junk.app2 _ _ _ _ _ _ | with_reducible exact Junk.app3 _ _ _ _ _ _ _ | with_reducible exact Junk.app4 _ _ _ _ _ _ _ _ | with_reducible exact Junk.app5 _ _ _ _ _ _ _ _ _ | with_reducible apply Junk.alloc | with_reducible apply Junk.junk | with_reducible apply Junk.drew | with_reducible apply Junk.drewN)))))).mono ?_); rintro e w' ⟨rfl, hw⟩; have HW := Lib.hid hw; clear hw))
    go_returns
    exact bodyM_ok HE.out HW.out
  · have HE := Lib.hid (show bodyW p = none by unfold bodyW; rw [if_neg (by omega), if_neg (by omega), if_pos h1, if_neg h0])
    obtain ⟨E, hE⟩ : ∃ E, pErr p.body p.bl = E := ⟨_, rfl⟩
    rw [hE] at h0
    have hne : (E != 0) = true := by simpa using h0
    have HTP := Lib.hid (fun w1 (hb : Bts w1 ob p.bl bc p.body) => show Calls Tryd.prog 43 #[.slice ob p.bl bc] w1 fun e w' => e = .returned (.tuple #[.agg #[.int .i64 0, .int .i64 0, .int .u32 0, .slice none 0 0], .int .i64 E]) ∧ Junk w1 w' from (parse_any ob p.bl bc p.body w1 hl hb).mono fun e w' hq => by
      obtain ⟨t, c, r, o1, lb, cb, rfl, hj, hb, ⟨h2, _⟩ | ⟨_, rfl, rfl, rfl, rfl, rfl, rfl⟩⟩ := hq
      · exact absurd (hE.symm.trans h2) h0
      · rw [hE]; exact ⟨rfl, hj⟩)
    clear hB hP hl h1 h0 hE
    go_enter Tryd.func20, Tryd.ntmps20
    go_wp2_with (first | (go_at_call 43; (with_reducible refine (HTP.out _ (HP.out.body.on (by (first | ((repeat (first | with_reducible exact Junk.refl _ | with_reducible exact Junk.app _ _ _ _ _ | with_reducible apply Junk.alloc | with_reducible apply Junk.junk | with_reducible apply Junk.drew | with_reducible apply Junk.drewN)); done) | ((try simp only [World.junk_junk, Array.append_assoc]); (repeat (first | with_reducible exact Junk.refl _ | with_reducible exact Junk.app _ _ _ _ _ | with_reducible exact Junk.app2 _ _ _ _ _ _ | with_reducible exact Junk.app3 _ _ _ _ _ _ _ | with_reducible exact Junk.app4 _ _ _ _ _ _ _ _ | with_reducible exact Junk.app5 _ _ _ _ _ _ _ _ _ | with_reducible apply Junk.alloc | with_reducible apply Junk.junk | with_reducible apply Junk.drew | with_reducible apply Junk.drewN))))))).mono ?_); rintro e w' ⟨rfl, ⟨osj, dj, rfl⟩⟩))
    go_returns
    exact bodyM_no HE.out (by (first | ((repeat (first | with_reducible exact Junk.refl _ | with_reducible exact Junk.app _ _ _ _ _ | with_reducible apply Junk.alloc | with_reducible apply Junk.junk | with_reducible apply Junk.drew | with_reducible apply Junk.drewN)); done) | ((try simp only [World.junk_junk, Array.append_assoc]); (repeat (first | with_reducible exact Junk.refl _ | with_reducible exact Junk.app _ _ _ _ _ | with_reducible exact Junk.app2 _ _ _ _ _ _ | with_reducible exact Junk.app3 _ _ _ _ _ _ _ | with_reducible exact Junk.app4 _ _ _ _ _ _ _ _ | with_reducible exact Junk.app5 _ _ _ _ _ _ _ _ _ | with_reducible apply Junk.alloc | with_reducible apply Junk.junk | with_reducible apply Junk.drew | with_reducible apply Junk.drewN)))))
set_option maxHeartbeats 8000000 in
theorem body_none (g : Nat) (p : Ip) (oo ob : Option Addr) (oc bc : Nat) (w : World) (hB : WB w g) (hP : IpAt w p oo oc ob bc) (hl : p.bl ≤ 100000000) (h6 : p.proto ≠ 6) (h17 : p.proto ≠ 17) (h1 : p.proto ≠ 1) : Calls Tryd.prog 20 #[.pointer (some ⟨g, 0, none⟩), .agg #[.int .i64 p.tos, .int .i64 p.id, .bool p.df, .bool p.mf, .int .i64 p.off, .int .i64 p.ttl, .int .i64 p.proto, .int .u32 p.src, .int .u32 p.dst, .slice oo p.ol oc, .slice ob p.bl bc]] w (BodyM w g p) := by
  have hp6 : (p.proto == 6) = false := by simpa using h6
  have hp17 : (p.proto == 17) = false := by simpa using h17
  have hp1 : (p.proto == 1) = false := by simpa using h1
  have HE := Lib.hid (show bodyW p = none by unfold bodyW; rw [if_neg h6, if_neg h17, if_neg h1])
  clear hB hP hl h6 h17 h1
  go_enter Tryd.func20, Tryd.ntmps20
  go_wp2
  go_returns
  exact bodyM_no HE.out (by (first | ((repeat (first | with_reducible exact Junk.refl _ | with_reducible exact Junk.app _ _ _ _ _ | with_reducible apply Junk.alloc | with_reducible apply Junk.junk | with_reducible apply Junk.drew | with_reducible apply Junk.drewN)); done) | ((try simp only [World.junk_junk, Array.append_assoc]); (repeat (first | with_reducible exact Junk.refl _ | with_reducible exact Junk.app _ _ _ _ _ | with_reducible exact Junk.app2 _ _ _ _ _ _ | with_reducible exact Junk.app3 _ _ _ _ _ _ _ | with_reducible exact Junk.app4 _ _ _ _ _ _ _ _ | with_reducible exact Junk.app5 _ _ _ _ _ _ _ _ _ | with_reducible apply Junk.alloc | with_reducible apply Junk.junk | with_reducible apply Junk.drew | with_reducible apply Junk.drewN)))))
end Go.Proofs.YtfkhnhenemgcmaaDoor
set_option linter.unusedVariables false
set_option maxRecDepth 100000
set_option linter.unusedSimpArgs false
namespace Go.Proofs.YtfkhnhenemgcmaaDoor
open Go.RowKit
set_option maxRecDepth 100000 in
set_option maxHeartbeats 16000000 in
theorem body_udp (g : Nat) (p : Ip) (oo ob : Option Addr) (oc bc : Nat) (w : World) (hB : WB w g) (hP : IpAt w p oo oc ob bc) (hl : p.bl ≤ 100000000) (h17 : p.proto = 17) : Calls Tryd.prog 20 #[.pointer (some ⟨g, 0, none⟩), .agg #[.int .i64 p.tos, .int .i64 p.id, .bool p.df, .bool p.mf, .int .i64 p.off, .int .i64 p.ttl, .int .i64 p.proto, .int .u32 p.src, .int .u32 p.dst, .slice oo p.ol oc, .slice ob p.bl bc]] w (BodyM w g p) := by
  have HP := Lib.hid hP
  have HB := Lib.hid hB
  have hp6 : (p.proto == 6) = false := by simp [h17]
  have hp17 : (p.proto == 17) = true := by simp [h17]
  by_cases h0 : udpErr p.src p.dst p.body p.bl = 0
  · have h8 : 8 ≤ p.bl ∧ uSize p.body ≤ p.bl := by
      unfold udpErr at h0
      split at h0
      · cases h0
      · split at h0
        · cases h0
        · omega
    have x := fun i (hi : i < 8) => hP.body.byte i (by omega)
    have x0 := x 0 (by omega); have x1 := x 1 (by omega); have x2 := x 2 (by omega); have x3 := x 3 (by omega)
    have HE0 : bodyW p = some (udpW p.src p.dst (p.body 0 * 256 + p.body 1) (p.body 2 * 256 + p.body 3) (uSize p.body - 8) (uChk p.body == 0)) := by unfold bodyW; rw [if_neg (by omega), if_pos h17, if_pos h0]
    have HTP := fun w1 (hb : Bts w1 ob p.bl bc p.body) => (uparse_any p.src p.dst ob p.bl bc p.body w1 hP.src hP.dst hl hb).mono fun e w' hq => show ∃ (o1 : Option Addr) (c1 : Nat), e = .returned (.tuple #[.agg #[.int .i64 (p.body 0 * 256 + p.body 1), .int .i64 (p.body 2 * 256 + p.body 3), .bool (uChk p.body == 0), .slice o1 (uSize p.body - 8) c1], .int .i64 0]) ∧ Junk w1 w' by
      obtain ⟨hj, ⟨h1, _⟩ | ⟨_, o1, c1, hb, rfl⟩⟩ := hq
      · exact absurd h0 h1
      · exact ⟨o1, c1, rfl, hj⟩
    obtain ⟨sp, hsp⟩ : ∃ t, p.body 0 * 256 + p.body 1 = t := ⟨_, rfl⟩
    obtain ⟨dp, hdp⟩ : ∃ c, p.body 2 * 256 + p.body 3 = c := ⟨_, rfl⟩
    obtain ⟨ns, hns⟩ : ∃ r, (uChk p.body == 0) = r := ⟨_, rfl⟩
    obtain ⟨n, hn⟩ : ∃ n, uSize p.body - 8 = n := ⟨_, rfl⟩
    rw [hsp, hdp, hns, hn] at HE0 HTP
    have hspb : 0 ≤ sp ∧ sp ≤ 65535 := by omega
    have hdpb : 0 ≤ dp ∧ dp ≤ 65535 := by omega
    have hnb : n ≤ 100000000 := by omega
    have HTP := Lib.hid HTP
    have HS := Lib.hid hP.src
    have HD := Lib.hid hP.dst
    clear hP hl h17 h0 hsp hdp hns hn x x0 x1 x2 x3 h8
    go_enter Tryd.func20, Tryd.ntmps20
    go_upto_region 12 with (first
      | (go_at_call 41; (with_reducible refine (HTP.out _ (HP.out.body.on (by (first | ((repeat (first | with_reducible exact Junk.refl _ | with_reducible exact Junk.app _ _ _ _ _ | with_reducible apply Junk.alloc | with_reducible apply Junk.junk | with_reducible apply Junk.drew | with_reducible apply Junk.drewN)); done) | ((try simp only [World.junk_junk, Array.append_assoc]); (repeat (first | with_reducible exact Junk.refl _ | with_reducible exact Junk.app _ _ _ _ _ | with_reducible exact Junk.app2 _ _ _ _ _ _ | with_reducible exact Junk.app3 _ _ _ _ _ _ _ | with_reducible exact Junk.app4 _ _ _ _ _ _ _ _ | with_reducible exact Junk.app5 _ _ _ _ _ _ _ _ _ | with_reducible apply Junk.alloc | with_reducible apply Junk.junk | with_reducible apply Junk.drew | with_reducible apply Junk.drewN))))))).mono ?_); rintro e w' ⟨o1, c1, rfl, ⟨osj, dj, rfl⟩⟩))
    have q7 : ((((w.alloc (.cells #[.int .i64 p.tos, .int .i64 p.id, .bool p.df, .bool p.mf, .int .i64 p.off, .int .i64 p.ttl, .int .i64 p.proto, .int .u32 p.src, .int .u32 p.dst, .slice oo p.ol oc, .slice ob p.bl bc] 29)).junk osj dj).alloc (.cells #[.int .i64 sp, .int .i64 dp, .bool ns, .slice o1 n c1] 61))).cell? ⟨w.heap.size, 7, none⟩ = some (.int .u32 p.src) := by go_simp
    have q8 : ((((w.alloc (.cells #[.int .i64 p.tos, .int .i64 p.id, .bool p.df, .bool p.mf, .int .i64 p.off, .int .i64 p.ttl, .int .i64 p.proto, .int .u32 p.src, .int .u32 p.dst, .slice oo p.ol oc, .slice ob p.bl bc] 29)).junk osj dj).alloc (.cells #[.int .i64 sp, .int .i64 dp, .bool ns, .slice o1 n c1] 61))).cell? ⟨w.heap.size, 8, none⟩ = some (.int .u32 p.dst) := by go_simp
    have m0 : ((((w.alloc (.cells #[.int .i64 p.tos, .int .i64 p.id, .bool p.df, .bool p.mf, .int .i64 p.off, .int .i64 p.ttl, .int .i64 p.proto, .int .u32 p.src, .int .u32 p.dst, .slice oo p.ol oc, .slice ob p.bl bc] 29)).junk osj dj).alloc (.cells #[.int .i64 sp, .int .i64 dp, .bool ns, .slice o1 n c1] 61))).cell? ⟨w.heap.size + 1 + osj.size, 0, none⟩ = some (.int .i64 sp) := by go_simp
    have m1 : ((((w.alloc (.cells #[.int .i64 p.tos, .int .i64 p.id, .bool p.df, .bool p.mf, .int .i64 p.off, .int .i64 p.ttl, .int .i64 p.proto, .int .u32 p.src, .int .u32 p.dst, .slice oo p.ol oc, .slice ob p.bl bc] 29)).junk osj dj).alloc (.cells #[.int .i64 sp, .int .i64 dp, .bool ns, .slice o1 n c1] 61))).cell? ⟨w.heap.size + 1 + osj.size, 1, none⟩ = some (.int .i64 dp) := by go_simp
    have m2 : ((((w.alloc (.cells #[.int .i64 p.tos, .int .i64 p.id, .bool p.df, .bool p.mf, .int .i64 p.off, .int .i64 p.ttl, .int .i64 p.proto, .int .u32 p.src, .int .u32 p.dst, .slice oo p.ol oc, .slice ob p.bl bc] 29)).junk osj dj).alloc (.cells #[.int .i64 sp, .int .i64 dp, .bool ns, .slice o1 n c1] 61))).cell? ⟨w.heap.size + 1 + osj.size, 2, none⟩ = some (.bool ns) := by go_simp
    have m3 : ((((w.alloc (.cells #[.int .i64 p.tos, .int .i64 p.id, .bool p.df, .bool p.mf, .int .i64 p.off, .int .i64 p.ttl, .int .i64 p.proto, .int .u32 p.src, .int .u32 p.dst, .slice oo p.ol oc, .slice ob p.bl bc] 29)).junk osj dj).alloc (.cells #[.int .i64 sp, .int .i64 dp, .bool ns, .slice o1 n c1] 61))).cell? ⟨w.heap.size + 1 + osj.size, 3, none⟩ = some (.slice o1 n c1) := by go_simp
    have qj : Junk w (((w.alloc (.cells #[.int .i64 p.tos, .int .i64 p.id, .bool p.df, .bool p.mf, .int .i64 p.off, .int .i64 p.ttl, .int .i64 p.proto, .int .u32 p.src, .int .u32 p.dst, .slice oo p.ol oc, .slice ob p.bl bc] 29)).junk osj dj).alloc (.cells #[.int .i64 sp, .int .i64 dp, .bool ns, .slice o1 n c1] 61)) := by (first | ((repeat (first | with_reducible exact Junk.refl _ | with_reducible exact Junk.app _ _ _ _ _ | with_reducible apply Junk.alloc | with_reducible apply Junk.junk | with_reducible apply Junk.drew | with_reducible apply Junk.drewN)); done) | ((try simp only [World.junk_junk, Array.append_assoc]); (repeat (first | with_reducible exact Junk.refl _ | with_reducible exact Junk.app _ _ _ _ _ | with_reducible exact Junk.app2 _ _ _ _ _ _ | with_reducible exact Junk.app3 _ _ _ _ _ _ _ | with_reducible exact Junk.app4 _ _ _ _ _ _ _ _ | with_reducible exact Junk.app5 _ _ _ _ _ _ _ _ _ | with_reducible apply Junk.alloc | with_reducible apply Junk.junk | with_reducible apply Junk.drew | with_reducible apply Junk.drewN))))
    have qs : (((w.alloc (.cells #[.int .i64 p.tos, .int .i64 p.id, .bool p.df, .bool p.mf, .int .i64 p.off, .int .i64 p.ttl, .int .i64 p.proto, .int .u32 p.src, .int .u32 p.dst, .slice oo p.ol oc, .slice ob p.bl bc] 29)).junk osj dj).alloc (.cells #[.int .i64 sp, .int .i64 dp, .bool ns, .slice o1 n c1] 61)).heap.size = w.heap.size + 1 + osj.size + 1 := by simp
    have hgl := hB.lt
    obtain ⟨b1, hb1⟩ : ∃ b, w.heap.size = b := ⟨_, rfl⟩
    rw [hb1] at q7 q8 m0 m1 m2 m3 qs hgl ⊢
    obtain ⟨b2, hb2⟩ : ∃ b, b1 + 1 + osj.size = b := ⟨_, rfl⟩
    rw [hb2] at m0 m1 m2 m3 qs ⊢
    generalize ((w.alloc (.cells #[.int .i64 p.tos, .int .i64 p.id, .bool p.df, .bool p.mf, .int .i64 p.off, .int .i64 p.ttl, .int .i64 p.proto, .int .u32 p.src, .int .u32 p.dst, .slice oo p.ol oc, .slice ob p.bl bc] 29)).junk osj dj).alloc (.cells #[.int .i64 sp, .int .i64 dp, .bool ns, .slice o1 n c1] 61) = V at q7 q8 m0 m1 m2 m3 qs qj ⊢
    have HBV := Lib.hid (hB.on qj)
    have hx1 : b1 < V.heap.size := by omega
    have hx2 : b2 < V.heap.size := by omega
    have HNE := Lib.hid (show b2 ≠ g by omega)
    have HLT := Lib.hid hx2
    have HC := Lib.hid (And.intro m2 m3)
    have HQJ := Lib.hid qj
    have HGL := Lib.hid (show g < w.heap.size by omega)
    have HA1 := Lib.hid (fun w1 (hj : Junk V w1) => side_any p.src sp HS.out hspb w1 (HBV.out.pow.on hj))
    have HA2 := Lib.hid (fun w1 (hj : Junk V w1) => side_any p.dst dp HD.out hdpb w1 (HBV.out.pow.on hj))
    obtain ⟨s1, hs1⟩ : ∃ s, sideS p.src sp = s := ⟨_, rfl⟩
    obtain ⟨s2, hs2⟩ : ∃ s, sideS p.dst dp = s := ⟨_, rfl⟩
    rw [hs1] at HA1
    rw [hs2] at HA2
    have HS1 := Lib.hid (fun w1 (hj : Junk V w1) k (hk : k = w1.heap.size) os d => show Calls Tryd.prog 17 #[.pointer (some ⟨g, 0, none⟩), .slice (some ⟨k, 0, none⟩) 4 4] ((w1.alloc (.cells #[.string ⟨#[117, 100, 112]⟩, .string s1, .string ⟨#[62]⟩, .string s2] 9)).junk os d) fun e w' => e = .returned (.tuple #[]) ∧ WdAt V g w' [⟨#[117, 100, 112]⟩, s1, ⟨#[62]⟩, s2] from
      say_lit HBV.out [] [⟨#[117, 100, 112]⟩, s1, ⟨#[62]⟩, s2] V HBV.out.start 4 rfl (by simp) w1 hj k hk os d)
    have HE := Lib.hid (show bodyW p = some ([tUDP, s1, tGT, s2] ++ [tLEN, itoaS n] ++ if ns = true then [tNOSUM] else []) by rw [HE0]; unfold udpW; rw [hs1, hs2])
    clear hB qj hs1 hs2 hb1 hb2 hgl qs HE0 hspb hdpb
    refine wp_region_mixn (V) 12 [(0, true), (1, true), (2, true), (3, true), (4, true), (5, true), (6, true), (7, true), (8, true), (9, true), (10, true), (11, false), (12, false)] (by kernel_rfl) (by kernel_rfl) (by (repeat (first | with_reducible exact Junk.refl _ | with_reducible exact Junk.app _ _ _ _ _ | with_reducible apply Junk.alloc | with_reducible apply Junk.junk | with_reducible apply Junk.drew | with_reducible apply Junk.drewN))) ?_; (iterate 11 (refine wpMixL_q rfl (fun K hK => ?_); (go_simp; try go_bits); first | (refine hK _ ?_; clear hK K) | (apply Exists.intro; refine ⟨fun _ => ?_, hK _ ?_⟩; (first | (go_at_call 42; first | with_reducible exact HA1.out _ (by (first | ((repeat (first | with_reducible exact Junk.refl _ | with_reducible exact Junk.app _ _ _ _ _ | with_reducible apply Junk.alloc | with_reducible apply Junk.junk | with_reducible apply Junk.drew | with_reducible apply Junk.drewN)); done) | ((try simp only [World.junk_junk, Array.append_assoc]); (repeat (first | with_reducible exact Junk.refl _ | with_reducible exact Junk.app _ _ _ _ _ | with_reducible exact Junk.app2 _ _ _ _ _ _ | with_reducible exact Junk.app3 _ _ _ _ _ _ _ | with_reducible exact Junk.app4 _ _ _ _ _ _ _ _ | with_reducible exact Junk.app5 _ _ _ _ _ _ _ _ _ | with_reducible apply Junk.alloc | with_reducible apply Junk.junk | with_reducible apply Junk.drew | with_reducible apply Junk.drewN))))) | with_reducible exact HA2.out _ (by (first | ((repeat (first | with_reducible exact Junk.refl _ | with_reducible exact Junk.app _ _ _ _ _ | with_reducible apply Junk.alloc | with_reducible apply Junk.junk | with_reducible apply Junk.drew | with_reducible apply Junk.drewN)); done) | ((try simp only [World.junk_junk, Array.append_assoc]); (repeat (first | with_reducible exact Junk.refl _ | with_reducible exact Junk.app _ _ _ _ _ | with_reducible exact Junk.app2 _ _ _ _ _ _ | with_reducible exact Junk.app3 _ _ _ _ _ _ _ | with_reducible exact Junk.app4 _ _ _ _ _ _ _ _ | with_reducible exact Junk.app5 _ _ _ _ _ _ _ _ _ | with_reducible apply Junk.alloc | with_reducible apply Junk.junk | with_reducible apply Junk.drew | with_reducible apply Junk.drewN))))))); clear hK K))); refine wpMixL_e rfl (fun osm12_0 dm12_0 K hK => ?_); (go_simp; try go_bits); refine hK _ _ (Junk.pair (by (repeat (first | with_reducible exact Junk.refl _ | with_reducible exact Junk.app _ _ _ _ _ | with_reducible apply Junk.alloc | with_reducible apply Junk.junk | with_reducible apply Junk.drew | with_reducible apply Junk.drewN | (with_reducible refine Junk.setCell ?_ (by simp) _))))) ?_; clear hK K; refine wpMixL_last rfl (fun osm12_1 dm12_1 K hK => ?_); (go_simp; try go_bits); (go_at_call 17; (with_reducible refine (HS1.out _ (by (first | ((repeat (first | with_reducible exact Junk.refl _ | with_reducible exact Junk.app _ _ _ _ _ | with_reducible apply Junk.alloc | with_reducible apply Junk.junk | with_reducible apply Junk.drew | with_reducible apply Junk.drewN)); done) | ((try simp only [World.junk_junk, Array.append_assoc]); (repeat (first | with_reducible exact Junk.refl _ | with_reducible exact Junk.app _ _ _ _ _ | with_reducible exact Junk.app2 _ _ _ _ _ _ | with_reducible exact Junk.app3 _ _ _ _ _ _ _ | with_reducible exact Junk.app4 _ _ _ _ _ _ _ _ | with_reducible exact Junk.app5 _ _ _ _ _ _ _ _ _ | with_reducible apply Junk.alloc | with_reducible apply Junk.junk | with_reducible apply Junk.drew | with_reducible apply Junk.drewN))))) _ (by first | rfl | simp) _ _).mono ?_); rintro e w' ⟨rfl, hw⟩; have HW := Lib.hid hw; clear hw); refine hK _ _ ?_; clear hK K; refine wpMixL_nil (fun osm dm => ?_)
    have hw1 := HW.out.on (show Junk w' (w'.junk osm dm) from ⟨_, _, rfl⟩)
    generalize w'.junk osm dm = w1 at hw1 ⊢
    have HW := Lib.hid hw1
    clear hw1
    have m2 := (HW.out.cell HNE.out HLT.out).trans HC.out.1; have m3 := (HW.out.cell HNE.out HLT.out).trans HC.out.2; have hlw := Nat.lt_of_lt_of_le HLT.out HW.out.size
    go_wp2_with (first | (go_at_call 18; (with_reducible refine (num_any HBV.out _ _ (by omega) _ _ (HW.out.on (by (first | ((repeat (first | with_reducible exact Junk.refl _ | with_reducible exact Junk.app _ _ _ _ _ | with_reducible apply Junk.alloc | with_reducible apply Junk.junk | with_reducible apply Junk.drew | with_reducible apply Junk.drewN)); done) | ((try simp only [World.junk_junk, Array.append_assoc]); (repeat (first | with_reducible exact Junk.refl _ | with_reducible exact Junk.app _ _ _ _ _ | with_reducible exact Junk.app2 _ _ _ _ _ _ | with_reducible exact Junk.app3 _ _ _ _ _ _ _ | with_reducible exact Junk.app4 _ _ _ _ _ _ _ _ | with_reducible exact Junk.app5 _ _ _ _ _ _ _ _ _ | with_reducible apply Junk.alloc | with_reducible apply Junk.junk | with_reducible apply Junk.drew | with_reducible apply Junk.drewN)))))) (by simp)).mono ?_); rintro e w' ⟨rfl, hw⟩; (have HW := Lib.hid hw); clear hw; have m2 := (HW.out.cell HNE.out HLT.out).trans HC.out.1; have m3 := (HW.out.cell HNE.out HLT.out).trans HC.out.2; have hlw := Nat.lt_of_lt_of_le HLT.out HW.out.size) | (go_at_call 19; (with_reducible refine (flag_any HBV.out _ _ _ _ (HW.out.on (by (first | ((repeat (first | with_reducible exact Junk.refl _ | with_reducible exact Junk.app _ _ _ _ _ | with_reducible apply Junk.alloc | with_reducible apply Junk.junk | with_reducible apply Junk.drew | with_reducible apply Junk.drewN)); done) | ((try simp only [World.junk_junk, Array.append_assoc]); (repeat (first | with_reducible exact Junk.refl _ | with_reducible exact Junk.app _ _ _ _ _ | with_reducible exact Junk.app2 _ _ _ _ _ _ | with_reducible exact Junk.app3 _ _ _ _ _ _ _ | with_reducible exact Junk.app4 _ _ _ _ _ _ _ _ | with_reducible exact Junk.app5 _ _ _ _ _ _ _ _ _ | with_reducible apply Junk.alloc | with_reducible apply Junk.junk | with_reducible apply Junk.drew | with_reducible apply Junk.drewN)))))) (by simp)).mono ?_); rintro e w' ⟨rfl, hw⟩; (have HW := Lib.hid hw); clear hw))
    go_returns
    exact bodyM_ok HE.out (HW.out.down HQJ.out HGL.out)
  · have HE := Lib.hid (show bodyW p = none by unfold bodyW; rw [if_neg (by omega), if_pos h17, if_neg h0])
    obtain ⟨E, hE⟩ : ∃ E, udpErr p.src p.dst p.body p.bl = E := ⟨_, rfl⟩
    rw [hE] at h0
    have hne : (E != 0) = true := by simpa using h0
    have HTP := Lib.hid (fun w1 (hb : Bts w1 ob p.bl bc p.body) => show Calls Tryd.prog 41 #[.int .u32 p.src, .int .u32 p.dst, .slice ob p.bl bc] w1 fun e w' => e = .returned (.tuple #[.agg #[.int .i64 0, .int .i64 0, .bool false, .slice none 0 0], .int .i64 E]) ∧ Junk w1 w' from (uparse_any p.src p.dst ob p.bl bc p.body w1 hP.src hP.dst hl hb).mono fun e w' hq => by
      obtain ⟨hj, ⟨_, h1⟩ | ⟨h1, _⟩⟩ := hq
      · rw [hE] at h1; exact ⟨h1, hj⟩
      · exact absurd (hE.symm.trans h1) h0)
    clear hB hP hl h17 h0 hE
    go_enter Tryd.func20, Tryd.ntmps20
    go_wp2_with (first | (go_at_call 41; (with_reducible refine (HTP.out _ (HP.out.body.on (by (first | ((repeat (first | with_reducible exact Junk.refl _ | with_reducible exact Junk.app _ _ _ _ _ | with_reducible apply Junk.alloc | with_reducible apply Junk.junk | with_reducible apply Junk.drew | with_reducible apply Junk.drewN)); done) | ((try simp only [World.junk_junk, Array.append_assoc]); (repeat (first | with_reducible exact Junk.refl _ | with_reducible exact Junk.app _ _ _ _ _ | with_reducible exact Junk.app2 _ _ _ _ _ _ | with_reducible exact Junk.app3 _ _ _ _ _ _ _ | with_reducible exact Junk.app4 _ _ _ _ _ _ _ _ | with_reducible exact Junk.app5 _ _ _ _ _ _ _ _ _ | with_reducible apply Junk.alloc | with_reducible apply Junk.junk | with_reducible apply Junk.drew | with_reducible apply Junk.drewN))))))).mono ?_); rintro e w' ⟨rfl, ⟨osj, dj, rfl⟩⟩))
    go_returns
    exact bodyM_no HE.out (by (first | ((repeat (first | with_reducible exact Junk.refl _ | with_reducible exact Junk.app _ _ _ _ _ | with_reducible apply Junk.alloc | with_reducible apply Junk.junk | with_reducible apply Junk.drew | with_reducible apply Junk.drewN)); done) | ((try simp only [World.junk_junk, Array.append_assoc]); (repeat (first | with_reducible exact Junk.refl _ | with_reducible exact Junk.app _ _ _ _ _ | with_reducible exact Junk.app2 _ _ _ _ _ _ | with_reducible exact Junk.app3 _ _ _ _ _ _ _ | with_reducible exact Junk.app4 _ _ _ _ _ _ _ _ | with_reducible exact Junk.app5 _ _ _ _ _ _ _ _ _ | with_reducible apply Junk.alloc | with_reducible apply Junk.junk | with_reducible apply Junk.drew | with_reducible apply Junk.drewN)))))
theorem body_any (g : Nat) (p : Ip) (oo ob : Option Addr) (oc bc : Nat) (w : World) (hB : WB w g) (hP : IpAt w p oo oc ob bc) (hl : p.bl ≤ 100000000) : Calls Tryd.prog 20 #[.pointer (some ⟨g, 0, none⟩), .agg #[.int .i64 p.tos, .int .i64 p.id, .bool p.df, .bool p.mf, .int .i64 p.off, .int .i64 p.ttl, .int .i64 p.proto, .int .u32 p.src, .int .u32 p.dst, .slice oo p.ol oc, .slice ob p.bl bc]] w (BodyM w g p) := by
  by_cases h6 : p.proto = 6
  · exact body_tcp g p oo ob oc bc w hB hP hl h6
  by_cases h17 : p.proto = 17
  · exact body_udp g p oo ob oc bc w hB hP hl h17
  by_cases h1 : p.proto = 1
  · exact body_icmp g p oo ob oc bc w hB hP hl h1
  · exact body_none g p oo ob oc bc w hB hP hl h6 h17 h1
end Go.Proofs.YtfkhnhenemgcmaaDoor
set_option linter.unusedVariables false
set_option maxRecDepth 100000
set_option linter.unusedSimpArgs false
namespace Go.Proofs.YtfkhnhenemgcmaaDoor
open Go.RowKit
def tPIECE : ByteArray := ⟨#[112, 105, 101, 99, 101]⟩
def tID : ByteArray := ⟨#[105, 100]⟩
def tOFF : ByteArray := ⟨#[111, 102, 102]⟩
def tMORE : ByteArray := ⟨#[109, 111, 114, 101]⟩
def tIP : ByteArray := ⟨#[105, 112]⟩
def tPROTO : ByteArray := ⟨#[112, 114, 111, 116, 111]⟩
def tTTL : ByteArray := ⟨#[116, 116, 108]⟩
def tDF : ByteArray := ⟨#[100, 102]⟩
def tSP : ByteArray := ⟨#[32]⟩
def pcB (p : Ip) : Bool := p.mf || (p.off != 0)
def pieceW (p : Ip) : List ByteArray := [tPIECE, adrS p.src, tGT, adrS p.dst] ++ [tID, itoaS p.id] ++ [tOFF, itoaS p.off] ++ [tLEN, itoaS p.bl] ++ if p.mf = true then [tMORE] else []
def plainW (p : Ip) : List ByteArray := [tIP, adrS p.src, tGT, adrS p.dst] ++ [tPROTO, itoaS p.proto] ++ [tLEN, itoaS p.bl]
def headW (p : Ip) : List ByteArray := if pcB p = true then pieceW p else match bodyW p with
  | some M => M
  | none => plainW p
def lineW (p : Ip) : List ByteArray := headW p ++ [tTTL, itoaS p.ttl] ++ if p.df = true then [tDF] else []
def lineS (xs : Nat → Int) (l : Nat) : ByteArray := if parseErr xs l = 0 then joinS (lineW (parseIp xs)) tSP else ⟨#[110, 111, 110, 101, 32]⟩ ++ itoaS (parseErr xs l)
/-- Short words. -/
def SmL (n : Nat) (L : List ByteArray) : Prop := L.length ≤ n ∧ ∀ x ∈ L, x.size ≤ 200
theorem SmL.app {n m : Nat} {L M : List ByteArray} (h : SmL n L) (g : SmL m M) : SmL (n + m) (L ++ M) :=
  ⟨by rw [List.length_append]; have := h.1; have := g.1; omega, fun x hx => (List.mem_append.1 hx).elim (h.2 x) (g.2 x)⟩
theorem SmL.nil (n : Nat) : SmL n [] := ⟨Nat.zero_le _, fun x hx => by cases hx⟩
theorem SmL.cons {n : Nat} {x : ByteArray} {L : List ByteArray} (hx : x.size ≤ 200) (h : SmL n L) : SmL (n + 1) (x :: L) :=
  ⟨by rw [List.length_cons]; have := h.1; omega, fun y hy => by
    rcases List.mem_cons.1 hy with rfl | hy
    · exact hx
    · exact h.2 y hy⟩
theorem SmL.mono {n m : Nat} {L : List ByteArray} (h : SmL n L) (hn : n ≤ m) : SmL m L := ⟨Nat.le_trans h.1 hn, h.2⟩
theorem SmL.one {b : Bool} {x : ByteArray} (hx : x.size ≤ 200) : SmL 1 (if b = true then [x] else []) := by
  cases b with
  | true => exact SmL.cons hx (SmL.nil 0)
  | false => exact SmL.nil 1
theorem joinTail_le (sep : List UInt8) : ∀ (r : List (List UInt8)), (∀ x ∈ r, x.length ≤ 200) → (Lib.joinTail sep r).length ≤ r.length * (sep.length + 200)
  | [], _ => by simp [Lib.joinTail]
  | x :: r, h => by
    have h1 := joinTail_le sep r (fun y hy => h y (by simp [hy]))
    have h2 := h x (by simp)
    unfold Lib.joinTail at h1 ⊢
    simp only [List.map_cons, List.flatten_cons, List.length_append, List.length_cons] at h1 ⊢
    rw [Nat.succ_mul]
    omega
theorem joinL_le {L : List ByteArray} {n : Nat} (h : SmL n L) (hn : n ≤ 1000) : (joinL L tSP).length ≤ 100000000 := by
  unfold joinL
  cases L with
  | nil => simp [Lib.join_nil]
  | cons x r =>
    rw [List.map_cons, Lib.join_cons, List.length_append]
    have h1 := joinTail_le tSP.data.toList (r.map (·.data.toList)) (fun y hy => by
      obtain ⟨z, hz, rfl⟩ := List.mem_map.1 hy
      have := h.2 z (by simp [hz])
      show z.data.toList.length ≤ 200
      rw [Array.length_toList]
      exact this)
    have h2 : x.data.toList.length ≤ 200 := by rw [Array.length_toList]; exact h.2 x (by simp)
    have h3 := h.1
    rw [List.length_cons] at h3
    rw [List.length_map] at h1
    have h4 : tSP.data.toList.length = 1 := rfl
    rw [h4] at h1
    have h5 : r.length * (1 + 200) ≤ 1000 * (1 + 200) := Nat.mul_le_mul_right _ (by omega)
    omega
theorem sideS_size {a p : Int} (h : 0 ≤ a ∧ a ≤ 4294967295) (hp : 0 ≤ p ∧ p ≤ 65535) : (sideS a p).size ≤ 200 := by
  unfold sideS
  have h1 := adrS_size h
  have h2 := itoaS_size (n := p) (by omega)
  have h3 : (⟨#[58]⟩ : ByteArray).size = 1 := rfl
  simp only [ByteArray.size_append]
  omega
theorem adrS_sm {a : Int} (h : 0 ≤ a ∧ a ≤ 4294967295) : (adrS a).size ≤ 200 := by have := adrS_size h; omega
theorem itoaS_sm {n : Int} (h0 : -9223372036854775808 ≤ n ∧ n ≤ 9223372036854775807) : (itoaS n).size ≤ 200 := by have := itoaS_size h0; omega
theorem flagsS_sm (f : Int) : (flagsS f).size ≤ 200 := by
  unfold flagsS
  split
  · decide
  · have := flS_size f 8; omega
theorem optW_sm : ∀ ks : List Int, (∀ k ∈ ks, 0 ≤ k ∧ k ≤ 255) → SmL (2 * ks.length) (optW ks)
  | [], _ => SmL.nil _
  | k :: ks, h => by
    have h1 := optW_sm ks (fun y hy => h y (by simp [hy]))
    have h2 := h k (by simp)
    have := (SmL.cons (x := tOPT) (by decide) (SmL.cons (x := itoaS k) (itoaS_sm (by omega)) (SmL.nil 0))).app h1
    unfold optW at this ⊢
    rw [List.map_cons, List.flatten_cons]
    exact this.mono (by rw [List.length_cons]; omega)
theorem tcpW_sm {src dst : Int} (hs : 0 ≤ src ∧ src ≤ 4294967295) (hd : 0 ≤ dst ∧ dst ≤ 4294967295) {t : Tc} (ht : t.Bd) {ks : List Int} (hk : ∀ k ∈ ks, 0 ≤ k ∧ k ≤ 255) (hl : ks.length ≤ 100) : SmL 250 (tcpW src dst t ks) := by
  have b1 := ht.sq; have b2 := ht.ak; have b3 := ht.wi; have b4 := ht.bl
  have h1 : SmL 5 [tTCP, sideS src t.sport, tGT, sideS dst t.dport, flagsS t.flags] := SmL.cons (by decide) (SmL.cons (sideS_size hs ht.sp) (SmL.cons (by decide) (SmL.cons (sideS_size hd ht.dp) (SmL.cons (flagsS_sm _) (SmL.nil 0)))))
  have h2 : SmL 4 [tSEQ, itoaS t.seq, tACK, itoaS t.ack] := SmL.cons (by decide) (SmL.cons (itoaS_sm (by omega)) (SmL.cons (by decide) (SmL.cons (itoaS_sm (by omega)) (SmL.nil 0))))
  have h3 : SmL 2 [tWIN, itoaS t.win] := SmL.cons (by decide) (SmL.cons (itoaS_sm (by omega)) (SmL.nil 0))
  have h4 : SmL 2 [tLEN, itoaS t.bl] := SmL.cons (by decide) (SmL.cons (itoaS_sm (by omega)) (SmL.nil 0))
  exact ((((h1.app h2).app h3).app h4).app (optW_sm ks hk)).mono (by omega)
theorem udpW_sm {src dst sp dp : Int} (hs : 0 ≤ src ∧ src ≤ 4294967295) (hd : 0 ≤ dst ∧ dst ≤ 4294967295) (hsp : 0 ≤ sp ∧ sp ≤ 65535) (hdp : 0 ≤ dp ∧ dp ≤ 65535) {n : Nat} (hn : n ≤ 100000000) (ns : Bool) : SmL 250 (udpW src dst sp dp n ns) := by
  have h1 : SmL 4 [tUDP, sideS src sp, tGT, sideS dst dp] := SmL.cons (by decide) (SmL.cons (sideS_size hs hsp) (SmL.cons (by decide) (SmL.cons (sideS_size hd hdp) (SmL.nil 0))))
  have h2 : SmL 2 [tLEN, itoaS n] := SmL.cons (by decide) (SmL.cons (itoaS_sm (by omega)) (SmL.nil 0))
  exact ((h1.app h2).app (SmL.one (by decide))).mono (by omega)
theorem icmpW_sm {src dst t c r : Int} (hs : 0 ≤ src ∧ src ≤ 4294967295) (hd : 0 ≤ dst ∧ dst ≤ 4294967295) (ht : 0 ≤ t ∧ t ≤ 255) (hc : 0 ≤ c ∧ c ≤ 255) (hr : 0 ≤ r ∧ r ≤ 4294967295) {n : Nat} (hn : n ≤ 100000000) : SmL 250 (icmpW src dst t c r n) := by
  have h0 := nameI_bd (t := t) hr
  have h1 : SmL 4 [tICMP, adrS src, tGT, adrS dst] := SmL.cons (by decide) (SmL.cons (adrS_sm hs) (SmL.cons (by decide) (SmL.cons (adrS_sm hd) (SmL.nil 0))))
  have h2 : SmL 2 [tTYPE, itoaS t] := SmL.cons (by decide) (SmL.cons (itoaS_sm (by omega)) (SmL.nil 0))
  have h3 : SmL 2 [tCODE, itoaS c] := SmL.cons (by decide) (SmL.cons (itoaS_sm (by omega)) (SmL.nil 0))
  have h4 : SmL 2 [tLEN, itoaS n] := SmL.cons (by decide) (SmL.cons (itoaS_sm (by omega)) (SmL.nil 0))
  have h5 : SmL 2 (if (asksB t || answersB t) = true then [tNAME, itoaS (nameI t r)] else []) := by
    split
    · exact SmL.cons (by decide) (SmL.cons (itoaS_sm (by omega)) (SmL.nil 0))
    · exact SmL.nil 2
  exact ((((h1.app h2).app h3).app h4).app h5).mono (by omega)
/-- A packet's numbers are as small as a head's. -/
structure Ip.Bd (p : Ip) : Prop where
  id : 0 ≤ p.id ∧ p.id ≤ 65535
  off : 0 ≤ p.off ∧ p.off ≤ 65535
  ttl : 0 ≤ p.ttl ∧ p.ttl ≤ 255
  proto : 0 ≤ p.proto ∧ p.proto ≤ 255
  src : 0 ≤ p.src ∧ p.src ≤ 4294967295
  dst : 0 ≤ p.dst ∧ p.dst ≤ 4294967295
  bl : p.bl ≤ 100000000
  body : ∀ i, i < p.bl → 0 ≤ p.body i ∧ p.body i ≤ 255
theorem bodyW_sm {p : Ip} (h : p.Bd) {M : List ByteArray} (hm : bodyW p = some M) : SmL 250 M := by
  unfold bodyW at hm
  split at hm
  · split at hm
    · rename_i h0
      simp only [Option.some.injEq] at hm
      subst hm
      obtain ⟨hbd, hlen, hks⟩ := tcp_bd h0 h.body h.bl
      exact tcpW_sm h.src h.dst hbd (fun k hk => by obtain ⟨f, hf, rfl⟩ := List.mem_map.1 hk; exact hks f hf) (by rw [List.length_map]; exact hlen)
    · cases hm
  · split at hm
    · split at hm
      · rename_i h0
        simp only [Option.some.injEq] at hm
        subst hm
        have h8 : 8 ≤ p.bl ∧ uSize p.body ≤ p.bl := by
          unfold udpErr at h0
          split at h0
          · cases h0
          · split at h0
            · cases h0
            · omega
        have x0 := h.body 0 (by omega); have x1 := h.body 1 (by omega); have x2 := h.body 2 (by omega); have x3 := h.body 3 (by omega)
        have := h.bl
        exact udpW_sm h.src h.dst (by omega) (by omega) (by omega) _
      · cases hm
    · split at hm
      · split at hm
        · rename_i h0
          simp only [Option.some.injEq] at hm
          subst hm
          have h8 : 8 ≤ p.bl := by
            unfold pErr at h0
            split at h0
            · cases h0
            · omega
          have x0 := h.body 0 (by omega); have x1 := h.body 1 (by omega); have x4 := h.body 4 (by omega); have x5 := h.body 5 (by omega); have x6 := h.body 6 (by omega); have x7 := h.body 7 (by omega)
          have := h.bl
          exact icmpW_sm h.src h.dst x0 x1 (by unfold pRest; omega) (by omega)
        · cases hm
      · cases hm
theorem pieceW_sm {p : Ip} (h : p.Bd) : SmL 250 (pieceW p) := by
  have b1 := h.id; have b2 := h.off; have b3 := h.bl
  have h1 : SmL 4 [tPIECE, adrS p.src, tGT, adrS p.dst] := SmL.cons (by decide) (SmL.cons (adrS_sm h.src) (SmL.cons (by decide) (SmL.cons (adrS_sm h.dst) (SmL.nil 0))))
  have h2 : SmL 2 [tID, itoaS p.id] := SmL.cons (by decide) (SmL.cons (itoaS_sm (by omega)) (SmL.nil 0))
  have h3 : SmL 2 [tOFF, itoaS p.off] := SmL.cons (by decide) (SmL.cons (itoaS_sm (by omega)) (SmL.nil 0))
  have h4 : SmL 2 [tLEN, itoaS p.bl] := SmL.cons (by decide) (SmL.cons (itoaS_sm (by omega)) (SmL.nil 0))
  exact ((((h1.app h2).app h3).app h4).app (SmL.one (by decide))).mono (by omega)
theorem plainW_sm {p : Ip} (h : p.Bd) : SmL 250 (plainW p) := by
  have b1 := h.proto; have b3 := h.bl
  have h1 : SmL 4 [tIP, adrS p.src, tGT, adrS p.dst] := SmL.cons (by decide) (SmL.cons (adrS_sm h.src) (SmL.cons (by decide) (SmL.cons (adrS_sm h.dst) (SmL.nil 0))))
  have h2 : SmL 2 [tPROTO, itoaS p.proto] := SmL.cons (by decide) (SmL.cons (itoaS_sm (by omega)) (SmL.nil 0))
  have h4 : SmL 2 [tLEN, itoaS p.bl] := SmL.cons (by decide) (SmL.cons (itoaS_sm (by omega)) (SmL.nil 0))
  exact ((h1.app h2).app h4).mono (by omega)
theorem headW_sm {p : Ip} (h : p.Bd) : SmL 250 (headW p) := by
  unfold headW
  split
  · exact pieceW_sm h
  · cases hb : bodyW p with
    | none => exact plainW_sm h
    | some M => exact bodyW_sm h hb
theorem lineW_sm {p : Ip} (h : p.Bd) : SmL 260 (lineW p) := by
  have b1 := h.ttl
  have h2 : SmL 2 [tTTL, itoaS p.ttl] := SmL.cons (by decide) (SmL.cons (itoaS_sm (by omega)) (SmL.nil 0))
  exact (((headW_sm h).app h2).app (SmL.one (by decide))).mono (by omega)
theorem parse_bd {xs : Nat → Int} {l : Nat} (h : parseErr xs l = 0) (hx : ∀ i, i < l → 0 ≤ xs i ∧ xs i ≤ 255) (hl : l ≤ 100000000) : (parseIp xs).Bd := by
  have hl : lenErr xs l = 0 := by
    unfold parseErr at h
    split at h
    · exact h
    · rename_i h1; simpa using h1
  obtain ⟨k1, k0, k2, k3, k4, k5, _⟩ := lenErr_zero hl
  have x := fun i (hi : i < 20) => hx i (by omega)
  have x0 := x 0 (by omega); have x1 := x 1 (by omega); have x2 := x 2 (by omega); have x3 := x 3 (by omega); have x4 := x 4 (by omega); have x5 := x 5 (by omega); have x6 := x 6 (by omega); have x7 := x 7 (by omega)
  have x8 := x 8 (by omega); have x9 := x 9 (by omega); have x12 := x 12 (by omega); have x13 := x 13 (by omega); have x14 := x 14 (by omega); have x15 := x 15 (by omega)
  have x16 := x 16 (by omega); have x17 := x 17 (by omega); have x18 := x 18 (by omega); have x19 := x 19 (by omega)
  unfold ipSize at k2 k3 k4
  unfold ipTotal at k4 k5
  refine ⟨?_, ?_, ?_, ?_, ?_, ?_, ?_, fun i hi => ?_⟩
  · simp only [parseIp, mkIp, ipFlags, ipSize, ipTotal]; omega
  · simp only [parseIp, mkIp, ipFlags, ipSize, ipTotal]; omega
  · simp only [parseIp, mkIp, ipFlags, ipSize, ipTotal]; omega
  · simp only [parseIp, mkIp, ipFlags, ipSize, ipTotal]; omega
  · simp only [parseIp, mkIp, ipFlags, ipSize, ipTotal]; omega
  · simp only [parseIp, mkIp, ipFlags, ipSize, ipTotal]; omega
  · simp only [parseIp, mkIp, ipFlags, ipSize, ipTotal]; omega
  · simp only [parseIp, mkIp, ipFlags, ipSize, ipTotal] at hi ⊢
    exact hx _ (by omega)
theorem parseErr_bd {xs : Nat → Int} {l : Nat} : 0 ≤ parseErr xs l ∧ parseErr xs l ≤ 7 := by
  unfold parseErr lenErr
  repeat' split
  all_goals omega
end Go.Proofs.YtfkhnhenemgcmaaDoor
set_option linter.unusedVariables false
set_option maxRecDepth 100000
set_option linter.unusedSimpArgs false
namespace Go.Proofs.YtfkhnhenemgcmaaDoor
open Go.RowKit
theorem pc_any (c0 c1 c2 c5 c6 c7 c8 c9 c10 : Value) (m : Bool) (off : Int) (w : World) : Calls Tryd.prog 16 #[.agg #[c0, c1, c2, .bool m, .int .i64 off, c5, c6, c7, c8, c9, c10]] w fun e w' => e = .returned (.bool (m || (off != 0))) ∧ Junk w w' := by
  cases m with
  | true =>
    go_enter Tryd.func16, Tryd.ntmps16
    go_wp2
    go_ret
    exact ⟨ret_bool rfl, by (first | ((repeat (first | with_reducible exact Junk.refl _ | with_reducible exact Junk.app _ _ _ _ _ | with_reducible apply Junk.alloc | with_reducible apply Junk.junk | with_reducible apply Junk.drew | with_reducible apply Junk.drewN)); done) | ((try simp only [World.junk_junk, Array.append_assoc]); (repeat (first | with_reducible exact Junk.refl _ | with_reducible exact Junk.app _ _ _ _ _ | with_reducible exact Junk.app2 _ _ _ _ _ _ | with_reducible exact Junk.app3 _ _ _ _ _ _ _ | with_reducible exact Junk.app4 _ _ _ _ _ _ _ _ | with_reducible exact Junk.app5 _ _ _ _ _ _ _ _ _ | with_reducible apply Junk.alloc | with_reducible apply Junk.junk | with_reducible apply Junk.drew | with_reducible apply Junk.drewN))))⟩
  | false =>
    go_enter Tryd.func16, Tryd.ntmps16
    go_wp2
    go_ret
    exact ⟨ret_bool rfl, by (first | ((repeat (first | with_reducible exact Junk.refl _ | with_reducible exact Junk.app _ _ _ _ _ | with_reducible apply Junk.alloc | with_reducible apply Junk.junk | with_reducible apply Junk.drew | with_reducible apply Junk.drewN)); done) | ((try simp only [World.junk_junk, Array.append_assoc]); (repeat (first | with_reducible exact Junk.refl _ | with_reducible exact Junk.app _ _ _ _ _ | with_reducible exact Junk.app2 _ _ _ _ _ _ | with_reducible exact Junk.app3 _ _ _ _ _ _ _ | with_reducible exact Junk.app4 _ _ _ _ _ _ _ _ | with_reducible exact Junk.app5 _ _ _ _ _ _ _ _ _ | with_reducible apply Junk.alloc | with_reducible apply Junk.junk | with_reducible apply Junk.drew | with_reducible apply Junk.drewN))))⟩
theorem WB.make {w V : World} {g : Nat} (hp : PowT w) (hj : Junk w V) (hg : w.heap.size ≤ g) (hlt : g < V.heap.size) (hc : V.cell? ⟨g, 0, none⟩ = some (.slice none 0 0)) (hf : V.frozen? ⟨g, 0, none⟩ = false) (hn : ∀ i k v, V.cell? ⟨g, i, none⟩ ≠ some (.int k v)) : WB V g :=
  ⟨hlt, hc, hf, hn, fun x w' h => hp.on ((hj.setCell hg x).trans h)⟩
theorem WdAt.read {V : World} {g : Nat} {w : World} {L : List ByteArray} (hB : WB V g) (h : WdAt V g w L) : ∃ oa cap, w.cell? ⟨g, 0, none⟩ = some (.slice oa L.length cap) ∧ Own V.heap.size w 9 1 oa cap L.length (L.map Value.string) := by
  obtain ⟨oa, cap, ⟨os, d, rfl⟩, hO⟩ := h
  refine ⟨oa, cap, ?_, hO⟩
  rw [World.cell?_junk _ _ _ _ _ (by rw [setCell_size]; exact hB.lt)]
  exact World.cell?_setCell_same _ _ _ hB.cell
theorem WdAt.base {V w0 : World} {g : Nat} {w : World} {L : List ByteArray} (h : WdAt V g w L) (hj : Junk w0 V) (hg : w0.heap.size ≤ g) : Junk w0 w := by
  obtain ⟨oa, cap, h1, _⟩ := h
  exact (hj.setCell hg _).trans h1
set_option maxRecDepth 100000 in
set_option maxHeartbeats 16000000 in
theorem line_piece (oa : Option Addr) (l c : Nat) (xs : Nat → Int) (w : World) (hl : l ≤ 100000000) (hB : Bts w oa l c xs) (ht : PowT w) (h0 : parseErr xs l = 0) (hpc : pcB (parseIp xs) = true) :
    Calls Tryd.prog 7 #[.slice oa l c] w fun e w' => e = .returned (.string (lineS xs l)) ∧ Junk w w' := by
  have HB := Lib.hid hB
  have hbd := parse_bd h0 hB.byte hl
  have HPS := fun w1 (hb : Bts w1 oa l c xs) => (ipParse_any oa l c xs w1 hl hb).mono fun e w' hq => show ∃ (oo ob : Option Addr) (oc bc : Nat), e = .returned (.tuple #[.agg #[.int .i64 (parseIp xs).tos, .int .i64 (parseIp xs).id, .bool (parseIp xs).df, .bool (parseIp xs).mf, .int .i64 (parseIp xs).off, .int .i64 (parseIp xs).ttl, .int .i64 (parseIp xs).proto, .int .u32 (parseIp xs).src, .int .u32 (parseIp xs).dst, .slice oo (parseIp xs).ol oc, .slice ob (parseIp xs).bl bc], .int .i64 0]) ∧ Junk w1 w' ∧ IpAt w' (parseIp xs) oo oc ob bc by
    obtain ⟨p, oo, ob, oc, bc, rfl, hj, hP, ⟨_, rfl⟩ | ⟨h1, _⟩⟩ := hq
    · exact ⟨oo, ob, oc, bc, by rw [h0], hj, hP⟩
    · exact absurd h0 h1
  have HE : lineS xs l = joinS (lineW (parseIp xs)) tSP := by unfold lineS; rw [if_pos h0]
  obtain ⟨p, hp⟩ : ∃ p, parseIp xs = p := ⟨_, rfl⟩
  rw [hp] at hbd HPS HE hpc
  have HPS := Lib.hid HPS
  have HBD := Lib.hid hbd
  have b1 := hbd.id; have b2 := hbd.off; have b3 := hbd.ttl; have b4 := hbd.proto; have b5 := hbd.bl
  have HT := Lib.hid ht
  have HSM := Lib.hid (lineW_sm hbd)
  have HPI := Lib.hid (fun oo ob oc bc w1 => show Calls Tryd.prog 16 #[.agg #[.int .i64 p.tos, .int .i64 p.id, .bool p.df, .bool p.mf, .int .i64 p.off, .int .i64 p.ttl, .int .i64 p.proto, .int .u32 p.src, .int .u32 p.dst, .slice oo p.ol oc, .slice ob p.bl bc]] w1 fun e w' => e = .returned (.bool true) ∧ Junk w1 w' from by
    have := pc_any (.int .i64 p.tos) (.int .i64 p.id) (.bool p.df) (.int .i64 p.ttl) (.int .i64 p.proto) (.int .u32 p.src) (.int .u32 p.dst) (.slice oo p.ol oc) (.slice ob p.bl bc) p.mf p.off w1
    rw [show (p.mf || (p.off != 0)) = true from hpc] at this
    exact this)
  have HE := Lib.hid HE
  clear hB hbd h0 hp ht hl
  go_enter Tryd.func7, Tryd.ntmps7
  go_upto_region 5 with (first | (go_at_call 14; (with_reducible refine (HPS.out _ (HB.out.on (by (first | ((repeat (first | with_reducible exact Junk.refl _ | with_reducible exact Junk.app _ _ _ _ _ | with_reducible apply Junk.alloc | with_reducible apply Junk.junk | with_reducible apply Junk.drew | with_reducible apply Junk.drewN)); done) | ((try simp only [World.junk_junk, Array.append_assoc]); (repeat (first | with_reducible exact Junk.refl _ | with_reducible exact Junk.app _ _ _ _ _ | with_reducible exact Junk.app2 _ _ _ _ _ _ | with_reducible exact Junk.app3 _ _ _ _ _ _ _ | with_reducible exact Junk.app4 _ _ _ _ _ _ _ _ | with_reducible exact Junk.app5 _ _ _ _ _ _ _ _ _ | with_reducible apply Junk.alloc | with_reducible apply Junk.junk | with_reducible apply Junk.drew | with_reducible apply Junk.drewN))))))).mono ?_); rintro e w' ⟨oo, ob, oc, bc, rfl, ⟨osj, dj, rfl⟩, hP⟩; have HP := Lib.hid hP; clear hP))
  have m1 : (((w.junk osj dj).alloc (.cells #[.int .i64 p.tos, .int .i64 p.id, .bool p.df, .bool p.mf, .int .i64 p.off, .int .i64 p.ttl, .int .i64 p.proto, .int .u32 p.src, .int .u32 p.dst, .slice oo p.ol oc, .slice ob p.bl bc] 29)).alloc (.cells #[.slice none 0 0] 45)).cell? ⟨w.heap.size + osj.size, 1, none⟩ = some (.int .i64 p.id) := by go_simp
  have m2 : (((w.junk osj dj).alloc (.cells #[.int .i64 p.tos, .int .i64 p.id, .bool p.df, .bool p.mf, .int .i64 p.off, .int .i64 p.ttl, .int .i64 p.proto, .int .u32 p.src, .int .u32 p.dst, .slice oo p.ol oc, .slice ob p.bl bc] 29)).alloc (.cells #[.slice none 0 0] 45)).cell? ⟨w.heap.size + osj.size, 2, none⟩ = some (.bool p.df) := by go_simp
  have m3 : (((w.junk osj dj).alloc (.cells #[.int .i64 p.tos, .int .i64 p.id, .bool p.df, .bool p.mf, .int .i64 p.off, .int .i64 p.ttl, .int .i64 p.proto, .int .u32 p.src, .int .u32 p.dst, .slice oo p.ol oc, .slice ob p.bl bc] 29)).alloc (.cells #[.slice none 0 0] 45)).cell? ⟨w.heap.size + osj.size, 3, none⟩ = some (.bool p.mf) := by go_simp
  have m4 : (((w.junk osj dj).alloc (.cells #[.int .i64 p.tos, .int .i64 p.id, .bool p.df, .bool p.mf, .int .i64 p.off, .int .i64 p.ttl, .int .i64 p.proto, .int .u32 p.src, .int .u32 p.dst, .slice oo p.ol oc, .slice ob p.bl bc] 29)).alloc (.cells #[.slice none 0 0] 45)).cell? ⟨w.heap.size + osj.size, 4, none⟩ = some (.int .i64 p.off) := by go_simp
  have m5 : (((w.junk osj dj).alloc (.cells #[.int .i64 p.tos, .int .i64 p.id, .bool p.df, .bool p.mf, .int .i64 p.off, .int .i64 p.ttl, .int .i64 p.proto, .int .u32 p.src, .int .u32 p.dst, .slice oo p.ol oc, .slice ob p.bl bc] 29)).alloc (.cells #[.slice none 0 0] 45)).cell? ⟨w.heap.size + osj.size, 5, none⟩ = some (.int .i64 p.ttl) := by go_simp
  have m6 : (((w.junk osj dj).alloc (.cells #[.int .i64 p.tos, .int .i64 p.id, .bool p.df, .bool p.mf, .int .i64 p.off, .int .i64 p.ttl, .int .i64 p.proto, .int .u32 p.src, .int .u32 p.dst, .slice oo p.ol oc, .slice ob p.bl bc] 29)).alloc (.cells #[.slice none 0 0] 45)).cell? ⟨w.heap.size + osj.size, 6, none⟩ = some (.int .i64 p.proto) := by go_simp
  have m7 : (((w.junk osj dj).alloc (.cells #[.int .i64 p.tos, .int .i64 p.id, .bool p.df, .bool p.mf, .int .i64 p.off, .int .i64 p.ttl, .int .i64 p.proto, .int .u32 p.src, .int .u32 p.dst, .slice oo p.ol oc, .slice ob p.bl bc] 29)).alloc (.cells #[.slice none 0 0] 45)).cell? ⟨w.heap.size + osj.size, 7, none⟩ = some (.int .u32 p.src) := by go_simp
  have m8 : (((w.junk osj dj).alloc (.cells #[.int .i64 p.tos, .int .i64 p.id, .bool p.df, .bool p.mf, .int .i64 p.off, .int .i64 p.ttl, .int .i64 p.proto, .int .u32 p.src, .int .u32 p.dst, .slice oo p.ol oc, .slice ob p.bl bc] 29)).alloc (.cells #[.slice none 0 0] 45)).cell? ⟨w.heap.size + osj.size, 8, none⟩ = some (.int .u32 p.dst) := by go_simp
  have m10 : (((w.junk osj dj).alloc (.cells #[.int .i64 p.tos, .int .i64 p.id, .bool p.df, .bool p.mf, .int .i64 p.off, .int .i64 p.ttl, .int .i64 p.proto, .int .u32 p.src, .int .u32 p.dst, .slice oo p.ol oc, .slice ob p.bl bc] 29)).alloc (.cells #[.slice none 0 0] 45)).cell? ⟨w.heap.size + osj.size, 10, none⟩ = some (.slice ob p.bl bc) := by go_simp
  have m0 : (((w.junk osj dj).alloc (.cells #[.int .i64 p.tos, .int .i64 p.id, .bool p.df, .bool p.mf, .int .i64 p.off, .int .i64 p.ttl, .int .i64 p.proto, .int .u32 p.src, .int .u32 p.dst, .slice oo p.ol oc, .slice ob p.bl bc] 29)).alloc (.cells #[.slice none 0 0] 45)).cell? ⟨w.heap.size + osj.size, 0, none⟩ = some (.int .i64 p.tos) := by go_simp
  have m9 : (((w.junk osj dj).alloc (.cells #[.int .i64 p.tos, .int .i64 p.id, .bool p.df, .bool p.mf, .int .i64 p.off, .int .i64 p.ttl, .int .i64 p.proto, .int .u32 p.src, .int .u32 p.dst, .slice oo p.ol oc, .slice ob p.bl bc] 29)).alloc (.cells #[.slice none 0 0] 45)).cell? ⟨w.heap.size + osj.size, 9, none⟩ = some (.slice oo p.ol oc) := by go_simp
  have qj : Junk w (((w.junk osj dj).alloc (.cells #[.int .i64 p.tos, .int .i64 p.id, .bool p.df, .bool p.mf, .int .i64 p.off, .int .i64 p.ttl, .int .i64 p.proto, .int .u32 p.src, .int .u32 p.dst, .slice oo p.ol oc, .slice ob p.bl bc] 29)).alloc (.cells #[.slice none 0 0] 45)) := by (first | ((repeat (first | with_reducible exact Junk.refl _ | with_reducible exact Junk.app _ _ _ _ _ | with_reducible apply Junk.alloc | with_reducible apply Junk.junk | with_reducible apply Junk.drew | with_reducible apply Junk.drewN)); done) | ((try simp only [World.junk_junk, Array.append_assoc]); (repeat (first | with_reducible exact Junk.refl _ | with_reducible exact Junk.app _ _ _ _ _ | with_reducible exact Junk.app2 _ _ _ _ _ _ | with_reducible exact Junk.app3 _ _ _ _ _ _ _ | with_reducible exact Junk.app4 _ _ _ _ _ _ _ _ | with_reducible exact Junk.app5 _ _ _ _ _ _ _ _ _ | with_reducible apply Junk.alloc | with_reducible apply Junk.junk | with_reducible apply Junk.drew | with_reducible apply Junk.drewN))))
  have qj2 : Junk (w.junk osj dj) (((w.junk osj dj).alloc (.cells #[.int .i64 p.tos, .int .i64 p.id, .bool p.df, .bool p.mf, .int .i64 p.off, .int .i64 p.ttl, .int .i64 p.proto, .int .u32 p.src, .int .u32 p.dst, .slice oo p.ol oc, .slice ob p.bl bc] 29)).alloc (.cells #[.slice none 0 0] 45)) := by (first | ((repeat (first | with_reducible exact Junk.refl _ | with_reducible exact Junk.app _ _ _ _ _ | with_reducible apply Junk.alloc | with_reducible apply Junk.junk | with_reducible apply Junk.drew | with_reducible apply Junk.drewN)); done) | ((try simp only [World.junk_junk, Array.append_assoc]); (repeat (first | with_reducible exact Junk.refl _ | with_reducible exact Junk.app _ _ _ _ _ | with_reducible exact Junk.app2 _ _ _ _ _ _ | with_reducible exact Junk.app3 _ _ _ _ _ _ _ | with_reducible exact Junk.app4 _ _ _ _ _ _ _ _ | with_reducible exact Junk.app5 _ _ _ _ _ _ _ _ _ | with_reducible apply Junk.alloc | with_reducible apply Junk.junk | with_reducible apply Junk.drew | with_reducible apply Junk.drewN))))
  have qs : (((w.junk osj dj).alloc (.cells #[.int .i64 p.tos, .int .i64 p.id, .bool p.df, .bool p.mf, .int .i64 p.off, .int .i64 p.ttl, .int .i64 p.proto, .int .u32 p.src, .int .u32 p.dst, .slice oo p.ol oc, .slice ob p.bl bc] 29)).alloc (.cells #[.slice none 0 0] 45)).heap.size = w.heap.size + osj.size + 2 := by simp
  have qg : (((w.junk osj dj).alloc (.cells #[.int .i64 p.tos, .int .i64 p.id, .bool p.df, .bool p.mf, .int .i64 p.off, .int .i64 p.ttl, .int .i64 p.proto, .int .u32 p.src, .int .u32 p.dst, .slice oo p.ol oc, .slice ob p.bl bc] 29)).alloc (.cells #[.slice none 0 0] 45)).cell? ⟨w.heap.size + osj.size + 1, 0, none⟩ = some (.slice none 0 0) := by go_simp
  have qf : (((w.junk osj dj).alloc (.cells #[.int .i64 p.tos, .int .i64 p.id, .bool p.df, .bool p.mf, .int .i64 p.off, .int .i64 p.ttl, .int .i64 p.proto, .int .u32 p.src, .int .u32 p.dst, .slice oo p.ol oc, .slice ob p.bl bc] 29)).alloc (.cells #[.slice none 0 0] 45)).frozen? ⟨w.heap.size + osj.size + 1, 0, none⟩ = false := by go_simp
  have qn : ∀ i k v, (((w.junk osj dj).alloc (.cells #[.int .i64 p.tos, .int .i64 p.id, .bool p.df, .bool p.mf, .int .i64 p.off, .int .i64 p.ttl, .int .i64 p.proto, .int .u32 p.src, .int .u32 p.dst, .slice oo p.ol oc, .slice ob p.bl bc] 29)).alloc (.cells #[.slice none 0 0] 45)).cell? ⟨w.heap.size + osj.size + 1, i, none⟩ ≠ some (.int k v) := by
    intro i k v h
    rw [show w.heap.size + osj.size + 1 = ((w.junk osj dj).alloc (.cells #[.int .i64 p.tos, .int .i64 p.id, .bool p.df, .bool p.mf, .int .i64 p.off, .int .i64 p.ttl, .int .i64 p.proto, .int .u32 p.src, .int .u32 p.dst, .slice oo p.ol oc, .slice ob p.bl bc] 29)).heap.size by simp, World.cell?_alloc_new] at h
    rcases i with _ | i <;> simp at h
  have HP := Lib.hid (HP.out.on qj2)
  obtain ⟨b, hb⟩ : ∃ b, w.heap.size + osj.size = b := ⟨_, rfl⟩
  have hwb : w.heap.size ≤ b := by omega
  rw [hb] at m0 m1 m2 m3 m4 m5 m6 m7 m8 m9 m10 qs qg qf qn ⊢
  obtain ⟨g, hg⟩ : ∃ g, b + 1 = g := ⟨_, rfl⟩
  rw [hg] at qg qf qn ⊢
  generalize (((w.junk osj dj).alloc (.cells #[.int .i64 p.tos, .int .i64 p.id, .bool p.df, .bool p.mf, .int .i64 p.off, .int .i64 p.ttl, .int .i64 p.proto, .int .u32 p.src, .int .u32 p.dst, .slice oo p.ol oc, .slice ob p.bl bc] 29)).alloc (.cells #[.slice none 0 0] 45)) = V at m0 m1 m2 m3 m4 m5 m6 m7 m8 m9 m10 qs qg qf qn qj HP ⊢
  have HBV := Lib.hid (WB.make HT.out qj (by omega) (by omega) qg qf qn)
  have hx : b < V.heap.size := by omega
  have hgx : g < V.heap.size := by omega
  have HNE := Lib.hid (show b ≠ g by omega)
  have HLT := Lib.hid hx
  have HC := Lib.hid (And.intro m1 (And.intro m2 (And.intro m3 (And.intro m4 (And.intro m5 (And.intro m6 m10))))))
  have HQJ := Lib.hid qj
  have HGL := Lib.hid (show w.heap.size ≤ g by omega)
  have HA1 := Lib.hid (fun w1 (hj : Junk V w1) => dadr_any p.src HBD.out.src w1 (HBV.out.pow.on hj))
  have HA2 := Lib.hid (fun w1 (hj : Junk V w1) => dadr_any p.dst HBD.out.dst w1 (HBV.out.pow.on hj))
  obtain ⟨s1, hs1⟩ : ∃ s, adrS p.src = s := ⟨_, rfl⟩
  obtain ⟨s2, hs2⟩ : ∃ s, adrS p.dst = s := ⟨_, rfl⟩
  rw [hs1] at HA1
  rw [hs2] at HA2
  have HS1 := Lib.hid (fun w0 (hw : Junk V w0) (M : List ByteArray) (hM : M.length = 4) w1 (hj : Junk w0 w1) k (hk : k = w1.heap.size) os d => say_lit HBV.out [] M w0 (HBV.out.start.on hw) 4 hM.symm (by simp) w1 hj k hk os d)
  clear qj qj2 qs qg qf qn hwb hb hg
  go_upto_region 6 with (first | (go_at_call 16; (with_reducible refine (HPI.out _ _ _ _ _).mono ?_); rintro e w' ⟨rfl, ⟨osp, dp, rfl⟩⟩))
  have HS2 := Lib.hid (fun w1 (hj : Junk V w1) k (hk : k = w1.heap.size) os d => show Calls Tryd.prog 17 #[.pointer (some ⟨g, 0, none⟩), .slice (some ⟨k, 0, none⟩) 4 4] ((w1.alloc (.cells #[.string ⟨#[112, 105, 101, 99, 101]⟩, .string s1, .string ⟨#[62]⟩, .string s2] 9)).junk os d) fun e w' => e = .returned (.tuple #[]) ∧ WdAt V g w' [⟨#[112, 105, 101, 99, 101]⟩, s1, ⟨#[62]⟩, s2] from
    HS1.out V (Junk.refl _) [⟨#[112, 105, 101, 99, 101]⟩, s1, ⟨#[62]⟩, s2] rfl w1 hj k hk os d)
  refine wp_region_mixn (V) 8 [(0, true), (1, true), (2, true), (3, true), (4, true), (5, true), (6, true), (7, false), (8, false)] (by kernel_rfl) (by kernel_rfl) (by (repeat (first | with_reducible exact Junk.refl _ | with_reducible exact Junk.app _ _ _ _ _ | with_reducible apply Junk.alloc | with_reducible apply Junk.junk | with_reducible apply Junk.drew | with_reducible apply Junk.drewN))) ?_; (iterate 7 (refine wpMixL_q rfl (fun K hK => ?_); (go_simp; try go_bits); first | (refine hK _ ?_; clear hK K) | (apply Exists.intro; refine ⟨fun _ => ?_, hK _ ?_⟩; (first | (go_at_call 9; first | with_reducible exact HA1.out _ (by (first | ((repeat (first | with_reducible exact Junk.refl _ | with_reducible exact Junk.app _ _ _ _ _ | with_reducible apply Junk.alloc | with_reducible apply Junk.junk | with_reducible apply Junk.drew | with_reducible apply Junk.drewN)); done) | ((try simp only [World.junk_junk, Array.append_assoc]); (repeat (first | with_reducible exact Junk.refl _ | with_reducible exact Junk.app _ _ _ _ _ | with_reducible exact Junk.app2 _ _ _ _ _ _ | with_reducible exact Junk.app3 _ _ _ _ _ _ _ | with_reducible exact Junk.app4 _ _ _ _ _ _ _ _ | with_reducible exact Junk.app5 _ _ _ _ _ _ _ _ _ | with_reducible apply Junk.alloc | with_reducible apply Junk.junk | with_reducible apply Junk.drew | with_reducible apply Junk.drewN))))) | with_reducible exact HA2.out _ (by (first | ((repeat (first | with_reducible exact Junk.refl _ | with_reducible exact Junk.app _ _ _ _ _ | with_reducible apply Junk.alloc | with_reducible apply Junk.junk | with_reducible apply Junk.drew | with_reducible apply Junk.drewN)); done) | ((try simp only [World.junk_junk, Array.append_assoc]); (repeat (first | with_reducible exact Junk.refl _ | with_reducible exact Junk.app _ _ _ _ _ | with_reducible exact Junk.app2 _ _ _ _ _ _ | with_reducible exact Junk.app3 _ _ _ _ _ _ _ | with_reducible exact Junk.app4 _ _ _ _ _ _ _ _ | with_reducible exact Junk.app5 _ _ _ _ _ _ _ _ _ | with_reducible apply Junk.alloc | with_reducible apply Junk.junk | with_reducible apply Junk.drew | with_reducible apply Junk.drewN))))))); clear hK K))); refine wpMixL_e rfl (fun osm6_0 dm6_0 K hK => ?_); (go_simp; try go_bits); refine hK _ _ (Junk.pair (by (repeat (first | with_reducible exact Junk.refl _ | with_reducible exact Junk.app _ _ _ _ _ | with_reducible apply Junk.alloc | with_reducible apply Junk.junk | with_reducible apply Junk.drew | with_reducible apply Junk.drewN | (with_reducible refine Junk.setCell ?_ (by simp) _))))) ?_; clear hK K; refine wpMixL_last rfl (fun osm6_1 dm6_1 K hK => ?_); (go_simp; try go_bits); (go_at_call 17; (with_reducible refine (HS2.out _ (by (first | ((repeat (first | with_reducible exact Junk.refl _ | with_reducible exact Junk.app _ _ _ _ _ | with_reducible apply Junk.alloc | with_reducible apply Junk.junk | with_reducible apply Junk.drew | with_reducible apply Junk.drewN)); done) | ((try simp only [World.junk_junk, Array.append_assoc]); (repeat (first | with_reducible exact Junk.refl _ | with_reducible exact Junk.app _ _ _ _ _ | with_reducible exact Junk.app2 _ _ _ _ _ _ | with_reducible exact Junk.app3 _ _ _ _ _ _ _ | with_reducible exact Junk.app4 _ _ _ _ _ _ _ _ | with_reducible exact Junk.app5 _ _ _ _ _ _ _ _ _ | with_reducible apply Junk.alloc | with_reducible apply Junk.junk | with_reducible apply Junk.drew | with_reducible apply Junk.drewN))))) _ (by first | rfl | simp) _ _).mono ?_); rintro e w2 ⟨rfl, hw⟩; have HW := Lib.hid hw; clear hw); refine hK _ _ ?_; clear hK K; refine wpMixL_nil (fun osm dm => ?_)
  have hw1 := HW.out.on (show Junk w2 (w2.junk osm dm) from ⟨_, _, rfl⟩)
  generalize w2.junk osm dm = w3 at hw1 ⊢
  have HW := Lib.hid hw1
  clear hw1
  have m1 := (HW.out.cell HNE.out HLT.out).trans HC.out.1; have m2 := (HW.out.cell HNE.out HLT.out).trans HC.out.2.1; have m3 := (HW.out.cell HNE.out HLT.out).trans HC.out.2.2.1; have m4 := (HW.out.cell HNE.out HLT.out).trans HC.out.2.2.2.1; have m5 := (HW.out.cell HNE.out HLT.out).trans HC.out.2.2.2.2.1; have m6 := (HW.out.cell HNE.out HLT.out).trans HC.out.2.2.2.2.2.1; have m10 := (HW.out.cell HNE.out HLT.out).trans HC.out.2.2.2.2.2.2; have hlw := Nat.lt_of_lt_of_le HLT.out HW.out.size
  go_upto_region 17 with (first | (go_at_call 18; (with_reducible refine (num_any HBV.out _ _ (by omega) _ _ (HW.out.on (by (first | ((repeat (first | with_reducible exact Junk.refl _ | with_reducible exact Junk.app _ _ _ _ _ | with_reducible apply Junk.alloc | with_reducible apply Junk.junk | with_reducible apply Junk.drew | with_reducible apply Junk.drewN)); done) | ((try simp only [World.junk_junk, Array.append_assoc]); (repeat (first | with_reducible exact Junk.refl _ | with_reducible exact Junk.app _ _ _ _ _ | with_reducible exact Junk.app2 _ _ _ _ _ _ | with_reducible exact Junk.app3 _ _ _ _ _ _ _ | with_reducible exact Junk.app4 _ _ _ _ _ _ _ _ | with_reducible exact Junk.app5 _ _ _ _ _ _ _ _ _ | with_reducible apply Junk.alloc | with_reducible apply Junk.junk | with_reducible apply Junk.drew | with_reducible apply Junk.drewN)))))) (by (try simp only [List.length_append, List.length_cons, List.length_nil]); first | omega | (split <;> simp))).mono ?_); rintro e w' ⟨rfl, hw⟩; (have HW := Lib.hid hw); clear hw; have m1 := (HW.out.cell HNE.out HLT.out).trans HC.out.1; have m2 := (HW.out.cell HNE.out HLT.out).trans HC.out.2.1; have m3 := (HW.out.cell HNE.out HLT.out).trans HC.out.2.2.1; have m4 := (HW.out.cell HNE.out HLT.out).trans HC.out.2.2.2.1; have m5 := (HW.out.cell HNE.out HLT.out).trans HC.out.2.2.2.2.1; have m6 := (HW.out.cell HNE.out HLT.out).trans HC.out.2.2.2.2.2.1; have m10 := (HW.out.cell HNE.out HLT.out).trans HC.out.2.2.2.2.2.2; have hlw := Nat.lt_of_lt_of_le HLT.out HW.out.size) | (go_at_call 19; (with_reducible refine (flag_any HBV.out _ _ _ _ (HW.out.on (by (first | ((repeat (first | with_reducible exact Junk.refl _ | with_reducible exact Junk.app _ _ _ _ _ | with_reducible apply Junk.alloc | with_reducible apply Junk.junk | with_reducible apply Junk.drew | with_reducible apply Junk.drewN)); done) | ((try simp only [World.junk_junk, Array.append_assoc]); (repeat (first | with_reducible exact Junk.refl _ | with_reducible exact Junk.app _ _ _ _ _ | with_reducible exact Junk.app2 _ _ _ _ _ _ | with_reducible exact Junk.app3 _ _ _ _ _ _ _ | with_reducible exact Junk.app4 _ _ _ _ _ _ _ _ | with_reducible exact Junk.app5 _ _ _ _ _ _ _ _ _ | with_reducible apply Junk.alloc | with_reducible apply Junk.junk | with_reducible apply Junk.drew | with_reducible apply Junk.drewN)))))) (by (try simp only [List.length_append, List.length_cons, List.length_nil]); first | omega | (split <;> simp))).mono ?_); rintro e w' ⟨rfl, hw⟩; (have HW := Lib.hid hw); clear hw; have m1 := (HW.out.cell HNE.out HLT.out).trans HC.out.1; have m2 := (HW.out.cell HNE.out HLT.out).trans HC.out.2.1; have m3 := (HW.out.cell HNE.out HLT.out).trans HC.out.2.2.1; have m4 := (HW.out.cell HNE.out HLT.out).trans HC.out.2.2.2.1; have m5 := (HW.out.cell HNE.out HLT.out).trans HC.out.2.2.2.2.1; have m6 := (HW.out.cell HNE.out HLT.out).trans HC.out.2.2.2.2.2.1; have m10 := (HW.out.cell HNE.out HLT.out).trans HC.out.2.2.2.2.2.2; have hlw := Nat.lt_of_lt_of_le HLT.out HW.out.size))
  have hrd := WdAt.read HBV.out HW.out
  have HWJ := Lib.hid (HW.out.base HQJ.out HGL.out)
  have hgw : g < w'.heap.size := Nat.lt_of_lt_of_le hgx HW.out.size
  obtain ⟨ol, cl, hcl, hol⟩ := hrd
  obtain ⟨L, hL⟩ : ∃ L, ([⟨#[112, 105, 101, 99, 101]⟩, s1, ⟨#[62]⟩, s2] ++ [⟨#[105, 100]⟩, itoaS p.id] ++ [⟨#[111, 102, 102]⟩, itoaS p.off] ++ [⟨#[108, 101, 110]⟩, itoaS p.bl] ++ (if p.mf = true then [⟨#[109, 111, 114, 101]⟩] else []) ++ [⟨#[116, 116, 108]⟩, itoaS p.ttl] ++ if p.df = true then [⟨#[100, 102]⟩] else []) = L := ⟨_, rfl⟩
  have hL2 : lineW p = L := by
    rw [← hL]
    unfold lineW headW pieceW; rw [if_pos hpc, hs1, hs2]; rfl
  have HL := Lib.hid hL2
  obtain ⟨n, hn⟩ : ∃ n, L.length = n := ⟨_, rfl⟩
  rw [hL, hn] at hcl
  rw [hL] at hol
  have HJN := Lib.hid (fun w1 (hj : Junk w' w1) => show Calls Tryd.prog 21 #[.slice ol n cl, .string ⟨#[32]⟩] w1 fun e w' => e = .returned (.string (joinS L ⟨#[32]⟩)) ∧ Junk w1 w' from by
    have hsm := HSM.out
    rw [hL2] at hsm
    have hne : L ≠ [] := by rw [← hL]; simp
    have := joins_any ol cl V.heap.size L ⟨#[32]⟩ w1 (hol.on hj) hne (by have := hsm.1; omega) (joinL_le hsm (by omega))
    rw [hn] at this
    exact this)
  clear hol hL hL2 hn
  go_wp2_with (first | (go_at_call 21; (with_reducible refine (HJN.out _ (by (first | ((repeat (first | with_reducible exact Junk.refl _ | with_reducible exact Junk.app _ _ _ _ _ | with_reducible apply Junk.alloc | with_reducible apply Junk.junk | with_reducible apply Junk.drew | with_reducible apply Junk.drewN)); done) | ((try simp only [World.junk_junk, Array.append_assoc]); (repeat (first | with_reducible exact Junk.refl _ | with_reducible exact Junk.app _ _ _ _ _ | with_reducible exact Junk.app2 _ _ _ _ _ _ | with_reducible exact Junk.app3 _ _ _ _ _ _ _ | with_reducible exact Junk.app4 _ _ _ _ _ _ _ _ | with_reducible exact Junk.app5 _ _ _ _ _ _ _ _ _ | with_reducible apply Junk.alloc | with_reducible apply Junk.junk | with_reducible apply Junk.drew | with_reducible apply Junk.drewN)))))).mono ?_); rintro e w' ⟨rfl, ⟨osj, dj, rfl⟩⟩))
  go_returns
  exact ⟨by rw [HE.out, HL.out]; rfl, HWJ.out.trans (by (first | ((repeat (first | with_reducible exact Junk.refl _ | with_reducible exact Junk.app _ _ _ _ _ | with_reducible apply Junk.alloc | with_reducible apply Junk.junk | with_reducible apply Junk.drew | with_reducible apply Junk.drewN)); done) | ((try simp only [World.junk_junk, Array.append_assoc]); (repeat (first | with_reducible exact Junk.refl _ | with_reducible exact Junk.app _ _ _ _ _ | with_reducible exact Junk.app2 _ _ _ _ _ _ | with_reducible exact Junk.app3 _ _ _ _ _ _ _ | with_reducible exact Junk.app4 _ _ _ _ _ _ _ _ | with_reducible exact Junk.app5 _ _ _ _ _ _ _ _ _ | with_reducible apply Junk.alloc | with_reducible apply Junk.junk | with_reducible apply Junk.drew | with_reducible apply Junk.drewN)))))⟩
set_option maxRecDepth 100000 in
set_option maxHeartbeats 16000000 in
theorem line_body (oa : Option Addr) (l c : Nat) (xs : Nat → Int) (w : World) (hl : l ≤ 100000000) (hB : Bts w oa l c xs) (ht : PowT w) (h0 : parseErr xs l = 0) (hpc : pcB (parseIp xs) = false) (M : List ByteArray) (hbw : bodyW (parseIp xs) = some M) :
    Calls Tryd.prog 7 #[.slice oa l c] w fun e w' => e = .returned (.string (lineS xs l)) ∧ Junk w w' := by
  have HB := Lib.hid hB
  have hbd := parse_bd h0 hB.byte hl
  have HPS := fun w1 (hb : Bts w1 oa l c xs) => (ipParse_any oa l c xs w1 hl hb).mono fun e w' hq => show ∃ (oo ob : Option Addr) (oc bc : Nat), e = .returned (.tuple #[.agg #[.int .i64 (parseIp xs).tos, .int .i64 (parseIp xs).id, .bool (parseIp xs).df, .bool (parseIp xs).mf, .int .i64 (parseIp xs).off, .int .i64 (parseIp xs).ttl, .int .i64 (parseIp xs).proto, .int .u32 (parseIp xs).src, .int .u32 (parseIp xs).dst, .slice oo (parseIp xs).ol oc, .slice ob (parseIp xs).bl bc], .int .i64 0]) ∧ Junk w1 w' ∧ IpAt w' (parseIp xs) oo oc ob bc by
    obtain ⟨p, oo, ob, oc, bc, rfl, hj, hP, ⟨_, rfl⟩ | ⟨h1, _⟩⟩ := hq
    · exact ⟨oo, ob, oc, bc, by rw [h0], hj, hP⟩
    · exact absurd h0 h1
  have HE : lineS xs l = joinS (lineW (parseIp xs)) tSP := by unfold lineS; rw [if_pos h0]
  obtain ⟨p, hp⟩ : ∃ p, parseIp xs = p := ⟨_, rfl⟩
  rw [hp] at hbd HPS HE hpc hbw
  have HPS := Lib.hid HPS
  have HBD := Lib.hid hbd
  have b1 := hbd.id; have b2 := hbd.off; have b3 := hbd.ttl; have b4 := hbd.proto; have b5 := hbd.bl
  have HT := Lib.hid ht
  have HSM := Lib.hid (lineW_sm hbd)
  have HPI := Lib.hid (fun oo ob oc bc w1 => show Calls Tryd.prog 16 #[.agg #[.int .i64 p.tos, .int .i64 p.id, .bool p.df, .bool p.mf, .int .i64 p.off, .int .i64 p.ttl, .int .i64 p.proto, .int .u32 p.src, .int .u32 p.dst, .slice oo p.ol oc, .slice ob p.bl bc]] w1 fun e w' => e = .returned (.bool false) ∧ Junk w1 w' from by
    have := pc_any (.int .i64 p.tos) (.int .i64 p.id) (.bool p.df) (.int .i64 p.ttl) (.int .i64 p.proto) (.int .u32 p.src) (.int .u32 p.dst) (.slice oo p.ol oc) (.slice ob p.bl bc) p.mf p.off w1
    rw [show (p.mf || (p.off != 0)) = false from hpc] at this
    exact this)
  have hML := (bodyW_sm hbd hbw).1
  have HE := Lib.hid HE
  clear hB hbd h0 hp ht hl
  go_enter Tryd.func7, Tryd.ntmps7
  go_upto_region 5 with (first | (go_at_call 14; (with_reducible refine (HPS.out _ (HB.out.on (by (first | ((repeat (first | with_reducible exact Junk.refl _ | with_reducible exact Junk.app _ _ _ _ _ | with_reducible apply Junk.alloc | with_reducible apply Junk.junk | with_reducible apply Junk.drew | with_reducible apply Junk.drewN)); done) | ((try simp only [World.junk_junk, Array.append_assoc]); (repeat (first | with_reducible exact Junk.refl _ | with_reducible exact Junk.app _ _ _ _ _ | with_reducible exact Junk.app2 _ _ _ _ _ _ | with_reducible exact Junk.app3 _ _ _ _ _ _ _ | with_reducible exact Junk.app4 _ _ _ _ _ _ _ _ | with_reducible exact Junk.app5 _ _ _ _ _ _ _ _ _ | with_reducible apply Junk.alloc | with_reducible apply Junk.junk | with_reducible apply Junk.drew | with_reducible apply Junk.drewN))))))).mono ?_); rintro e w' ⟨oo, ob, oc, bc, rfl, ⟨osj, dj, rfl⟩, hP⟩; have HP := Lib.hid hP; clear hP))
  have m1 : (((w.junk osj dj).alloc (.cells #[.int .i64 p.tos, .int .i64 p.id, .bool p.df, .bool p.mf, .int .i64 p.off, .int .i64 p.ttl, .int .i64 p.proto, .int .u32 p.src, .int .u32 p.dst, .slice oo p.ol oc, .slice ob p.bl bc] 29)).alloc (.cells #[.slice none 0 0] 45)).cell? ⟨w.heap.size + osj.size, 1, none⟩ = some (.int .i64 p.id) := by go_simp
  have m2 : (((w.junk osj dj).alloc (.cells #[.int .i64 p.tos, .int .i64 p.id, .bool p.df, .bool p.mf, .int .i64 p.off, .int .i64 p.ttl, .int .i64 p.proto, .int .u32 p.src, .int .u32 p.dst, .slice oo p.ol oc, .slice ob p.bl bc] 29)).alloc (.cells #[.slice none 0 0] 45)).cell? ⟨w.heap.size + osj.size, 2, none⟩ = some (.bool p.df) := by go_simp
  have m3 : (((w.junk osj dj).alloc (.cells #[.int .i64 p.tos, .int .i64 p.id, .bool p.df, .bool p.mf, .int .i64 p.off, .int .i64 p.ttl, .int .i64 p.proto, .int .u32 p.src, .int .u32 p.dst, .slice oo p.ol oc, .slice ob p.bl bc] 29)).alloc (.cells #[.slice none 0 0] 45)).cell? ⟨w.heap.size + osj.size, 3, none⟩ = some (.bool p.mf) := by go_simp
  have m4 : (((w.junk osj dj).alloc (.cells #[.int .i64 p.tos, .int .i64 p.id, .bool p.df, .bool p.mf, .int .i64 p.off, .int .i64 p.ttl, .int .i64 p.proto, .int .u32 p.src, .int .u32 p.dst, .slice oo p.ol oc, .slice ob p.bl bc] 29)).alloc (.cells #[.slice none 0 0] 45)).cell? ⟨w.heap.size + osj.size, 4, none⟩ = some (.int .i64 p.off) := by go_simp
  have m5 : (((w.junk osj dj).alloc (.cells #[.int .i64 p.tos, .int .i64 p.id, .bool p.df, .bool p.mf, .int .i64 p.off, .int .i64 p.ttl, .int .i64 p.proto, .int .u32 p.src, .int .u32 p.dst, .slice oo p.ol oc, .slice ob p.bl bc] 29)).alloc (.cells #[.slice none 0 0] 45)).cell? ⟨w.heap.size + osj.size, 5, none⟩ = some (.int .i64 p.ttl) := by go_simp
  have m6 : (((w.junk osj dj).alloc (.cells #[.int .i64 p.tos, .int .i64 p.id, .bool p.df, .bool p.mf, .int .i64 p.off, .int .i64 p.ttl, .int .i64 p.proto, .int .u32 p.src, .int .u32 p.dst, .slice oo p.ol oc, .slice ob p.bl bc] 29)).alloc (.cells #[.slice none 0 0] 45)).cell? ⟨w.heap.size + osj.size, 6, none⟩ = some (.int .i64 p.proto) := by go_simp
  have m7 : (((w.junk osj dj).alloc (.cells #[.int .i64 p.tos, .int .i64 p.id, .bool p.df, .bool p.mf, .int .i64 p.off, .int .i64 p.ttl, .int .i64 p.proto, .int .u32 p.src, .int .u32 p.dst, .slice oo p.ol oc, .slice ob p.bl bc] 29)).alloc (.cells #[.slice none 0 0] 45)).cell? ⟨w.heap.size + osj.size, 7, none⟩ = some (.int .u32 p.src) := by go_simp
  have m8 : (((w.junk osj dj).alloc (.cells #[.int .i64 p.tos, .int .i64 p.id, .bool p.df, .bool p.mf, .int .i64 p.off, .int .i64 p.ttl, .int .i64 p.proto, .int .u32 p.src, .int .u32 p.dst, .slice oo p.ol oc, .slice ob p.bl bc] 29)).alloc (.cells #[.slice none 0 0] 45)).cell? ⟨w.heap.size + osj.size, 8, none⟩ = some (.int .u32 p.dst) := by go_simp
  have m10 : (((w.junk osj dj).alloc (.cells #[.int .i64 p.tos, .int .i64 p.id, .bool p.df, .bool p.mf, .int .i64 p.off, .int .i64 p.ttl, .int .i64 p.proto, .int .u32 p.src, .int .u32 p.dst, .slice oo p.ol oc, .slice ob p.bl bc] 29)).alloc (.cells #[.slice none 0 0] 45)).cell? ⟨w.heap.size + osj.size, 10, none⟩ = some (.slice ob p.bl bc) := by go_simp
  have m0 : (((w.junk osj dj).alloc (.cells #[.int .i64 p.tos, .int .i64 p.id, .bool p.df, .bool p.mf, .int .i64 p.off, .int .i64 p.ttl, .int .i64 p.proto, .int .u32 p.src, .int .u32 p.dst, .slice oo p.ol oc, .slice ob p.bl bc] 29)).alloc (.cells #[.slice none 0 0] 45)).cell? ⟨w.heap.size + osj.size, 0, none⟩ = some (.int .i64 p.tos) := by go_simp
  have m9 : (((w.junk osj dj).alloc (.cells #[.int .i64 p.tos, .int .i64 p.id, .bool p.df, .bool p.mf, .int .i64 p.off, .int .i64 p.ttl, .int .i64 p.proto, .int .u32 p.src, .int .u32 p.dst, .slice oo p.ol oc, .slice ob p.bl bc] 29)).alloc (.cells #[.slice none 0 0] 45)).cell? ⟨w.heap.size + osj.size, 9, none⟩ = some (.slice oo p.ol oc) := by go_simp
  have qj : Junk w (((w.junk osj dj).alloc (.cells #[.int .i64 p.tos, .int .i64 p.id, .bool p.df, .bool p.mf, .int .i64 p.off, .int .i64 p.ttl, .int .i64 p.proto, .int .u32 p.src, .int .u32 p.dst, .slice oo p.ol oc, .slice ob p.bl bc] 29)).alloc (.cells #[.slice none 0 0] 45)) := by (first | ((repeat (first | with_reducible exact Junk.refl _ | with_reducible exact Junk.app _ _ _ _ _ | with_reducible apply Junk.alloc | with_reducible apply Junk.junk | with_reducible apply Junk.drew | with_reducible apply Junk.drewN)); done) | ((try simp only [World.junk_junk, Array.append_assoc]); (repeat (first | with_reducible exact Junk.refl _ | with_reducible exact Junk.app _ _ _ _ _ | with_reducible exact Junk.app2 _ _ _ _ _ _ | with_reducible exact Junk.app3 _ _ _ _ _ _ _ | with_reducible exact Junk.app4 _ _ _ _ _ _ _ _ | with_reducible exact Junk.app5 _ _ _ _ _ _ _ _ _ | with_reducible apply Junk.alloc | with_reducible apply Junk.junk | with_reducible apply Junk.drew | with_reducible apply Junk.drewN))))
  have qj2 : Junk (w.junk osj dj) (((w.junk osj dj).alloc (.cells #[.int .i64 p.tos, .int .i64 p.id, .bool p.df, .bool p.mf, .int .i64 p.off, .int .i64 p.ttl, .int .i64 p.proto, .int .u32 p.src, .int .u32 p.dst, .slice oo p.ol oc, .slice ob p.bl bc] 29)).alloc (.cells #[.slice none 0 0] 45)) := by (first | ((repeat (first | with_reducible exact Junk.refl _ | with_reducible exact Junk.app _ _ _ _ _ | with_reducible apply Junk.alloc | with_reducible apply Junk.junk | with_reducible apply Junk.drew | with_reducible apply Junk.drewN)); done) | ((try simp only [World.junk_junk, Array.append_assoc]); (repeat (first | with_reducible exact Junk.refl _ | with_reducible exact Junk.app _ _ _ _ _ | with_reducible exact Junk.app2 _ _ _ _ _ _ | with_reducible exact Junk.app3 _ _ _ _ _ _ _ | with_reducible exact Junk.app4 _ _ _ _ _ _ _ _ | with_reducible exact Junk.app5 _ _ _ _ _ _ _ _ _ | with_reducible apply Junk.alloc | with_reducible apply Junk.junk | with_reducible apply Junk.drew | with_reducible apply Junk.drewN))))
  have qs : (((w.junk osj dj).alloc (.cells #[.int .i64 p.tos, .int .i64 p.id, .bool p.df, .bool p.mf, .int .i64 p.off, .int .i64 p.ttl, .int .i64 p.proto, .int .u32 p.src, .int .u32 p.dst, .slice oo p.ol oc, .slice ob p.bl bc] 29)).alloc (.cells #[.slice none 0 0] 45)).heap.size = w.heap.size + osj.size + 2 := by simp
  have qg : (((w.junk osj dj).alloc (.cells #[.int .i64 p.tos, .int .i64 p.id, .bool p.df, .bool p.mf, .int .i64 p.off, .int .i64 p.ttl, .int .i64 p.proto, .int .u32 p.src, .int .u32 p.dst, .slice oo p.ol oc, .slice ob p.bl bc] 29)).alloc (.cells #[.slice none 0 0] 45)).cell? ⟨w.heap.size + osj.size + 1, 0, none⟩ = some (.slice none 0 0) := by go_simp
  have qf : (((w.junk osj dj).alloc (.cells #[.int .i64 p.tos, .int .i64 p.id, .bool p.df, .bool p.mf, .int .i64 p.off, .int .i64 p.ttl, .int .i64 p.proto, .int .u32 p.src, .int .u32 p.dst, .slice oo p.ol oc, .slice ob p.bl bc] 29)).alloc (.cells #[.slice none 0 0] 45)).frozen? ⟨w.heap.size + osj.size + 1, 0, none⟩ = false := by go_simp
  have qn : ∀ i k v, (((w.junk osj dj).alloc (.cells #[.int .i64 p.tos, .int .i64 p.id, .bool p.df, .bool p.mf, .int .i64 p.off, .int .i64 p.ttl, .int .i64 p.proto, .int .u32 p.src, .int .u32 p.dst, .slice oo p.ol oc, .slice ob p.bl bc] 29)).alloc (.cells #[.slice none 0 0] 45)).cell? ⟨w.heap.size + osj.size + 1, i, none⟩ ≠ some (.int k v) := by
    intro i k v h
    rw [show w.heap.size + osj.size + 1 = ((w.junk osj dj).alloc (.cells #[.int .i64 p.tos, .int .i64 p.id, .bool p.df, .bool p.mf, .int .i64 p.off, .int .i64 p.ttl, .int .i64 p.proto, .int .u32 p.src, .int .u32 p.dst, .slice oo p.ol oc, .slice ob p.bl bc] 29)).heap.size by simp, World.cell?_alloc_new] at h
    rcases i with _ | i <;> simp at h
  have HP := Lib.hid (HP.out.on qj2)
  obtain ⟨b, hb⟩ : ∃ b, w.heap.size + osj.size = b := ⟨_, rfl⟩
  have hwb : w.heap.size ≤ b := by omega
  rw [hb] at m0 m1 m2 m3 m4 m5 m6 m7 m8 m9 m10 qs qg qf qn ⊢
  obtain ⟨g, hg⟩ : ∃ g, b + 1 = g := ⟨_, rfl⟩
  rw [hg] at qg qf qn ⊢
  generalize (((w.junk osj dj).alloc (.cells #[.int .i64 p.tos, .int .i64 p.id, .bool p.df, .bool p.mf, .int .i64 p.off, .int .i64 p.ttl, .int .i64 p.proto, .int .u32 p.src, .int .u32 p.dst, .slice oo p.ol oc, .slice ob p.bl bc] 29)).alloc (.cells #[.slice none 0 0] 45)) = V at m0 m1 m2 m3 m4 m5 m6 m7 m8 m9 m10 qs qg qf qn qj HP ⊢
  have HBV := Lib.hid (WB.make HT.out qj (by omega) (by omega) qg qf qn)
  have hx : b < V.heap.size := by omega
  have hgx : g < V.heap.size := by omega
  have HNE := Lib.hid (show b ≠ g by omega)
  have HLT := Lib.hid hx
  have HC := Lib.hid (And.intro m1 (And.intro m2 (And.intro m3 (And.intro m4 (And.intro m5 (And.intro m6 m10))))))
  have HQJ := Lib.hid qj
  have HGL := Lib.hid (show w.heap.size ≤ g by omega)
  have HA1 := Lib.hid (fun w1 (hj : Junk V w1) => dadr_any p.src HBD.out.src w1 (HBV.out.pow.on hj))
  have HA2 := Lib.hid (fun w1 (hj : Junk V w1) => dadr_any p.dst HBD.out.dst w1 (HBV.out.pow.on hj))
  obtain ⟨s1, hs1⟩ : ∃ s, adrS p.src = s := ⟨_, rfl⟩
  obtain ⟨s2, hs2⟩ : ∃ s, adrS p.dst = s := ⟨_, rfl⟩
  rw [hs1] at HA1
  rw [hs2] at HA2
  have HS1 := Lib.hid (fun w0 (hw : Junk V w0) (M : List ByteArray) (hM : M.length = 4) w1 (hj : Junk w0 w1) k (hk : k = w1.heap.size) os d => say_lit HBV.out [] M w0 (HBV.out.start.on hw) 4 hM.symm (by simp) w1 hj k hk os d)
  clear qj qj2 qs qg qf qn hwb hb hg
  have HBY := Lib.hid (fun w2 (hj : Junk V w2) => show Calls Tryd.prog 20 #[.pointer (some ⟨g, 0, none⟩), .agg #[.int .i64 p.tos, .int .i64 p.id, .bool p.df, .bool p.mf, .int .i64 p.off, .int .i64 p.ttl, .int .i64 p.proto, .int .u32 p.src, .int .u32 p.dst, .slice oo p.ol oc, .slice ob p.bl bc]] w2 fun e w' => e = .returned (.bool true) ∧ WdAt V g w' M from
    (body_any g p oo ob oc bc w2 (HBV.out.on hj) (HP.out.on hj) b5).mono fun e w' hq => by
      unfold BodyM at hq
      rw [hbw] at hq
      exact ⟨hq.1, hq.2.down hj hgx⟩)
  go_upto_region 17 with (first | (go_at_call 16; (with_reducible refine (HPI.out _ _ _ _ _).mono ?_); rintro e w' ⟨rfl, ⟨osp, dp, rfl⟩⟩) | (go_at_call 20; (with_reducible refine (HBY.out _ (by (first | ((repeat (first | with_reducible exact Junk.refl _ | with_reducible exact Junk.app _ _ _ _ _ | with_reducible apply Junk.alloc | with_reducible apply Junk.junk | with_reducible apply Junk.drew | with_reducible apply Junk.drewN)); done) | ((try simp only [World.junk_junk, Array.append_assoc]); (repeat (first | with_reducible exact Junk.refl _ | with_reducible exact Junk.app _ _ _ _ _ | with_reducible exact Junk.app2 _ _ _ _ _ _ | with_reducible exact Junk.app3 _ _ _ _ _ _ _ | with_reducible exact Junk.app4 _ _ _ _ _ _ _ _ | with_reducible exact Junk.app5 _ _ _ _ _ _ _ _ _ | with_reducible apply Junk.alloc | with_reducible apply Junk.junk | with_reducible apply Junk.drew | with_reducible apply Junk.drewN)))))).mono ?_); rintro e w' ⟨rfl, hw⟩; (have HW := Lib.hid hw); clear hw; have m1 := (HW.out.cell HNE.out HLT.out).trans HC.out.1; have m2 := (HW.out.cell HNE.out HLT.out).trans HC.out.2.1; have m3 := (HW.out.cell HNE.out HLT.out).trans HC.out.2.2.1; have m4 := (HW.out.cell HNE.out HLT.out).trans HC.out.2.2.2.1; have m5 := (HW.out.cell HNE.out HLT.out).trans HC.out.2.2.2.2.1; have m6 := (HW.out.cell HNE.out HLT.out).trans HC.out.2.2.2.2.2.1; have m10 := (HW.out.cell HNE.out HLT.out).trans HC.out.2.2.2.2.2.2; have hlw := Nat.lt_of_lt_of_le HLT.out HW.out.size) | (go_at_call 18; (with_reducible refine (num_any HBV.out _ _ (by omega) _ _ (HW.out.on (by (first | ((repeat (first | with_reducible exact Junk.refl _ | with_reducible exact Junk.app _ _ _ _ _ | with_reducible apply Junk.alloc | with_reducible apply Junk.junk | with_reducible apply Junk.drew | with_reducible apply Junk.drewN)); done) | ((try simp only [World.junk_junk, Array.append_assoc]); (repeat (first | with_reducible exact Junk.refl _ | with_reducible exact Junk.app _ _ _ _ _ | with_reducible exact Junk.app2 _ _ _ _ _ _ | with_reducible exact Junk.app3 _ _ _ _ _ _ _ | with_reducible exact Junk.app4 _ _ _ _ _ _ _ _ | with_reducible exact Junk.app5 _ _ _ _ _ _ _ _ _ | with_reducible apply Junk.alloc | with_reducible apply Junk.junk | with_reducible apply Junk.drew | with_reducible apply Junk.drewN)))))) (by (try simp only [List.length_append, List.length_cons, List.length_nil]); first | omega | (split <;> simp))).mono ?_); rintro e w' ⟨rfl, hw⟩; (have HW := Lib.hid hw); clear hw; have m1 := (HW.out.cell HNE.out HLT.out).trans HC.out.1; have m2 := (HW.out.cell HNE.out HLT.out).trans HC.out.2.1; have m3 := (HW.out.cell HNE.out HLT.out).trans HC.out.2.2.1; have m4 := (HW.out.cell HNE.out HLT.out).trans HC.out.2.2.2.1; have m5 := (HW.out.cell HNE.out HLT.out).trans HC.out.2.2.2.2.1; have m6 := (HW.out.cell HNE.out HLT.out).trans HC.out.2.2.2.2.2.1; have m10 := (HW.out.cell HNE.out HLT.out).trans HC.out.2.2.2.2.2.2; have hlw := Nat.lt_of_lt_of_le HLT.out HW.out.size) | (go_at_call 19; (with_reducible refine (flag_any HBV.out _ _ _ _ (HW.out.on (by (first | ((repeat (first | with_reducible exact Junk.refl _ | with_reducible exact Junk.app _ _ _ _ _ | with_reducible apply Junk.alloc | with_reducible apply Junk.junk | with_reducible apply Junk.drew | with_reducible apply Junk.drewN)); done) | ((try simp only [World.junk_junk, Array.append_assoc]); (repeat (first | with_reducible exact Junk.refl _ | with_reducible exact Junk.app _ _ _ _ _ | with_reducible exact Junk.app2 _ _ _ _ _ _ | with_reducible exact Junk.app3 _ _ _ _ _ _ _ | with_reducible exact Junk.app4 _ _ _ _ _ _ _ _ | with_reducible exact Junk.app5 _ _ _ _ _ _ _ _ _ | with_reducible apply Junk.alloc | with_reducible apply Junk.junk | with_reducible apply Junk.drew | with_reducible apply Junk.drewN)))))) (by (try simp only [List.length_append, List.length_cons, List.length_nil]); first | omega | (split <;> simp))).mono ?_); rintro e w' ⟨rfl, hw⟩; (have HW := Lib.hid hw); clear hw; have m1 := (HW.out.cell HNE.out HLT.out).trans HC.out.1; have m2 := (HW.out.cell HNE.out HLT.out).trans HC.out.2.1; have m3 := (HW.out.cell HNE.out HLT.out).trans HC.out.2.2.1; have m4 := (HW.out.cell HNE.out HLT.out).trans HC.out.2.2.2.1; have m5 := (HW.out.cell HNE.out HLT.out).trans HC.out.2.2.2.2.1; have m6 := (HW.out.cell HNE.out HLT.out).trans HC.out.2.2.2.2.2.1; have m10 := (HW.out.cell HNE.out HLT.out).trans HC.out.2.2.2.2.2.2; have hlw := Nat.lt_of_lt_of_le HLT.out HW.out.size))
  have hrd := WdAt.read HBV.out HW.out
  have HWJ := Lib.hid (HW.out.base HQJ.out HGL.out)
  have hgw : g < w'.heap.size := Nat.lt_of_lt_of_le hgx HW.out.size
  obtain ⟨ol, cl, hcl, hol⟩ := hrd
  obtain ⟨L, hL⟩ : ∃ L, (M ++ [⟨#[116, 116, 108]⟩, itoaS p.ttl] ++ if p.df = true then [⟨#[100, 102]⟩] else []) = L := ⟨_, rfl⟩
  have hL2 : lineW p = L := by
    rw [← hL]
    unfold lineW headW; rw [if_neg (by rw [hpc]; decide), hbw]; rfl
  have HL := Lib.hid hL2
  obtain ⟨n, hn⟩ : ∃ n, L.length = n := ⟨_, rfl⟩
  rw [hL, hn] at hcl
  rw [hL] at hol
  have HJN := Lib.hid (fun w1 (hj : Junk w' w1) => show Calls Tryd.prog 21 #[.slice ol n cl, .string ⟨#[32]⟩] w1 fun e w' => e = .returned (.string (joinS L ⟨#[32]⟩)) ∧ Junk w1 w' from by
    have hsm := HSM.out
    rw [hL2] at hsm
    have hne : L ≠ [] := by rw [← hL]; simp
    have := joins_any ol cl V.heap.size L ⟨#[32]⟩ w1 (hol.on hj) hne (by have := hsm.1; omega) (joinL_le hsm (by omega))
    rw [hn] at this
    exact this)
  clear hol hL hL2 hn
  go_wp2_with (first | (go_at_call 21; (with_reducible refine (HJN.out _ (by (first | ((repeat (first | with_reducible exact Junk.refl _ | with_reducible exact Junk.app _ _ _ _ _ | with_reducible apply Junk.alloc | with_reducible apply Junk.junk | with_reducible apply Junk.drew | with_reducible apply Junk.drewN)); done) | ((try simp only [World.junk_junk, Array.append_assoc]); (repeat (first | with_reducible exact Junk.refl _ | with_reducible exact Junk.app _ _ _ _ _ | with_reducible exact Junk.app2 _ _ _ _ _ _ | with_reducible exact Junk.app3 _ _ _ _ _ _ _ | with_reducible exact Junk.app4 _ _ _ _ _ _ _ _ | with_reducible exact Junk.app5 _ _ _ _ _ _ _ _ _ | with_reducible apply Junk.alloc | with_reducible apply Junk.junk | with_reducible apply Junk.drew | with_reducible apply Junk.drewN)))))).mono ?_); rintro e w' ⟨rfl, ⟨osj, dj, rfl⟩⟩))
  go_returns
  exact ⟨by rw [HE.out, HL.out]; rfl, HWJ.out.trans (by (first | ((repeat (first | with_reducible exact Junk.refl _ | with_reducible exact Junk.app _ _ _ _ _ | with_reducible apply Junk.alloc | with_reducible apply Junk.junk | with_reducible apply Junk.drew | with_reducible apply Junk.drewN)); done) | ((try simp only [World.junk_junk, Array.append_assoc]); (repeat (first | with_reducible exact Junk.refl _ | with_reducible exact Junk.app _ _ _ _ _ | with_reducible exact Junk.app2 _ _ _ _ _ _ | with_reducible exact Junk.app3 _ _ _ _ _ _ _ | with_reducible exact Junk.app4 _ _ _ _ _ _ _ _ | with_reducible exact Junk.app5 _ _ _ _ _ _ _ _ _ | with_reducible apply Junk.alloc | with_reducible apply Junk.junk | with_reducible apply Junk.drew | with_reducible apply Junk.drewN)))))⟩
set_option maxRecDepth 100000 in
set_option maxHeartbeats 16000000 in
theorem line_plain (oa : Option Addr) (l c : Nat) (xs : Nat → Int) (w : World) (hl : l ≤ 100000000) (hB : Bts w oa l c xs) (ht : PowT w) (h0 : parseErr xs l = 0) (hpc : pcB (parseIp xs) = false) (hbw : bodyW (parseIp xs) = none) :
    Calls Tryd.prog 7 #[.slice oa l c] w fun e w' => e = .returned (.string (lineS xs l)) ∧ Junk w w' := by
  have HB := Lib.hid hB
  have hbd := parse_bd h0 hB.byte hl
  have HPS := fun w1 (hb : Bts w1 oa l c xs) => (ipParse_any oa l c xs w1 hl hb).mono fun e w' hq => show ∃ (oo ob : Option Addr) (oc bc : Nat), e = .returned (.tuple #[.agg #[.int .i64 (parseIp xs).tos, .int .i64 (parseIp xs).id, .bool (parseIp xs).df, .bool (parseIp xs).mf, .int .i64 (parseIp xs).off, .int .i64 (parseIp xs).ttl, .int .i64 (parseIp xs).proto, .int .u32 (parseIp xs).src, .int .u32 (parseIp xs).dst, .slice oo (parseIp xs).ol oc, .slice ob (parseIp xs).bl bc], .int .i64 0]) ∧ Junk w1 w' ∧ IpAt w' (parseIp xs) oo oc ob bc by
    obtain ⟨p, oo, ob, oc, bc, rfl, hj, hP, ⟨_, rfl⟩ | ⟨h1, _⟩⟩ := hq
    · exact ⟨oo, ob, oc, bc, by rw [h0], hj, hP⟩
    · exact absurd h0 h1
  have HE : lineS xs l = joinS (lineW (parseIp xs)) tSP := by unfold lineS; rw [if_pos h0]
  obtain ⟨p, hp⟩ : ∃ p, parseIp xs = p := ⟨_, rfl⟩
  rw [hp] at hbd HPS HE hpc hbw
  have HPS := Lib.hid HPS
  have HBD := Lib.hid hbd
  have b1 := hbd.id; have b2 := hbd.off; have b3 := hbd.ttl; have b4 := hbd.proto; have b5 := hbd.bl
  have HT := Lib.hid ht
  have HSM := Lib.hid (lineW_sm hbd)
  have HPI := Lib.hid (fun oo ob oc bc w1 => show Calls Tryd.prog 16 #[.agg #[.int .i64 p.tos, .int .i64 p.id, .bool p.df, .bool p.mf, .int .i64 p.off, .int .i64 p.ttl, .int .i64 p.proto, .int .u32 p.src, .int .u32 p.dst, .slice oo p.ol oc, .slice ob p.bl bc]] w1 fun e w' => e = .returned (.bool false) ∧ Junk w1 w' from by
    have := pc_any (.int .i64 p.tos) (.int .i64 p.id) (.bool p.df) (.int .i64 p.ttl) (.int .i64 p.proto) (.int .u32 p.src) (.int .u32 p.dst) (.slice oo p.ol oc) (.slice ob p.bl bc) p.mf p.off w1
    rw [show (p.mf || (p.off != 0)) = false from hpc] at this
    exact this)
  have HE := Lib.hid HE
  clear hB hbd h0 hp ht hl
  go_enter Tryd.func7, Tryd.ntmps7
  go_upto_region 5 with (first | (go_at_call 14; (with_reducible refine (HPS.out _ (HB.out.on (by (first | ((repeat (first | with_reducible exact Junk.refl _ | with_reducible exact Junk.app _ _ _ _ _ | with_reducible apply Junk.alloc | with_reducible apply Junk.junk | with_reducible apply Junk.drew | with_reducible apply Junk.drewN)); done) | ((try simp only [World.junk_junk, Array.append_assoc]); (repeat (first | with_reducible exact Junk.refl _ | with_reducible exact Junk.app _ _ _ _ _ | with_reducible exact Junk.app2 _ _ _ _ _ _ | with_reducible exact Junk.app3 _ _ _ _ _ _ _ | with_reducible exact Junk.app4 _ _ _ _ _ _ _ _ | with_reducible exact Junk.app5 _ _ _ _ _ _ _ _ _ | with_reducible apply Junk.alloc | with_reducible apply Junk.junk | with_reducible apply Junk.drew | with_reducible apply Junk.drewN))))))).mono ?_); rintro e w' ⟨oo, ob, oc, bc, rfl, ⟨osj, dj, rfl⟩, hP⟩; have HP := Lib.hid hP; clear hP))
  have m1 : (((w.junk osj dj).alloc (.cells #[.int .i64 p.tos, .int .i64 p.id, .bool p.df, .bool p.mf, .int .i64 p.off, .int .i64 p.ttl, .int .i64 p.proto, .int .u32 p.src, .int .u32 p.dst, .slice oo p.ol oc, .slice ob p.bl bc] 29)).alloc (.cells #[.slice none 0 0] 45)).cell? ⟨w.heap.size + osj.size, 1, none⟩ = some (.int .i64 p.id) := by go_simp
  have m2 : (((w.junk osj dj).alloc (.cells #[.int .i64 p.tos, .int .i64 p.id, .bool p.df, .bool p.mf, .int .i64 p.off, .int .i64 p.ttl, .int .i64 p.proto, .int .u32 p.src, .int .u32 p.dst, .slice oo p.ol oc, .slice ob p.bl bc] 29)).alloc (.cells #[.slice none 0 0] 45)).cell? ⟨w.heap.size + osj.size, 2, none⟩ = some (.bool p.df) := by go_simp
  have m3 : (((w.junk osj dj).alloc (.cells #[.int .i64 p.tos, .int .i64 p.id, .bool p.df, .bool p.mf, .int .i64 p.off, .int .i64 p.ttl, .int .i64 p.proto, .int .u32 p.src, .int .u32 p.dst, .slice oo p.ol oc, .slice ob p.bl bc] 29)).alloc (.cells #[.slice none 0 0] 45)).cell? ⟨w.heap.size + osj.size, 3, none⟩ = some (.bool p.mf) := by go_simp
  have m4 : (((w.junk osj dj).alloc (.cells #[.int .i64 p.tos, .int .i64 p.id, .bool p.df, .bool p.mf, .int .i64 p.off, .int .i64 p.ttl, .int .i64 p.proto, .int .u32 p.src, .int .u32 p.dst, .slice oo p.ol oc, .slice ob p.bl bc] 29)).alloc (.cells #[.slice none 0 0] 45)).cell? ⟨w.heap.size + osj.size, 4, none⟩ = some (.int .i64 p.off) := by go_simp
  have m5 : (((w.junk osj dj).alloc (.cells #[.int .i64 p.tos, .int .i64 p.id, .bool p.df, .bool p.mf, .int .i64 p.off, .int .i64 p.ttl, .int .i64 p.proto, .int .u32 p.src, .int .u32 p.dst, .slice oo p.ol oc, .slice ob p.bl bc] 29)).alloc (.cells #[.slice none 0 0] 45)).cell? ⟨w.heap.size + osj.size, 5, none⟩ = some (.int .i64 p.ttl) := by go_simp
  have m6 : (((w.junk osj dj).alloc (.cells #[.int .i64 p.tos, .int .i64 p.id, .bool p.df, .bool p.mf, .int .i64 p.off, .int .i64 p.ttl, .int .i64 p.proto, .int .u32 p.src, .int .u32 p.dst, .slice oo p.ol oc, .slice ob p.bl bc] 29)).alloc (.cells #[.slice none 0 0] 45)).cell? ⟨w.heap.size + osj.size, 6, none⟩ = some (.int .i64 p.proto) := by go_simp
  have m7 : (((w.junk osj dj).alloc (.cells #[.int .i64 p.tos, .int .i64 p.id, .bool p.df, .bool p.mf, .int .i64 p.off, .int .i64 p.ttl, .int .i64 p.proto, .int .u32 p.src, .int .u32 p.dst, .slice oo p.ol oc, .slice ob p.bl bc] 29)).alloc (.cells #[.slice none 0 0] 45)).cell? ⟨w.heap.size + osj.size, 7, none⟩ = some (.int .u32 p.src) := by go_simp
  have m8 : (((w.junk osj dj).alloc (.cells #[.int .i64 p.tos, .int .i64 p.id, .bool p.df, .bool p.mf, .int .i64 p.off, .int .i64 p.ttl, .int .i64 p.proto, .int .u32 p.src, .int .u32 p.dst, .slice oo p.ol oc, .slice ob p.bl bc] 29)).alloc (.cells #[.slice none 0 0] 45)).cell? ⟨w.heap.size + osj.size, 8, none⟩ = some (.int .u32 p.dst) := by go_simp
  have m10 : (((w.junk osj dj).alloc (.cells #[.int .i64 p.tos, .int .i64 p.id, .bool p.df, .bool p.mf, .int .i64 p.off, .int .i64 p.ttl, .int .i64 p.proto, .int .u32 p.src, .int .u32 p.dst, .slice oo p.ol oc, .slice ob p.bl bc] 29)).alloc (.cells #[.slice none 0 0] 45)).cell? ⟨w.heap.size + osj.size, 10, none⟩ = some (.slice ob p.bl bc) := by go_simp
  have m0 : (((w.junk osj dj).alloc (.cells #[.int .i64 p.tos, .int .i64 p.id, .bool p.df, .bool p.mf, .int .i64 p.off, .int .i64 p.ttl, .int .i64 p.proto, .int .u32 p.src, .int .u32 p.dst, .slice oo p.ol oc, .slice ob p.bl bc] 29)).alloc (.cells #[.slice none 0 0] 45)).cell? ⟨w.heap.size + osj.size, 0, none⟩ = some (.int .i64 p.tos) := by go_simp
  have m9 : (((w.junk osj dj).alloc (.cells #[.int .i64 p.tos, .int .i64 p.id, .bool p.df, .bool p.mf, .int .i64 p.off, .int .i64 p.ttl, .int .i64 p.proto, .int .u32 p.src, .int .u32 p.dst, .slice oo p.ol oc, .slice ob p.bl bc] 29)).alloc (.cells #[.slice none 0 0] 45)).cell? ⟨w.heap.size + osj.size, 9, none⟩ = some (.slice oo p.ol oc) := by go_simp
  have qj : Junk w (((w.junk osj dj).alloc (.cells #[.int .i64 p.tos, .int .i64 p.id, .bool p.df, .bool p.mf, .int .i64 p.off, .int .i64 p.ttl, .int .i64 p.proto, .int .u32 p.src, .int .u32 p.dst, .slice oo p.ol oc, .slice ob p.bl bc] 29)).alloc (.cells #[.slice none 0 0] 45)) := by (first | ((repeat (first | with_reducible exact Junk.refl _ | with_reducible exact Junk.app _ _ _ _ _ | with_reducible apply Junk.alloc | with_reducible apply Junk.junk | with_reducible apply Junk.drew | with_reducible apply Junk.drewN)); done) | ((try simp only [World.junk_junk, Array.append_assoc]); (repeat (first | with_reducible exact Junk.refl _ | with_reducible exact Junk.app _ _ _ _ _ | with_reducible exact Junk.app2 _ _ _ _ _ _ | with_reducible exact Junk.app3 _ _ _ _ _ _ _ | with_reducible exact Junk.app4 _ _ _ _ _ _ _ _ | with_reducible exact Junk.app5 _ _ _ _ _ _ _ _ _ | with_reducible apply Junk.alloc | with_reducible apply Junk.junk | with_reducible apply Junk.drew | with_reducible apply Junk.drewN))))
  have qj2 : Junk (w.junk osj dj) (((w.junk osj dj).alloc (.cells #[.int .i64 p.tos, .int .i64 p.id, .bool p.df, .bool p.mf, .int .i64 p.off, .int .i64 p.ttl, .int .i64 p.proto, .int .u32 p.src, .int .u32 p.dst, .slice oo p.ol oc, .slice ob p.bl bc] 29)).alloc (.cells #[.slice none 0 0] 45)) := by (first | ((repeat (first | with_reducible exact Junk.refl _ | with_reducible exact Junk.app _ _ _ _ _ | with_reducible apply Junk.alloc | with_reducible apply Junk.junk | with_reducible apply Junk.drew | with_reducible apply Junk.drewN)); done) | ((try simp only [World.junk_junk, Array.append_assoc]); (repeat (first | with_reducible exact Junk.refl _ | with_reducible exact Junk.app _ _ _ _ _ | with_reducible exact Junk.app2 _ _ _ _ _ _ | with_reducible exact Junk.app3 _ _ _ _ _ _ _ | with_reducible exact Junk.app4 _ _ _ _ _ _ _ _ | with_reducible exact Junk.app5 _ _ _ _ _ _ _ _ _ | with_reducible apply Junk.alloc | with_reducible apply Junk.junk | with_reducible apply Junk.drew | with_reducible apply Junk.drewN))))
  have qs : (((w.junk osj dj).alloc (.cells #[.int .i64 p.tos, .int .i64 p.id, .bool p.df, .bool p.mf, .int .i64 p.off, .int .i64 p.ttl, .int .i64 p.proto, .int .u32 p.src, .int .u32 p.dst, .slice oo p.ol oc, .slice ob p.bl bc] 29)).alloc (.cells #[.slice none 0 0] 45)).heap.size = w.heap.size + osj.size + 2 := by simp
  have qg : (((w.junk osj dj).alloc (.cells #[.int .i64 p.tos, .int .i64 p.id, .bool p.df, .bool p.mf, .int .i64 p.off, .int .i64 p.ttl, .int .i64 p.proto, .int .u32 p.src, .int .u32 p.dst, .slice oo p.ol oc, .slice ob p.bl bc] 29)).alloc (.cells #[.slice none 0 0] 45)).cell? ⟨w.heap.size + osj.size + 1, 0, none⟩ = some (.slice none 0 0) := by go_simp
  have qf : (((w.junk osj dj).alloc (.cells #[.int .i64 p.tos, .int .i64 p.id, .bool p.df, .bool p.mf, .int .i64 p.off, .int .i64 p.ttl, .int .i64 p.proto, .int .u32 p.src, .int .u32 p.dst, .slice oo p.ol oc, .slice ob p.bl bc] 29)).alloc (.cells #[.slice none 0 0] 45)).frozen? ⟨w.heap.size + osj.size + 1, 0, none⟩ = false := by go_simp
  have qn : ∀ i k v, (((w.junk osj dj).alloc (.cells #[.int .i64 p.tos, .int .i64 p.id, .bool p.df, .bool p.mf, .int .i64 p.off, .int .i64 p.ttl, .int .i64 p.proto, .int .u32 p.src, .int .u32 p.dst, .slice oo p.ol oc, .slice ob p.bl bc] 29)).alloc (.cells #[.slice none 0 0] 45)).cell? ⟨w.heap.size + osj.size + 1, i, none⟩ ≠ some (.int k v) := by
    intro i k v h
    rw [show w.heap.size + osj.size + 1 = ((w.junk osj dj).alloc (.cells #[.int .i64 p.tos, .int .i64 p.id, .bool p.df, .bool p.mf, .int .i64 p.off, .int .i64 p.ttl, .int .i64 p.proto, .int .u32 p.src, .int .u32 p.dst, .slice oo p.ol oc, .slice ob p.bl bc] 29)).heap.size by simp, World.cell?_alloc_new] at h
    rcases i with _ | i <;> simp at h
  have HP := Lib.hid (HP.out.on qj2)
  obtain ⟨b, hb⟩ : ∃ b, w.heap.size + osj.size = b := ⟨_, rfl⟩
  have hwb : w.heap.size ≤ b := by omega
  rw [hb] at m0 m1 m2 m3 m4 m5 m6 m7 m8 m9 m10 qs qg qf qn ⊢
  obtain ⟨g, hg⟩ : ∃ g, b + 1 = g := ⟨_, rfl⟩
  rw [hg] at qg qf qn ⊢
  generalize (((w.junk osj dj).alloc (.cells #[.int .i64 p.tos, .int .i64 p.id, .bool p.df, .bool p.mf, .int .i64 p.off, .int .i64 p.ttl, .int .i64 p.proto, .int .u32 p.src, .int .u32 p.dst, .slice oo p.ol oc, .slice ob p.bl bc] 29)).alloc (.cells #[.slice none 0 0] 45)) = V at m0 m1 m2 m3 m4 m5 m6 m7 m8 m9 m10 qs qg qf qn qj HP ⊢
  have HBV := Lib.hid (WB.make HT.out qj (by omega) (by omega) qg qf qn)
  have hx : b < V.heap.size := by omega
  have hgx : g < V.heap.size := by omega
  have HNE := Lib.hid (show b ≠ g by omega)
  have HLT := Lib.hid hx
  have HC := Lib.hid (And.intro m1 (And.intro m2 (And.intro m3 (And.intro m4 (And.intro m5 (And.intro m6 m10))))))
  have HQJ := Lib.hid qj
  have HGL := Lib.hid (show w.heap.size ≤ g by omega)
  have HA1 := Lib.hid (fun w1 (hj : Junk V w1) => dadr_any p.src HBD.out.src w1 (HBV.out.pow.on hj))
  have HA2 := Lib.hid (fun w1 (hj : Junk V w1) => dadr_any p.dst HBD.out.dst w1 (HBV.out.pow.on hj))
  obtain ⟨s1, hs1⟩ : ∃ s, adrS p.src = s := ⟨_, rfl⟩
  obtain ⟨s2, hs2⟩ : ∃ s, adrS p.dst = s := ⟨_, rfl⟩
  rw [hs1] at HA1
  rw [hs2] at HA2
  have HS1 := Lib.hid (fun w0 (hw : Junk V w0) (M : List ByteArray) (hM : M.length = 4) w1 (hj : Junk w0 w1) k (hk : k = w1.heap.size) os d => say_lit HBV.out [] M w0 (HBV.out.start.on hw) 4 hM.symm (by simp) w1 hj k hk os d)
  clear qj qj2 qs qg qf qn hwb hb hg
  have HBY := Lib.hid (fun w2 (hj : Junk V w2) => show Calls Tryd.prog 20 #[.pointer (some ⟨g, 0, none⟩), .agg #[.int .i64 p.tos, .int .i64 p.id, .bool p.df, .bool p.mf, .int .i64 p.off, .int .i64 p.ttl, .int .i64 p.proto, .int .u32 p.src, .int .u32 p.dst, .slice oo p.ol oc, .slice ob p.bl bc]] w2 fun e w' => e = .returned (.bool false) ∧ Junk w2 w' from
    (body_any g p oo ob oc bc w2 (HBV.out.on hj) (HP.out.on hj) b5).mono fun e w' hq => by
      unfold BodyM at hq
      rw [hbw] at hq
      exact hq)
  go_upto_region 12 with (first | (go_at_call 16; (with_reducible refine (HPI.out _ _ _ _ _).mono ?_); rintro e w' ⟨rfl, ⟨osp, dp, rfl⟩⟩) | (go_at_call 20; (with_reducible refine (HBY.out _ (by (first | ((repeat (first | with_reducible exact Junk.refl _ | with_reducible exact Junk.app _ _ _ _ _ | with_reducible apply Junk.alloc | with_reducible apply Junk.junk | with_reducible apply Junk.drew | with_reducible apply Junk.drewN)); done) | ((try simp only [World.junk_junk, Array.append_assoc]); (repeat (first | with_reducible exact Junk.refl _ | with_reducible exact Junk.app _ _ _ _ _ | with_reducible exact Junk.app2 _ _ _ _ _ _ | with_reducible exact Junk.app3 _ _ _ _ _ _ _ | with_reducible exact Junk.app4 _ _ _ _ _ _ _ _ | with_reducible exact Junk.app5 _ _ _ _ _ _ _ _ _ | with_reducible apply Junk.alloc | with_reducible apply Junk.junk | with_reducible apply Junk.drew | with_reducible apply Junk.drewN)))))).mono ?_); rintro e w' ⟨rfl, ⟨osb, db, rfl⟩⟩))
  have HS2 := Lib.hid (fun w1 (hj : Junk V w1) k (hk : k = w1.heap.size) os d => show Calls Tryd.prog 17 #[.pointer (some ⟨g, 0, none⟩), .slice (some ⟨k, 0, none⟩) 4 4] ((w1.alloc (.cells #[.string ⟨#[105, 112]⟩, .string s1, .string ⟨#[62]⟩, .string s2] 9)).junk os d) fun e w' => e = .returned (.tuple #[]) ∧ WdAt V g w' [⟨#[105, 112]⟩, s1, ⟨#[62]⟩, s2] from
    HS1.out V (Junk.refl _) [⟨#[105, 112]⟩, s1, ⟨#[62]⟩, s2] rfl w1 hj k hk os d)
  refine wp_region_mixn (V) 8 [(0, true), (1, true), (2, true), (3, true), (4, true), (5, true), (6, true), (7, false), (8, false)] (by kernel_rfl) (by kernel_rfl) (by (repeat (first | with_reducible exact Junk.refl _ | with_reducible exact Junk.app _ _ _ _ _ | with_reducible apply Junk.alloc | with_reducible apply Junk.junk | with_reducible apply Junk.drew | with_reducible apply Junk.drewN))) ?_; (iterate 7 (refine wpMixL_q rfl (fun K hK => ?_); (go_simp; try go_bits); first | (refine hK _ ?_; clear hK K) | (apply Exists.intro; refine ⟨fun _ => ?_, hK _ ?_⟩; (first | (go_at_call 9; first | with_reducible exact HA1.out _ (by (first | ((repeat (first | with_reducible exact Junk.refl _ | with_reducible exact Junk.app _ _ _ _ _ | with_reducible apply Junk.alloc | with_reducible apply Junk.junk | with_reducible apply Junk.drew | with_reducible apply Junk.drewN)); done) | ((try simp only [World.junk_junk, Array.append_assoc]); (repeat (first | with_reducible exact Junk.refl _ | with_reducible exact Junk.app _ _ _ _ _ | with_reducible exact Junk.app2 _ _ _ _ _ _ | with_reducible exact Junk.app3 _ _ _ _ _ _ _ | with_reducible exact Junk.app4 _ _ _ _ _ _ _ _ | with_reducible exact Junk.app5 _ _ _ _ _ _ _ _ _ | with_reducible apply Junk.alloc | with_reducible apply Junk.junk | with_reducible apply Junk.drew | with_reducible apply Junk.drewN))))) | with_reducible exact HA2.out _ (by (first | ((repeat (first | with_reducible exact Junk.refl _ | with_reducible exact Junk.app _ _ _ _ _ | with_reducible apply Junk.alloc | with_reducible apply Junk.junk | with_reducible apply Junk.drew | with_reducible apply Junk.drewN)); done) | ((try simp only [World.junk_junk, Array.append_assoc]); (repeat (first | with_reducible exact Junk.refl _ | with_reducible exact Junk.app _ _ _ _ _ | with_reducible exact Junk.app2 _ _ _ _ _ _ | with_reducible exact Junk.app3 _ _ _ _ _ _ _ | with_reducible exact Junk.app4 _ _ _ _ _ _ _ _ | with_reducible exact Junk.app5 _ _ _ _ _ _ _ _ _ | with_reducible apply Junk.alloc | with_reducible apply Junk.junk | with_reducible apply Junk.drew | with_reducible apply Junk.drewN))))))); clear hK K))); refine wpMixL_e rfl (fun osm12_0 dm12_0 K hK => ?_); (go_simp; try go_bits); refine hK _ _ (Junk.pair (by (repeat (first | with_reducible exact Junk.refl _ | with_reducible exact Junk.app _ _ _ _ _ | with_reducible apply Junk.alloc | with_reducible apply Junk.junk | with_reducible apply Junk.drew | with_reducible apply Junk.drewN | (with_reducible refine Junk.setCell ?_ (by simp) _))))) ?_; clear hK K; refine wpMixL_last rfl (fun osm12_1 dm12_1 K hK => ?_); (go_simp; try go_bits); (go_at_call 17; (with_reducible refine (HS2.out _ (by (first | ((repeat (first | with_reducible exact Junk.refl _ | with_reducible exact Junk.app _ _ _ _ _ | with_reducible apply Junk.alloc | with_reducible apply Junk.junk | with_reducible apply Junk.drew | with_reducible apply Junk.drewN)); done) | ((try simp only [World.junk_junk, Array.append_assoc]); (repeat (first | with_reducible exact Junk.refl _ | with_reducible exact Junk.app _ _ _ _ _ | with_reducible exact Junk.app2 _ _ _ _ _ _ | with_reducible exact Junk.app3 _ _ _ _ _ _ _ | with_reducible exact Junk.app4 _ _ _ _ _ _ _ _ | with_reducible exact Junk.app5 _ _ _ _ _ _ _ _ _ | with_reducible apply Junk.alloc | with_reducible apply Junk.junk | with_reducible apply Junk.drew | with_reducible apply Junk.drewN))))) _ (by first | rfl | simp) _ _).mono ?_); rintro e w2 ⟨rfl, hw⟩; have HW := Lib.hid hw; clear hw); refine hK _ _ ?_; clear hK K; refine wpMixL_nil (fun osm dm => ?_)
  have hw1 := HW.out.on (show Junk w2 (w2.junk osm dm) from ⟨_, _, rfl⟩)
  generalize w2.junk osm dm = w3 at hw1 ⊢
  have HW := Lib.hid hw1
  clear hw1
  have m1 := (HW.out.cell HNE.out HLT.out).trans HC.out.1; have m2 := (HW.out.cell HNE.out HLT.out).trans HC.out.2.1; have m3 := (HW.out.cell HNE.out HLT.out).trans HC.out.2.2.1; have m4 := (HW.out.cell HNE.out HLT.out).trans HC.out.2.2.2.1; have m5 := (HW.out.cell HNE.out HLT.out).trans HC.out.2.2.2.2.1; have m6 := (HW.out.cell HNE.out HLT.out).trans HC.out.2.2.2.2.2.1; have m10 := (HW.out.cell HNE.out HLT.out).trans HC.out.2.2.2.2.2.2; have hlw := Nat.lt_of_lt_of_le HLT.out HW.out.size
  go_upto_region 17 with (first | (go_at_call 18; (with_reducible refine (num_any HBV.out _ _ (by omega) _ _ (HW.out.on (by (first | ((repeat (first | with_reducible exact Junk.refl _ | with_reducible exact Junk.app _ _ _ _ _ | with_reducible apply Junk.alloc | with_reducible apply Junk.junk | with_reducible apply Junk.drew | with_reducible apply Junk.drewN)); done) | ((try simp only [World.junk_junk, Array.append_assoc]); (repeat (first | with_reducible exact Junk.refl _ | with_reducible exact Junk.app _ _ _ _ _ | with_reducible exact Junk.app2 _ _ _ _ _ _ | with_reducible exact Junk.app3 _ _ _ _ _ _ _ | with_reducible exact Junk.app4 _ _ _ _ _ _ _ _ | with_reducible exact Junk.app5 _ _ _ _ _ _ _ _ _ | with_reducible apply Junk.alloc | with_reducible apply Junk.junk | with_reducible apply Junk.drew | with_reducible apply Junk.drewN)))))) (by (try simp only [List.length_append, List.length_cons, List.length_nil]); first | omega | (split <;> simp))).mono ?_); rintro e w' ⟨rfl, hw⟩; (have HW := Lib.hid hw); clear hw; have m1 := (HW.out.cell HNE.out HLT.out).trans HC.out.1; have m2 := (HW.out.cell HNE.out HLT.out).trans HC.out.2.1; have m3 := (HW.out.cell HNE.out HLT.out).trans HC.out.2.2.1; have m4 := (HW.out.cell HNE.out HLT.out).trans HC.out.2.2.2.1; have m5 := (HW.out.cell HNE.out HLT.out).trans HC.out.2.2.2.2.1; have m6 := (HW.out.cell HNE.out HLT.out).trans HC.out.2.2.2.2.2.1; have m10 := (HW.out.cell HNE.out HLT.out).trans HC.out.2.2.2.2.2.2; have hlw := Nat.lt_of_lt_of_le HLT.out HW.out.size) | (go_at_call 19; (with_reducible refine (flag_any HBV.out _ _ _ _ (HW.out.on (by (first | ((repeat (first | with_reducible exact Junk.refl _ | with_reducible exact Junk.app _ _ _ _ _ | with_reducible apply Junk.alloc | with_reducible apply Junk.junk | with_reducible apply Junk.drew | with_reducible apply Junk.drewN)); done) | ((try simp only [World.junk_junk, Array.append_assoc]); (repeat (first | with_reducible exact Junk.refl _ | with_reducible exact Junk.app _ _ _ _ _ | with_reducible exact Junk.app2 _ _ _ _ _ _ | with_reducible exact Junk.app3 _ _ _ _ _ _ _ | with_reducible exact Junk.app4 _ _ _ _ _ _ _ _ | with_reducible exact Junk.app5 _ _ _ _ _ _ _ _ _ | with_reducible apply Junk.alloc | with_reducible apply Junk.junk | with_reducible apply Junk.drew | with_reducible apply Junk.drewN)))))) (by (try simp only [List.length_append, List.length_cons, List.length_nil]); first | omega | (split <;> simp))).mono ?_); rintro e w' ⟨rfl, hw⟩; (have HW := Lib.hid hw); clear hw; have m1 := (HW.out.cell HNE.out HLT.out).trans HC.out.1; have m2 := (HW.out.cell HNE.out HLT.out).trans HC.out.2.1; have m3 := (HW.out.cell HNE.out HLT.out).trans HC.out.2.2.1; have m4 := (HW.out.cell HNE.out HLT.out).trans HC.out.2.2.2.1; have m5 := (HW.out.cell HNE.out HLT.out).trans HC.out.2.2.2.2.1; have m6 := (HW.out.cell HNE.out HLT.out).trans HC.out.2.2.2.2.2.1; have m10 := (HW.out.cell HNE.out HLT.out).trans HC.out.2.2.2.2.2.2; have hlw := Nat.lt_of_lt_of_le HLT.out HW.out.size))
  have hrd := WdAt.read HBV.out HW.out
  have HWJ := Lib.hid (HW.out.base HQJ.out HGL.out)
  have hgw : g < w'.heap.size := Nat.lt_of_lt_of_le hgx HW.out.size
  obtain ⟨ol, cl, hcl, hol⟩ := hrd
  obtain ⟨L, hL⟩ : ∃ L, ([⟨#[105, 112]⟩, s1, ⟨#[62]⟩, s2] ++ [⟨#[112, 114, 111, 116, 111]⟩, itoaS p.proto] ++ [⟨#[108, 101, 110]⟩, itoaS p.bl] ++ [⟨#[116, 116, 108]⟩, itoaS p.ttl] ++ if p.df = true then [⟨#[100, 102]⟩] else []) = L := ⟨_, rfl⟩
  have hL2 : lineW p = L := by
    rw [← hL]
    unfold lineW headW plainW; rw [if_neg (by rw [hpc]; decide), hbw, hs1, hs2]; rfl
  have HL := Lib.hid hL2
  obtain ⟨n, hn⟩ : ∃ n, L.length = n := ⟨_, rfl⟩
  rw [hL, hn] at hcl
  rw [hL] at hol
  have HJN := Lib.hid (fun w1 (hj : Junk w' w1) => show Calls Tryd.prog 21 #[.slice ol n cl, .string ⟨#[32]⟩] w1 fun e w' => e = .returned (.string (joinS L ⟨#[32]⟩)) ∧ Junk w1 w' from by
    have hsm := HSM.out
    rw [hL2] at hsm
    have hne : L ≠ [] := by rw [← hL]; simp
    have := joins_any ol cl V.heap.size L ⟨#[32]⟩ w1 (hol.on hj) hne (by have := hsm.1; omega) (joinL_le hsm (by omega))
    rw [hn] at this
    exact this)
  clear hol hL hL2 hn
  go_wp2_with (first | (go_at_call 21; (with_reducible refine (HJN.out _ (by (first | ((repeat (first | with_reducible exact Junk.refl _ | with_reducible exact Junk.app _ _ _ _ _ | with_reducible apply Junk.alloc | with_reducible apply Junk.junk | with_reducible apply Junk.drew | with_reducible apply Junk.drewN)); done) | ((try simp only [World.junk_junk, Array.append_assoc]); (repeat (first | with_reducible exact Junk.refl _ | with_reducible exact Junk.app _ _ _ _ _ | with_reducible exact Junk.app2 _ _ _ _ _ _ | with_reducible exact Junk.app3 _ _ _ _ _ _ _ | with_reducible exact Junk.app4 _ _ _ _ _ _ _ _ | with_reducible exact Junk.app5 _ _ _ _ _ _ _ _ _ | with_reducible apply Junk.alloc | with_reducible apply Junk.junk | with_reducible apply Junk.drew | with_reducible apply Junk.drewN)))))).mono ?_); rintro e w' ⟨rfl, ⟨osj, dj, rfl⟩⟩))
  go_returns
  exact ⟨by rw [HE.out, HL.out]; rfl, HWJ.out.trans (by (first | ((repeat (first | with_reducible exact Junk.refl _ | with_reducible exact Junk.app _ _ _ _ _ | with_reducible apply Junk.alloc | with_reducible apply Junk.junk | with_reducible apply Junk.drew | with_reducible apply Junk.drewN)); done) | ((try simp only [World.junk_junk, Array.append_assoc]); (repeat (first | with_reducible exact Junk.refl _ | with_reducible exact Junk.app _ _ _ _ _ | with_reducible exact Junk.app2 _ _ _ _ _ _ | with_reducible exact Junk.app3 _ _ _ _ _ _ _ | with_reducible exact Junk.app4 _ _ _ _ _ _ _ _ | with_reducible exact Junk.app5 _ _ _ _ _ _ _ _ _ | with_reducible apply Junk.alloc | with_reducible apply Junk.junk | with_reducible apply Junk.drew | with_reducible apply Junk.drewN)))))⟩
set_option maxHeartbeats 16000000 in
theorem line_bad (oa : Option Addr) (l c : Nat) (xs : Nat → Int) (w : World) (hl : l ≤ 100000000) (hB : Bts w oa l c xs) (ht : PowT w) (h0 : parseErr xs l ≠ 0) :
    Calls Tryd.prog 7 #[.slice oa l c] w fun e w' => e = .returned (.string (lineS xs l)) ∧ Junk w w' := by
  have HB := Lib.hid hB
  have HT := Lib.hid ht
  obtain ⟨E, hE⟩ : ∃ E, parseErr xs l = E := ⟨_, rfl⟩
  have hEb := parseErr_bd (xs := xs) (l := l)
  have HE := Lib.hid (show lineS xs l = ⟨#[110, 111, 110, 101, 32]⟩ ++ itoaS E by unfold lineS; rw [if_neg h0, hE])
  have HPS := Lib.hid (fun w1 (hb : Bts w1 oa l c xs) => show Calls Tryd.prog 14 #[.slice oa l c] w1 fun e w' => e = .returned (.tuple #[.agg #[.int .i64 0, .int .i64 0, .bool false, .bool false, .int .i64 0, .int .i64 0, .int .i64 0, .int .u32 0, .int .u32 0, .slice none 0 0, .slice none 0 0], .int .i64 E]) ∧ Junk w1 w' from (ipParse_any oa l c xs w1 hl hb).mono fun e w' hq => by
    obtain ⟨p, oo, ob, oc, bc, rfl, hj, hP, ⟨h1, _⟩ | ⟨_, rfl, rfl, rfl, rfl, rfl⟩⟩ := hq
    · exact absurd h1 h0
    · rw [hE]; exact ⟨rfl, hj⟩)
  rw [hE] at h0 hEb
  have hne : (E != 0) = true := by simpa using h0
  have HI := Lib.hid (fun w1 hp => itoa_any E (by omega) w1 hp)
  have hsz := itoaS_size (n := E) (by omega)
  have hz : ¬ 9223372036854775807 < 5 + (itoaS E).size := by omega
  clear hB ht hl h0 hE hsz hEb
  go_enter Tryd.func7, Tryd.ntmps7
  go_wp2_with (first | (go_at_call 14; (with_reducible refine (HPS.out _ (HB.out.on (by (first | ((repeat (first | with_reducible exact Junk.refl _ | with_reducible exact Junk.app _ _ _ _ _ | with_reducible apply Junk.alloc | with_reducible apply Junk.junk | with_reducible apply Junk.drew | with_reducible apply Junk.drewN)); done) | ((try simp only [World.junk_junk, Array.append_assoc]); (repeat (first | with_reducible exact Junk.refl _ | with_reducible exact Junk.app _ _ _ _ _ | with_reducible exact Junk.app2 _ _ _ _ _ _ | with_reducible exact Junk.app3 _ _ _ _ _ _ _ | with_reducible exact Junk.app4 _ _ _ _ _ _ _ _ | with_reducible exact Junk.app5 _ _ _ _ _ _ _ _ _ | with_reducible apply Junk.alloc | with_reducible apply Junk.junk | with_reducible apply Junk.drew | with_reducible apply Junk.drewN))))))).mono ?_); rintro e w' ⟨rfl, ⟨osj, dj, rfl⟩⟩) | (go_at_call 15; (with_reducible refine (HI.out _ (HT.out.on (by (first | ((repeat (first | with_reducible exact Junk.refl _ | with_reducible exact Junk.app _ _ _ _ _ | with_reducible apply Junk.alloc | with_reducible apply Junk.junk | with_reducible apply Junk.drew | with_reducible apply Junk.drewN)); done) | ((try simp only [World.junk_junk, Array.append_assoc]); (repeat (first | with_reducible exact Junk.refl _ | with_reducible exact Junk.app _ _ _ _ _ | with_reducible exact Junk.app2 _ _ _ _ _ _ | with_reducible exact Junk.app3 _ _ _ _ _ _ _ | with_reducible exact Junk.app4 _ _ _ _ _ _ _ _ | with_reducible exact Junk.app5 _ _ _ _ _ _ _ _ _ | with_reducible apply Junk.alloc | with_reducible apply Junk.junk | with_reducible apply Junk.drew | with_reducible apply Junk.drewN))))))).mono ?_); rintro e w' ⟨rfl, ⟨osj, dj, rfl⟩⟩))
  go_ret
  exact ⟨by rw [HE.out]; rfl, by (first | ((repeat (first | with_reducible exact Junk.refl _ | with_reducible exact Junk.app _ _ _ _ _ | with_reducible apply Junk.alloc | with_reducible apply Junk.junk | with_reducible apply Junk.drew | with_reducible apply Junk.drewN)); done) | ((try simp only [World.junk_junk, Array.append_assoc]); (repeat (first | with_reducible exact Junk.refl _ | with_reducible exact Junk.app _ _ _ _ _ | with_reducible exact Junk.app2 _ _ _ _ _ _ | with_reducible exact Junk.app3 _ _ _ _ _ _ _ | with_reducible exact Junk.app4 _ _ _ _ _ _ _ _ | with_reducible exact Junk.app5 _ _ _ _ _ _ _ _ _ | with_reducible apply Junk.alloc | with_reducible apply Junk.junk | with_reducible apply Junk.drew | with_reducible apply Junk.drewN))))⟩
theorem line_any (oa : Option Addr) (l c : Nat) (xs : Nat → Int) (w : World) (hl : l ≤ 100000000) (hB : Bts w oa l c xs) (ht : PowT w) :
    Calls Tryd.prog 7 #[.slice oa l c] w fun e w' => e = .returned (.string (lineS xs l)) ∧ Junk w w' := by
  by_cases h0 : parseErr xs l = 0
  · cases hpc : pcB (parseIp xs) with
    | true => exact line_piece oa l c xs w hl hB ht h0 hpc
    | false =>
      cases hbw : bodyW (parseIp xs) with
      | none => exact line_plain oa l c xs w hl hB ht h0 hpc hbw
      | some M => exact line_body oa l c xs w hl hB ht h0 hpc M hbw
  · exact line_bad oa l c xs w hl hB ht h0
end Go.Proofs.YtfkhnhenemgcmaaDoor
