/- tcp.Parse. -/
import Derived.Test.YtfkhnhenemgcmaaDoorTcpC
set_option linter.unusedVariables false
set_option maxRecDepth 100000
set_option linter.unusedSimpArgs false
namespace Go.Proofs.YtfkhnhenemgcmaaDoor
open Go.RowKit
/-- A segment, as data. -/
structure Tc where
  sport : Int
  dport : Int
  seq : Int
  ack : Int
  flags : Int
  win : Int
  urg : Int
  os : List Od
  bl : Nat
  body : Nat → Int
/-- A segment's options and body in memory. -/
structure TcAt (w : World) (F : List Ot) (oo : Option Addr) (co : Nat) (bl : Nat) (body : Nat → Int) (ob : Option Addr) (cb : Nat) : Prop where
  os : OsAt w oo F
  nil : oo = none → F.length = 0 ∧ co = 0
  cap : F.length ≤ co
  body : Bts w ob bl cb body
theorem TcAt.on {w w' : World} {F : List Ot} {oo : Option Addr} {co bl : Nat} {body : Nat → Int} {ob : Option Addr} {cb : Nat} (h : TcAt w F oo co bl body ob cb) (hj : Junk w w') : TcAt w' F oo co bl body ob cb := ⟨h.os.on hj, h.nil, h.cap, h.body.on hj⟩
def tcpSize (xs : Nat → Int) : Nat := (xs 12 / 16 * 4).toNat
def tcpOpts (xs : Nat → Int) : Option (List Od) := optR (fun i => xs (20 + i)) (tcpSize xs - 20) 0 []
def tcpErr (src dst : Int) (xs : Nat → Int) (l : Nat) : Int :=
  if 65535 < l then 4 else if l < 20 then 2 else if tcpSize xs < 20 ∨ l < tcpSize xs then 3 else if tsumN src dst xs l ≠ 65535 then 5 else if (tcpOpts xs).isNone then 6 else 0
def tcpTc (xs : Nat → Int) (l : Nat) : Tc :=
  ⟨xs 0 * 256 + xs 1, xs 2 * 256 + xs 3, (xs 4 * 256 + xs 5) * 65536 + (xs 6 * 256 + xs 7), (xs 8 * 256 + xs 9) * 65536 + (xs 10 * 256 + xs 11), xs 13, xs 14 * 256 + xs 15, xs 18 * 256 + xs 19, (tcpOpts xs).getD [], l - tcpSize xs, fun i => xs (tcpSize xs + i)⟩
def TcpM (w : World) (E : Int) (t : Tc) (e : Ending) (w' : World) : Prop :=
  Junk w w' ∧ ((E ≠ 0 ∧ e = .returned (.tuple #[.agg #[.int .i64 0, .int .i64 0, .int .u32 0, .int .u32 0, .int .i64 0, .int .i64 0, .int .i64 0, .slice none 0 0, .slice none 0 0], .int .i64 E])) ∨
    (E = 0 ∧ ∃ (F : List Ot) (oo : Option Addr) (co : Nat) (ob : Option Addr) (cb : Nat), F.map Ot.d = t.os ∧ TcAt w' F oo co t.bl t.body ob cb ∧
      e = .returned (.tuple #[.agg #[.int .i64 t.sport, .int .i64 t.dport, .int .u32 t.seq, .int .u32 t.ack, .int .i64 t.flags, .int .i64 t.win, .int .i64 t.urg, .slice oo F.length co, .slice ob t.bl cb], .int .i64 0])))
theorem tcpM_bad {w w' : World} {E n : Int} {t : Tc} (h : E = n) (h0 : n ≠ 0) (hj : Junk w w') : TcpM w E t (.returned (.tuple #[.agg #[.int .i64 0, .int .i64 0, .int .u32 0, .int .u32 0, .int .i64 0, .int .i64 0, .int .i64 0, .slice none 0 0, .slice none 0 0], .int .i64 n])) w' := ⟨hj, .inl ⟨by rw [h]; exact h0, by rw [h]⟩⟩
theorem t_get0 {b off l c : Nat} {xs : Nat → Int} {w : World} (h : Bts w (some ⟨b, off, none⟩) l c xs) (l' c' : Nat) (hi : 2 ≤ l) (hl : 2 ≤ l') :
    Calls Tryd.prog 61 #[.slice (some ⟨b, off, none⟩) l' c'] w fun e w' => e = .returned (.int .i64 (xs 0 * 256 + xs 1)) ∧ Junk w w' := by
  have := t_get_bts h 0 l' c' (by omega) hl
  simpa using this
theorem own_nil3 {B : Nat} {w : World} {e : TypeId} {size : Nat} {oa : Option Addr} {cap n : Nat} {xs : List Value} (h : Own B w e size oa cap n xs) (hn : oa = none) : n = 0 ∧ cap = 0 := by
  rcases h.form with ⟨_, h1, h2⟩ | ⟨g, cur, h0, _⟩
  · exact ⟨h1, h2⟩
  · rw [hn] at h0; cases h0
/-- Options in new memory stay when the call's own block before it is written. -/
theorem ots_over {w : World} {cur cur' : Array Value} {t e : TypeId} {os os' : Array Obj} {d d' : Nat} {oo : Option Addr} {cap n : Nat} {F : List Ot}
    (h : Own (w.heap.size + 1) ((w.alloc (.cells cur t)).junk os d) e 2 oo cap n (otsL F)) (hA : ∀ f ∈ F, f.At ((w.alloc (.cells cur t)).junk os d) ∧ Fresh (w.heap.size + 1) f.oa) (ho : ∃ x, os' = os ++ x) : OsAt ((w.alloc (.cells cur' t)).junk os' d') oo F := by
  obtain ⟨x, rfl⟩ := ho
  have h0 := own_os h (fun f hf => (hA f hf).1)
  have hfr := own_fresh h
  intro i f hf
  obtain ⟨b, off, he, hlt, c0, c1, hb⟩ := h0 i f hf
  have hbb : w.heap.size + 1 ≤ b := hfr _ he
  have hblk : ∀ j v, ((w.alloc (.cells cur t)).junk os d).cell? ⟨b, j, none⟩ = some v → ((w.alloc (.cells cur' t)).junk (os ++ x) d').cell? ⟨b, j, none⟩ = some v := fun j v hv => by
    rw [← hv]
    apply World.cell?_of_block
    simp only [World.junk, World.alloc]
    rw [← Array.append_assoc, Array.getElem?_append_left (by simp at hlt ⊢; omega), Array.getElem?_append_right (by simp; omega), Array.getElem?_append_right (by simp; omega)]
    simp
  exact ⟨b, off, he, by simp at hlt ⊢; omega, hblk _ _ c0, hblk _ _ c1, bts_over hb (hA f (List.mem_of_getElem? hf)).2 ⟨x, rfl⟩⟩
set_option maxHeartbeats 8000000 in
theorem tparse_any (src dst : Int) (ob : Option Addr) (l c : Nat) (xs : Nat → Int) (w : World) (h1 : 0 ≤ src ∧ src ≤ 4294967295) (h2 : 0 ≤ dst ∧ dst ≤ 4294967295) (hl : l ≤ 100000000) (hB : Bts w ob l c xs) :
    Calls Tryd.prog 39 #[.int .u32 src, .int .u32 dst, .slice ob l c] w (TcpM w (tcpErr src dst xs l) (tcpTc xs l)) := by
  have HB := Lib.hid hB
  by_cases h3 : l ≤ 65535
  case neg =>
    have h3' : (65535 : Int) < (l : Int) := by omega
    have HE := Lib.hid (show tcpErr src dst xs l = 4 by unfold tcpErr; rw [if_pos (by omega)])
    clear hB
    go_enter Tryd.func39, Tryd.ntmps39
    go_wp2
    go_returns
    exact tcpM_bad HE.out (by decide) (by ((try simp only [World.junk_junk, Array.append_assoc]); (repeat (first | with_reducible exact Junk.refl _ | with_reducible exact Junk.app _ _ _ _ _ | with_reducible exact Junk.app2 _ _ _ _ _ _ | with_reducible exact Junk.app3 _ _ _ _ _ _ _ | with_reducible exact Junk.app4 _ _ _ _ _ _ _ _ | with_reducible exact Junk.app5 _ _ _ _ _ _ _ _ _ | with_reducible apply Junk.alloc | with_reducible apply Junk.junk | with_reducible apply Junk.drew | with_reducible apply Junk.drewN))))
  have h3' : ¬ (65535 : Int) < (l : Int) := by omega
  by_cases h4 : 20 ≤ l
  case neg =>
    have h4' : (l : Int) < 20 := by omega
    have HE := Lib.hid (show tcpErr src dst xs l = 2 by unfold tcpErr; rw [if_neg (by omega), if_pos (by omega)])
    clear hB
    go_enter Tryd.func39, Tryd.ntmps39
    go_wp2
    go_returns
    exact tcpM_bad HE.out (by decide) (by ((try simp only [World.junk_junk, Array.append_assoc]); (repeat (first | with_reducible exact Junk.refl _ | with_reducible exact Junk.app _ _ _ _ _ | with_reducible exact Junk.app2 _ _ _ _ _ _ | with_reducible exact Junk.app3 _ _ _ _ _ _ _ | with_reducible exact Junk.app4 _ _ _ _ _ _ _ _ | with_reducible exact Junk.app5 _ _ _ _ _ _ _ _ _ | with_reducible apply Junk.alloc | with_reducible apply Junk.junk | with_reducible apply Junk.drew | with_reducible apply Junk.drewN))))
  have h4' : ¬ (l : Int) < 20 := by omega
  obtain ⟨b, off, rfl, hblk, hc0⟩ := hB.at_ 0 (by omega)
  have hcl : l ≤ c := hB.le
  have hk : ∀ k, k < l → w.cell? ⟨b, off + k, none⟩ = some (.int .u8 (xs k)) := fun k hk => by
    obtain ⟨b', off', he, _, hc⟩ := hB.at_ k hk
    cases he
    exact hc
  have hc12 := hk 12 (by omega)
  have hc13 := hk 13 (by omega)
  have hx12 := hB.byte 12 (by omega)
  have hx13 := hB.byte 13 (by omega)
  obtain ⟨S, hS⟩ : ∃ S, S = tcpSize xs := ⟨_, rfl⟩
  have eS : xs 12 / 16 * 4 = (S : Int) := by rw [hS]; unfold tcpSize; omega
  have hS9 : S ≤ 60 := by omega
  have j12 : (12 : Int) < (l : Int) := by omega
  have j13 : (13 : Int) < (l : Int) := by omega
  have i12 : 12 < l := by omega
  have i13 : 13 < l := by omega
  have HSZ := Lib.hid hS
  have HX12 := Lib.hid hx12
  clear hk hB hc0 hS
  by_cases h5 : 20 ≤ S ∧ S ≤ l
  case neg =>
    have HE := Lib.hid (show tcpErr src dst xs l = 3 by unfold tcpErr; rw [if_neg (by omega), if_neg (by omega), ← HSZ.out, if_pos (by omega)])
    by_cases h6 : S < 20
    · have h6' : (S : Int) < 20 := by omega
      clear h5 h6
      go_enter Tryd.func39, Tryd.ntmps39
      go_wp2
      go_returns
      exact tcpM_bad HE.out (by decide) (by ((try simp only [World.junk_junk, Array.append_assoc]); (repeat (first | with_reducible exact Junk.refl _ | with_reducible exact Junk.app _ _ _ _ _ | with_reducible exact Junk.app2 _ _ _ _ _ _ | with_reducible exact Junk.app3 _ _ _ _ _ _ _ | with_reducible exact Junk.app4 _ _ _ _ _ _ _ _ | with_reducible exact Junk.app5 _ _ _ _ _ _ _ _ _ | with_reducible apply Junk.alloc | with_reducible apply Junk.junk | with_reducible apply Junk.drew | with_reducible apply Junk.drewN))))
    · have h6' : ¬ (S : Int) < 20 := by omega
      have h7' : (l : Int) < (S : Int) := by omega
      clear h5 h6
      go_enter Tryd.func39, Tryd.ntmps39
      go_wp2
      go_returns
      exact tcpM_bad HE.out (by decide) (by ((try simp only [World.junk_junk, Array.append_assoc]); (repeat (first | with_reducible exact Junk.refl _ | with_reducible exact Junk.app _ _ _ _ _ | with_reducible exact Junk.app2 _ _ _ _ _ _ | with_reducible exact Junk.app3 _ _ _ _ _ _ _ | with_reducible exact Junk.app4 _ _ _ _ _ _ _ _ | with_reducible exact Junk.app5 _ _ _ _ _ _ _ _ _ | with_reducible apply Junk.alloc | with_reducible apply Junk.junk | with_reducible apply Junk.drew | with_reducible apply Junk.drewN))))
  obtain ⟨h5, h6⟩ := h5
  have h5' : ¬ (S : Int) < 20 := by omega
  have h6' : ¬ (l : Int) < (S : Int) := by omega
  by_cases h7 : tsumN src dst xs l = 65535
  case neg =>
    have h7' : (tsumN src dst xs l != 65535) = true := by simpa using h7
    have HE := Lib.hid (show tcpErr src dst xs l = 5 by unfold tcpErr; rw [if_neg (by omega), if_neg (by omega), ← HSZ.out, if_neg (by omega), if_pos h7])
    clear h7
    go_enter Tryd.func39, Tryd.ntmps39
    go_wp2_with (first | (go_at_call 59; refine (tsum_any src dst _ l c xs _ h1 h2 (by omega) (HB.out.at_.on (by ((try simp only [World.junk_junk, Array.append_assoc]); (repeat (first | with_reducible exact Junk.refl _ | with_reducible exact Junk.app _ _ _ _ _ | with_reducible exact Junk.app2 _ _ _ _ _ _ | with_reducible exact Junk.app3 _ _ _ _ _ _ _ | with_reducible exact Junk.app4 _ _ _ _ _ _ _ _ | with_reducible exact Junk.app5 _ _ _ _ _ _ _ _ _ | with_reducible apply Junk.alloc | with_reducible apply Junk.junk | with_reducible apply Junk.drew | with_reducible apply Junk.drewN))))) HB.out.byte).mono ?_; rintro e w' ⟨rfl, ⟨oss, ds, rfl⟩⟩))
    go_returns
    exact tcpM_bad HE.out (by decide) (by ((try simp only [World.junk_junk, Array.append_assoc]); (repeat (first | with_reducible exact Junk.refl _ | with_reducible exact Junk.app _ _ _ _ _ | with_reducible exact Junk.app2 _ _ _ _ _ _ | with_reducible exact Junk.app3 _ _ _ _ _ _ _ | with_reducible exact Junk.app4 _ _ _ _ _ _ _ _ | with_reducible exact Junk.app5 _ _ _ _ _ _ _ _ _ | with_reducible apply Junk.alloc | with_reducible apply Junk.junk | with_reducible apply Junk.drew | with_reducible apply Junk.drewN))))
  have h7' : (tsumN src dst xs l != 65535) = false := by simpa using h7
  have HSUB := Lib.hid (bts_sub HB.out 20 S h5 h6)
  have hc20 : 20 ≤ c := by omega
  have hSc : S ≤ c := by omega
  have hSi : (20 : Int) ≤ (S : Int) := by omega
  have hSci : (S : Int) ≤ (c : Int) := by omega
  obtain ⟨R, hR⟩ : ∃ R, optR (fun i => xs (20 + i)) (S - 20) 0 [] = R := ⟨_, rfl⟩
  have HR := Lib.hid hR
  have hE := show tcpErr src dst xs l = if R.isNone then 6 else 0 by unfold tcpErr; rw [if_neg (by omega), if_neg (by omega), ← HSZ.out, if_neg (by omega), if_neg (by simpa using h7)]; unfold tcpOpts; rw [← HSZ.out, hR]
  generalize hadr : (if c = 20 then (some (⟨b, off, none⟩ : Addr)) else some ⟨b, off + 20, none⟩) = adr at HSUB
  clear hR h7
  cases R with
  | none =>
    have HE := Lib.hid (show tcpErr src dst xs l = 6 from hE)
    clear hE
    go_enter Tryd.func39, Tryd.ntmps39
    go_wp2_with (first | (go_at_call 59; refine (tsum_any src dst _ l c xs _ h1 h2 (by omega) (HB.out.at_.on (by ((try simp only [World.junk_junk, Array.append_assoc]); (repeat (first | with_reducible exact Junk.refl _ | with_reducible exact Junk.app _ _ _ _ _ | with_reducible exact Junk.app2 _ _ _ _ _ _ | with_reducible exact Junk.app3 _ _ _ _ _ _ _ | with_reducible exact Junk.app4 _ _ _ _ _ _ _ _ | with_reducible exact Junk.app5 _ _ _ _ _ _ _ _ _ | with_reducible apply Junk.alloc | with_reducible apply Junk.junk | with_reducible apply Junk.drew | with_reducible apply Junk.drewN))))) HB.out.byte).mono ?_; rintro e w' ⟨rfl, ⟨oss, ds, rfl⟩⟩) | ((go_at_call 60; refine (options_any adr (S - 20) (c - 20) (fun i => xs (20 + i)) _ (by omega) (HSUB.out.on (by ((try simp only [World.junk_junk, Array.append_assoc]); (repeat (first | with_reducible exact Junk.refl _ | with_reducible exact Junk.app _ _ _ _ _ | with_reducible exact Junk.app2 _ _ _ _ _ _ | with_reducible exact Junk.app3 _ _ _ _ _ _ _ | with_reducible exact Junk.app4 _ _ _ _ _ _ _ _ | with_reducible exact Junk.app5 _ _ _ _ _ _ _ _ _ | with_reducible apply Junk.alloc | with_reducible apply Junk.junk | with_reducible apply Junk.drew | with_reducible apply Junk.drewN)))))).mono ?_; rintro e w' ⟨⟨oso, do_, rfl⟩, hop⟩; rw [HR.out] at hop); obtain rfl := hop))
    go_returns
    exact tcpM_bad HE.out (by decide) (by ((try simp only [World.junk_junk, Array.append_assoc]); (repeat (first | with_reducible exact Junk.refl _ | with_reducible exact Junk.app _ _ _ _ _ | with_reducible exact Junk.app2 _ _ _ _ _ _ | with_reducible exact Junk.app3 _ _ _ _ _ _ _ | with_reducible exact Junk.app4 _ _ _ _ _ _ _ _ | with_reducible exact Junk.app5 _ _ _ _ _ _ _ _ _ | with_reducible apply Junk.alloc | with_reducible apply Junk.junk | with_reducible apply Junk.drew | with_reducible apply Junk.drewN))))
  | some Q =>
    have HE := Lib.hid (show tcpErr src dst xs l = 0 from hE)
    have HT := Lib.hid (show tcpTc xs l = ⟨xs 0 * 256 + xs 1, xs 2 * 256 + xs 3, (xs 4 * 256 + xs 5) * 65536 + (xs 6 * 256 + xs 7), (xs 8 * 256 + xs 9) * 65536 + (xs 10 * 256 + xs 11), xs 13, xs 14 * 256 + xs 15, xs 18 * 256 + xs 19, Q, l - S, fun i => xs (S + i)⟩ by unfold tcpTc tcpOpts; rw [← HSZ.out, HR.out]; rfl)
    have HSB2 := Lib.hid (bts_sub HB.out S l h6 (Nat.le_refl _))
    have n2 : ¬ c = 2 := by omega
    have n4 : ¬ c = 4 := by omega
    have n8 : ¬ c = 8 := by omega
    have n14 : ¬ c = 14 := by omega
    have n18 : ¬ c = 18 := by omega
    have p2 : (2 : Int) ≤ (l : Int) := by omega
    have p4 : (4 : Int) ≤ (l : Int) := by omega
    have p8 : (8 : Int) ≤ (l : Int) := by omega
    have p14 : (14 : Int) ≤ (l : Int) := by omega
    have p18 : (18 : Int) ≤ (l : Int) := by omega
    have pS : (S : Int) ≤ (l : Int) := by omega
    clear hE
    go_enter Tryd.func39, Tryd.ntmps39
    go_upto_region 13 with (first | (go_at_call 59; refine (tsum_any src dst _ l c xs _ h1 h2 (by omega) (HB.out.at_.on (by ((try simp only [World.junk_junk, Array.append_assoc]); (repeat (first | with_reducible exact Junk.refl _ | with_reducible exact Junk.app _ _ _ _ _ | with_reducible exact Junk.app2 _ _ _ _ _ _ | with_reducible exact Junk.app3 _ _ _ _ _ _ _ | with_reducible exact Junk.app4 _ _ _ _ _ _ _ _ | with_reducible exact Junk.app5 _ _ _ _ _ _ _ _ _ | with_reducible apply Junk.alloc | with_reducible apply Junk.junk | with_reducible apply Junk.drew | with_reducible apply Junk.drewN))))) HB.out.byte).mono ?_; rintro e w' ⟨rfl, ⟨oss, ds, rfl⟩⟩) | ((go_at_call 60; refine (options_any adr (S - 20) (c - 20) (fun i => xs (20 + i)) _ (by omega) (HSUB.out.on (by ((try simp only [World.junk_junk, Array.append_assoc]); (repeat (first | with_reducible exact Junk.refl _ | with_reducible exact Junk.app _ _ _ _ _ | with_reducible exact Junk.app2 _ _ _ _ _ _ | with_reducible exact Junk.app3 _ _ _ _ _ _ _ | with_reducible exact Junk.app4 _ _ _ _ _ _ _ _ | with_reducible exact Junk.app5 _ _ _ _ _ _ _ _ _ | with_reducible apply Junk.alloc | with_reducible apply Junk.junk | with_reducible apply Junk.drew | with_reducible apply Junk.drewN)))))).mono ?_; rintro e w' ⟨⟨oso, do_, rfl⟩, hop⟩; rw [HR.out] at hop); obtain ⟨F, oo, co, hFd, rfl, hown, hFA⟩ := hop; have HFD := Lib.hid hFd; have Hown := Lib.hid hown; have HFA := Lib.hid hFA; clear hFd hown hFA))
    generalize hadr2 : (if c = S then (some (⟨b, off, none⟩ : Addr)) else some ⟨b, off + S, none⟩) = adr2 at HSB2
    have f18 := HB.out.byte 18 (by omega)
    refine wp_region_mixj (w) [(0, true), (1, true), (2, true), (3, true), (4, true), (5, true), (6, true), (7, true), (8, true), (9, true), (10, true), (11, true), (12, true), (13, true), (14, true), (15, true), (16, true), (17, true), (18, true), (19, true), (20, true), (21, true), (22, true), (23, true), (24, true), (25, false), (26, true), (27, false), (28, true)] (by kernel_rfl) (by kernel_rfl) (by (repeat (first | with_reducible exact Junk.refl _ | with_reducible exact Junk.app _ _ _ _ _ | with_reducible apply Junk.alloc | with_reducible apply Junk.junk | with_reducible apply Junk.drew | with_reducible apply Junk.drewN))) ?_; (iterate 25 (refine wpMix_q rfl (fun K hK => ?_); (go_simp; try go_bits); first | (refine hK _ ?_; clear hK K) | (apply Exists.intro; refine ⟨fun _ => ?_, hK _ ?_⟩; (first | (go_at_call 61; first | with_reducible exact (t_get0 (HB.out.on (by (repeat (first | with_reducible exact Junk.refl _ | with_reducible exact Junk.app _ _ _ _ _ | with_reducible apply Junk.alloc | with_reducible apply Junk.junk | with_reducible apply Junk.drew | with_reducible apply Junk.drewN)))) _ _ (by omega) (by omega)) | with_reducible exact (t_get_bts (HB.out.on (by (repeat (first | with_reducible exact Junk.refl _ | with_reducible exact Junk.app _ _ _ _ _ | with_reducible apply Junk.alloc | with_reducible apply Junk.junk | with_reducible apply Junk.drew | with_reducible apply Junk.drewN)))) 2 _ _ (by omega) (by omega)) | with_reducible exact (t_get_bts (HB.out.on (by (repeat (first | with_reducible exact Junk.refl _ | with_reducible exact Junk.app _ _ _ _ _ | with_reducible apply Junk.alloc | with_reducible apply Junk.junk | with_reducible apply Junk.drew | with_reducible apply Junk.drewN)))) 14 _ _ (by omega) (by omega)) | with_reducible exact (t_get_bts (HB.out.on (by (repeat (first | with_reducible exact Junk.refl _ | with_reducible exact Junk.app _ _ _ _ _ | with_reducible apply Junk.alloc | with_reducible apply Junk.junk | with_reducible apply Junk.drew | with_reducible apply Junk.drewN)))) 18 _ _ (by omega) (by omega))) | (go_at_call 62; first | with_reducible exact (t_get4_bts (HB.out.on (by (repeat (first | with_reducible exact Junk.refl _ | with_reducible exact Junk.app _ _ _ _ _ | with_reducible apply Junk.alloc | with_reducible apply Junk.junk | with_reducible apply Junk.drew | with_reducible apply Junk.drewN)))) 4 _ _ (by omega) (by omega) (by omega)) | with_reducible exact (t_get4_bts (HB.out.on (by (repeat (first | with_reducible exact Junk.refl _ | with_reducible exact Junk.app _ _ _ _ _ | with_reducible apply Junk.alloc | with_reducible apply Junk.junk | with_reducible apply Junk.drew | with_reducible apply Junk.drewN)))) 8 _ _ (by omega) (by omega) (by omega)))); clear hK K))); refine wpMix_e rfl (fun osm13_0 dm13_0 K hK => ?_); (go_simp; try go_bits); (go_at_call 36; refine (clone_any adr2 (l - S) (c - S) (fun i => xs (S + i)) _ (by omega) (HSB2.out.on (by ((try simp only [World.junk_junk, Array.append_assoc]); (repeat (first | with_reducible exact Junk.refl _ | with_reducible exact Junk.app _ _ _ _ _ | with_reducible exact Junk.app2 _ _ _ _ _ _ | with_reducible exact Junk.app3 _ _ _ _ _ _ _ | with_reducible exact Junk.app4 _ _ _ _ _ _ _ _ | with_reducible exact Junk.app5 _ _ _ _ _ _ _ _ _ | with_reducible apply Junk.alloc | with_reducible apply Junk.junk | with_reducible apply Junk.drew | with_reducible apply Junk.drewN)))))).mono ?_; rintro e w' ⟨ocb, ccb, rfl, ⟨osj, dj, rfl⟩, hcb, hcn, hcf⟩; rw [World.junk_junk] at hcb; have Hcb := Lib.hid hcb; have Hcf := Lib.hid hcf; clear hcb hcn hcf); refine hK _ _ (Junk.pair (by (repeat (first | with_reducible exact Junk.refl _ | with_reducible exact Junk.app _ _ _ _ _ | with_reducible apply Junk.alloc | with_reducible apply Junk.junk | with_reducible apply Junk.drew | with_reducible apply Junk.drewN | (with_reducible refine Junk.setCell ?_ (by simp) _))))) ?_; clear hK K; (iterate 1 (refine wpMix_q rfl (fun K hK => ?_); (go_simp; try go_bits); first | (refine hK _ ?_; clear hK K) | (apply Exists.intro; refine ⟨fun _ => ?_, hK _ ?_⟩; (first | (go_at_call 61; first | with_reducible exact (t_get0 (HB.out.on (by (repeat (first | with_reducible exact Junk.refl _ | with_reducible exact Junk.app _ _ _ _ _ | with_reducible apply Junk.alloc | with_reducible apply Junk.junk | with_reducible apply Junk.drew | with_reducible apply Junk.drewN)))) _ _ (by omega) (by omega)) | with_reducible exact (t_get_bts (HB.out.on (by (repeat (first | with_reducible exact Junk.refl _ | with_reducible exact Junk.app _ _ _ _ _ | with_reducible apply Junk.alloc | with_reducible apply Junk.junk | with_reducible apply Junk.drew | with_reducible apply Junk.drewN)))) 2 _ _ (by omega) (by omega)) | with_reducible exact (t_get_bts (HB.out.on (by (repeat (first | with_reducible exact Junk.refl _ | with_reducible exact Junk.app _ _ _ _ _ | with_reducible apply Junk.alloc | with_reducible apply Junk.junk | with_reducible apply Junk.drew | with_reducible apply Junk.drewN)))) 14 _ _ (by omega) (by omega)) | with_reducible exact (t_get_bts (HB.out.on (by (repeat (first | with_reducible exact Junk.refl _ | with_reducible exact Junk.app _ _ _ _ _ | with_reducible apply Junk.alloc | with_reducible apply Junk.junk | with_reducible apply Junk.drew | with_reducible apply Junk.drewN)))) 18 _ _ (by omega) (by omega))) | (go_at_call 62; first | with_reducible exact (t_get4_bts (HB.out.on (by (repeat (first | with_reducible exact Junk.refl _ | with_reducible exact Junk.app _ _ _ _ _ | with_reducible apply Junk.alloc | with_reducible apply Junk.junk | with_reducible apply Junk.drew | with_reducible apply Junk.drewN)))) 4 _ _ (by omega) (by omega) (by omega)) | with_reducible exact (t_get4_bts (HB.out.on (by (repeat (first | with_reducible exact Junk.refl _ | with_reducible exact Junk.app _ _ _ _ _ | with_reducible apply Junk.alloc | with_reducible apply Junk.junk | with_reducible apply Junk.drew | with_reducible apply Junk.drewN)))) 8 _ _ (by omega) (by omega) (by omega)))); clear hK K))); refine wpMix_e rfl (fun osm13_1 dm13_1 K hK => ?_); (go_simp; try go_bits); refine hK _ _ (Junk.pair (by (repeat (first | with_reducible exact Junk.refl _ | with_reducible exact Junk.app _ _ _ _ _ | with_reducible apply Junk.alloc | with_reducible apply Junk.junk | with_reducible apply Junk.drew | with_reducible apply Junk.drewN | (with_reducible refine Junk.setCell ?_ (by simp) _))))) ?_; clear hK K; (iterate 1 (refine wpMix_q rfl (fun K hK => ?_); (go_simp; try go_bits); first | (refine hK _ ?_; clear hK K) | (apply Exists.intro; refine ⟨fun _ => ?_, hK _ ?_⟩; (first | (go_at_call 61; first | with_reducible exact (t_get0 (HB.out.on (by (repeat (first | with_reducible exact Junk.refl _ | with_reducible exact Junk.app _ _ _ _ _ | with_reducible apply Junk.alloc | with_reducible apply Junk.junk | with_reducible apply Junk.drew | with_reducible apply Junk.drewN)))) _ _ (by omega) (by omega)) | with_reducible exact (t_get_bts (HB.out.on (by (repeat (first | with_reducible exact Junk.refl _ | with_reducible exact Junk.app _ _ _ _ _ | with_reducible apply Junk.alloc | with_reducible apply Junk.junk | with_reducible apply Junk.drew | with_reducible apply Junk.drewN)))) 2 _ _ (by omega) (by omega)) | with_reducible exact (t_get_bts (HB.out.on (by (repeat (first | with_reducible exact Junk.refl _ | with_reducible exact Junk.app _ _ _ _ _ | with_reducible apply Junk.alloc | with_reducible apply Junk.junk | with_reducible apply Junk.drew | with_reducible apply Junk.drewN)))) 14 _ _ (by omega) (by omega)) | with_reducible exact (t_get_bts (HB.out.on (by (repeat (first | with_reducible exact Junk.refl _ | with_reducible exact Junk.app _ _ _ _ _ | with_reducible apply Junk.alloc | with_reducible apply Junk.junk | with_reducible apply Junk.drew | with_reducible apply Junk.drewN)))) 18 _ _ (by omega) (by omega))) | (go_at_call 62; first | with_reducible exact (t_get4_bts (HB.out.on (by (repeat (first | with_reducible exact Junk.refl _ | with_reducible exact Junk.app _ _ _ _ _ | with_reducible apply Junk.alloc | with_reducible apply Junk.junk | with_reducible apply Junk.drew | with_reducible apply Junk.drewN)))) 4 _ _ (by omega) (by omega) (by omega)) | with_reducible exact (t_get4_bts (HB.out.on (by (repeat (first | with_reducible exact Junk.refl _ | with_reducible exact Junk.app _ _ _ _ _ | with_reducible apply Junk.alloc | with_reducible apply Junk.junk | with_reducible apply Junk.drew | with_reducible apply Junk.drewN)))) 8 _ _ (by omega) (by omega) (by omega)))); clear hK K))); refine wpMix_nil (fun osm dm => ?_)
    go_wp2
    go_returns
    simp only [World.junk_junk, Array.append_assoc]
    have hw := Hown.out
    rw [World.junk_junk] at hw
    have hfa := HFA.out
    rw [World.junk_junk] at hfa
    rw [HE.out, HT.out]
    exact ⟨by ((try simp only [World.junk_junk, Array.append_assoc]); (repeat (first | with_reducible exact Junk.refl _ | with_reducible exact Junk.app _ _ _ _ _ | with_reducible exact Junk.app2 _ _ _ _ _ _ | with_reducible exact Junk.app3 _ _ _ _ _ _ _ | with_reducible exact Junk.app4 _ _ _ _ _ _ _ _ | with_reducible exact Junk.app5 _ _ _ _ _ _ _ _ _ | with_reducible apply Junk.alloc | with_reducible apply Junk.junk | with_reducible apply Junk.drew | with_reducible apply Junk.drewN))), .inr ⟨rfl, F, oo, co, ocb, ccb, HFD.out, ⟨ots_over (hw.lower (by simp; try omega)) (fun f hf => ⟨(hfa f hf).1, (hfa f hf).2.lower (by simp; try omega)⟩) ⟨osm13_0 ++ (osj ++ (osm13_1 ++ osm)), by simp⟩, own_nil3 hw, hw.capLe.1, bts_over Hcb.out (Hcf.out.lower (by simp; try omega)) ⟨osm13_1 ++ osm, by simp⟩⟩, rfl⟩⟩
end Go.Proofs.YtfkhnhenemgcmaaDoor
