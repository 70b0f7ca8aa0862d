/- The fixed answers of layer 6. -/
import Derived.Test.YtgjppmkadmfibaaIpPut
import Derived.Test.YtgjppmkadmfibaaTcpC
import Derived.Test.YtgjppmkadmfibaaLift
set_option linter.unusedVariables false
set_option maxRecDepth 100000
set_option linter.unusedSimpArgs false
namespace Go.Proofs.Ytgjppmkadmfibaa
open Go.RowKit
theorem bts_cell {w : World} {b off l c : Nat} {xs : Nat → Int} (h : Bts w (some ⟨b, off, none⟩) l c xs) (i : Nat) (hi : i < l) : b < w.heap.size ∧ w.cell? ⟨b, off + i, none⟩ = some (.int .u8 (xs i)) := by
  obtain ⟨b', off', he, h1, h2⟩ := h.at_ i hi
  cases he
  exact ⟨h1, h2⟩
/-- What a head says. -/
def ipSize (xs : Nat → Int) : Nat := (xs 0 % 16 * 4).toNat
def ipTotal (xs : Nat → Int) : Nat := (xs 2 * 256 + xs 3).toNat
def lenErr (xs : Nat → Int) (l : Nat) : Int :=
  if l < 20 then 2 else if ¬ (xs 0 / 16 = 4 ∧ 20 ≤ ipSize xs ∧ ipSize xs ≤ l) then 3 else if ¬ (ipSize xs ≤ ipTotal xs ∧ ipTotal xs ≤ l) then 4 else if sumN xs (ipSize xs) = 65535 then 0 else 5
structure LenOk (xs : Nat → Int) (l : Nat) : Prop where
  l20 : 20 ≤ l
  ver : xs 0 / 16 = 4
  s20 : 20 ≤ ipSize xs
  sl : ipSize xs ≤ l
  st : ipSize xs ≤ ipTotal xs
  tl : ipTotal xs ≤ l
  sum : sumN xs (ipSize xs) = 65535
theorem lenErr_zero {xs : Nat → Int} {l : Nat} (h : lenErr xs l = 0) : LenOk xs l := by
  unfold lenErr at h
  split at h
  · cases h
  · split at h
    · cases h
    · split at h
      · cases h
      · split at h
        · rename_i h1 h2 h3 h4
          refine ⟨by omega, ?_, ?_, ?_, ?_, ?_, h4⟩ <;> omega
        · cases h
theorem lenErr_of {xs : Nat → Int} {l : Nat} (h : LenOk xs l) : lenErr xs l = 0 := by
  obtain ⟨h1, h2, h3, h4, h5, h6, h7⟩ := h
  unfold lenErr
  rw [if_neg (by omega), if_neg (by omega), if_neg (by omega), if_pos h7]
def lenRes (xs : Nat → Int) (l : Nat) : Value :=
  if lenErr xs l = 0 then .tuple #[.int .i64 (ipSize xs : Int), .int .i64 (ipTotal xs : Int), .int .i64 0] else .tuple #[.int .i64 0, .int .i64 0, .int .i64 (lenErr xs l)]
theorem lenRes_bad {xs : Nat → Int} {l : Nat} {n : Int} (h : lenErr xs l = n) (hn : n ≠ 0) : Ending.returned (.tuple #[.int .i64 0, .int .i64 0, .int .i64 n]) = .returned (lenRes xs l) := by
  unfold lenRes; rw [h, if_neg hn]
theorem lenRes_ok {xs : Nat → Int} {l : Nat} (h : lenErr xs l = 0) : Ending.returned (.tuple #[.int .i64 (ipSize xs : Int), .int .i64 (ipTotal xs : Int), .int .i64 0]) = .returned (lenRes xs l) := by
  unfold lenRes; rw [if_pos h]
theorem bts_short {w : World} {oa : Option Addr} {l c : Nat} {xs : Nat → Int} (h : Bts w oa l c xs) (m : Nat) (hm : m ≤ l) : Bts w oa m c xs :=
  ⟨fun i hi => h.at_ i (by omega), fun i hi => h.byte i (by omega), fun hn => by have := h.nil hn; omega, by have := h.le; omega, h.cap⟩
theorem wp_gen {P : Program} {c : Code} {Q : Exit → Act → World → Prop} {a : Act} {w : World} {os : Array Obj} {d : Nat} (h : ∀ os d, c.wp P Q a (w.junk os d)) : c.wp P Q a (w.junk os d) := h os d
/-- What lies in new memory stays when what lies before it is written. -/
theorem bts_over2 {V V' : World} {cur cur' : Array Value} {t : TypeId} {os os' : Array Obj} {d d' : Nat} {oa : Option Addr} {l c : Nat} {xs : Nat → Int} (hs : V'.heap.size = V.heap.size)
    (h : Bts ((V.alloc (.cells cur t)).junk os d) oa l c xs) (hf : Fresh (V.heap.size + 1) oa) (ho : ∃ x, os' = os ++ x) : Bts ((V'.alloc (.cells cur' t)).junk os' d') oa l c xs := by
  obtain ⟨x, rfl⟩ := ho
  refine ⟨fun i hi => ?_, h.byte, h.nil, h.le, h.cap⟩
  obtain ⟨b, off, he, hlt, hc⟩ := h.at_ i hi
  have hb := hf _ he
  simp only at hb
  refine ⟨b, off, he, by simp at hlt ⊢; omega, ?_⟩
  rw [← hc]
  apply World.cell?_of_block
  simp only [World.junk, World.alloc]
  rw [← Array.append_assoc, Array.getElem?_append_left (by simp at hlt ⊢; omega), Array.getElem?_append_right (by simp; omega), Array.getElem?_append_right (by simp; omega)]
  simp [hs]
def ipFlags (xs : Nat → Int) : Int := xs 6 * 256 + xs 7
/-- The packet that some bytes are. -/
def mkIp (xs : Nat → Int) (S T : Nat) : Ip where
  tos := xs 1
  id := xs 4 * 256 + xs 5
  df := ipFlags xs / 16384 % 2 == 1
  mf := ipFlags xs / 8192 % 2 == 1
  off := ipFlags xs % 8192 * 8
  ttl := xs 8
  proto := xs 9
  src := (xs 12 * 256 + xs 13) * 65536 + (xs 14 * 256 + xs 15)
  dst := (xs 16 * 256 + xs 17) * 65536 + (xs 18 * 256 + xs 19)
  ol := S - 20
  opts := fun k => xs (20 + k)
  bl := T - S
  body := fun k => xs (S + k)
def parseIp (xs : Nat → Int) : Ip := mkIp xs (ipSize xs) (ipTotal xs)
def parseErr (xs : Nat → Int) (l : Nat) : Int := if lenErr xs l ≠ 0 then lenErr xs l else if ipFlags xs / 32768 = 0 ∧ piecesB (parseIp xs) = true then 0 else 7
def zeroIp : Ip := ⟨0, 0, false, false, 0, 0, 0, 0, 0, 0, fun _ => 0, 0, fun _ => 0⟩
def IpParseM (w : World) (xs : Nat → Int) (l : Nat) (e : Ending) (w' : World) : Prop :=
  ∃ (p : Ip) (oo ob : Option Addr) (oc bc : Nat), e = .returned (.tuple #[.agg #[.int .i64 p.tos, .int .i64 p.id, .bool p.df, .bool p.mf, .int .i64 p.off, .int .i64 p.ttl, .int .i64 p.proto, .int .u32 p.src, .int .u32 p.dst, .slice oo p.ol oc, .slice ob p.bl bc], .int .i64 (parseErr xs l)]) ∧ Junk w w' ∧ IpAt w' p oo oc ob bc ∧
    ((parseErr xs l = 0 ∧ p = parseIp xs) ∨ (parseErr xs l ≠ 0 ∧ p = zeroIp ∧ oo = none ∧ oc = 0 ∧ ob = none ∧ bc = 0))
theorem bts_none (w : World) (xs : Nat → Int) : Bts w none 0 0 xs := ⟨fun i hi => by omega, fun i hi => by omega, fun _ => ⟨rfl, rfl⟩, Nat.le_refl _, Nat.zero_le _⟩
theorem ipParseM_bad {w w' : World} {xs : Nat → Int} {l : Nat} {n : Int} (h : parseErr xs l = n) (hn : n ≠ 0) (hj : Junk w w') : IpParseM w xs l (.returned (.tuple #[.agg #[.int .i64 zeroIp.tos, .int .i64 zeroIp.id, .bool zeroIp.df, .bool zeroIp.mf, .int .i64 zeroIp.off, .int .i64 zeroIp.ttl, .int .i64 zeroIp.proto, .int .u32 zeroIp.src, .int .u32 zeroIp.dst, .slice none zeroIp.ol 0, .slice none zeroIp.bl 0], .int .i64 n])) w' :=
  ⟨zeroIp, none, none, 0, 0, by rw [h], hj, ⟨bts_none _ _, bts_none _ _, by decide, by decide⟩, .inr ⟨by rw [h]; exact hn, rfl, rfl, rfl, rfl, rfl⟩⟩
theorem ipParseM_ok {w w' : World} {xs : Nat → Int} {l : Nat} {oo ob : Option Addr} {oc bc : Nat} (h : parseErr xs l = 0) (hj : Junk w w') {S T : Nat} (hS : S = ipSize xs) (hT : T = ipTotal xs) (ho : Bts w' oo (S - 20) oc (fun k => xs (20 + k))) (hb : Bts w' ob (T - S) bc (fun k => xs (S + k)))
    (hx : ∀ i, i < 20 → 0 ≤ xs i ∧ xs i ≤ 255) : IpParseM w xs l (.returned (.tuple #[.agg #[.int .i64 (mkIp xs S T).tos, .int .i64 (mkIp xs S T).id, .bool (mkIp xs S T).df, .bool (mkIp xs S T).mf, .int .i64 (mkIp xs S T).off, .int .i64 (mkIp xs S T).ttl, .int .i64 (mkIp xs S T).proto, .int .u32 (mkIp xs S T).src, .int .u32 (mkIp xs S T).dst, .slice oo (mkIp xs S T).ol oc, .slice ob (mkIp xs S T).bl bc], .int .i64 0])) w' := by
  subst hS hT
  have x12 := hx 12 (by omega); have x13 := hx 13 (by omega); have x14 := hx 14 (by omega); have x15 := hx 15 (by omega)
  have x16 := hx 16 (by omega); have x17 := hx 17 (by omega); have x18 := hx 18 (by omega); have x19 := hx 19 (by omega)
  exact ⟨parseIp xs, oo, ob, oc, bc, by rw [h]; rfl, hj, ⟨ho, hb, by simp only [parseIp, mkIp]; omega, by simp only [parseIp, mkIp]; omega⟩, .inl ⟨h, rfl⟩⟩
end Go.Proofs.Ytgjppmkadmfibaa
set_option linter.unusedVariables false
set_option maxRecDepth 100000
set_option linter.unusedSimpArgs false
namespace Go.Proofs.Ytgjppmkadmfibaa
open Go.RowKit
def pErr (xs : Nat → Int) (l : Nat) : Int := if l < 8 then 2 else if l > 65535 then 4 else if sumN xs l = 65535 then 0 else 5
def pRest (xs : Nat → Int) : Int := xs 4 * 16777216 + xs 5 * 65536 + xs 6 * 256 + xs 7
/-- A message, read; or none. -/
def ParsedM (w : World) (xs : Nat → Int) (l : Nat) (e : Ending) (w' : World) : Prop :=
  ∃ (t c r : Int) (ob : Option Addr) (lb cb : Nat), e = .returned (.tuple #[.agg #[.int .i64 t, .int .i64 c, .int .u32 r, .slice ob lb cb], .int .i64 (pErr xs l)]) ∧ Junk w w' ∧ Bts w' ob lb cb (fun i => xs (8 + i)) ∧
    ((pErr xs l = 0 ∧ t = xs 0 ∧ c = xs 1 ∧ r = pRest xs ∧ lb = l - 8) ∨ (pErr xs l ≠ 0 ∧ t = 0 ∧ c = 0 ∧ r = 0 ∧ lb = 0 ∧ cb = 0 ∧ ob = none))
theorem bts_nil (w : World) (xs : Nat → Int) : Bts w none 0 0 xs := ⟨fun i hi => by omega, fun i hi => by omega, fun _ => ⟨rfl, rfl⟩, Nat.le_refl _, Nat.zero_le _⟩
theorem parsedM_bad {w w' : World} {xs : Nat → Int} {l : Nat} {n : Int} (hn : pErr xs l = n) (h0 : n ≠ 0) (hj : Junk w w') :
    ParsedM w xs l (.returned (.tuple #[.agg #[.int .i64 0, .int .i64 0, .int .u32 0, .slice none 0 0], .int .i64 n])) w' :=
  ⟨0, 0, 0, none, 0, 0, by rw [hn], hj, bts_nil _ _, .inr ⟨by rw [hn]; exact h0, rfl, rfl, rfl, rfl, rfl, rfl⟩⟩
theorem parsedM_ok {w w' : World} {xs : Nat → Int} {l : Nat} {r : Int} {ob : Option Addr} {cb : Nat} (h8 : ¬ l < 8) (h9 : ¬ l > 65535) (hs : sumN xs l = 65535) (hr : r = pRest xs) (hj : Junk w w') (hb : Bts w' ob (l - 8) cb (fun i => xs (8 + i))) :
    ParsedM w xs l (.returned (.tuple #[.agg #[.int .i64 (xs 0), .int .i64 (xs 1), .int .u32 r, .slice ob (l - 8) cb], .int .i64 0])) w' := by
  have h0 : pErr xs l = 0 := by unfold pErr; rw [if_neg h8, if_neg h9, if_pos hs]
  exact ⟨xs 0, xs 1, pRest xs, ob, l - 8, cb, by rw [h0, hr], hj, hb, .inl ⟨h0, rfl, rfl, rfl, rfl⟩⟩
end Go.Proofs.Ytgjppmkadmfibaa
set_option linter.unusedVariables false
set_option maxRecDepth 100000
set_option linter.unusedSimpArgs false
namespace Go.Proofs.Ytgjppmkadmfibaa
open Go.RowKit
theorem own_some {B : Nat} {w : World} {e : TypeId} {size : Nat} {oa : Option Addr} {cap n : Nat} {xs : List Value} (h : Own B w e size oa cap n xs) (hn : 0 < n) : ∃ g, oa = some ⟨g, 0, none⟩ ∧ B ≤ g ∧ g < w.heap.size ∧ ∀ j u, xs[j]? = some u → w.cell? ⟨g, j, none⟩ = some u ∧ w.frozen? ⟨g, j, none⟩ = false := by
  rcases h.form with ⟨_, h2, _⟩ | ⟨g, cur, h1, h2, h3, _⟩
  · omega
  · refine ⟨g, h1, h2, (Array.getElem?_eq_some_iff.1 h3).1, fun j u hu => ?_⟩
    obtain ⟨g', he, _, _, hc, hf⟩ := h.cells j u hu
    rw [h1] at he
    cases he
    exact ⟨hc, hf⟩
theorem bts_set {w : World} {g off n cap : Nat} {xs : Nat → Int} (h : Bts w (some ⟨g, off, none⟩) n cap xs) (i : Nat) (v : Int) (hv : 0 ≤ v ∧ v ≤ 255) :
    Bts (w.setCell ⟨g, off + i, none⟩ (.int .u8 v)) (some ⟨g, off, none⟩) n cap (fun k => if k = i then v else xs k) := by
  refine ⟨fun k hk => ?_, fun k hk => ?_, h.nil, h.le, h.cap⟩
  · obtain ⟨b, o, he, hlt, hc⟩ := h.at_ k hk
    cases he
    refine ⟨g, off, rfl, by simpa [World.setCell] using hlt, ?_⟩
    by_cases hki : k = i
    · subst hki
      rw [if_pos rfl]
      exact World.cell?_setCell_same _ _ _ hc
    · rw [if_neg hki, World.cell?_setCell_other _ _ _ _ (by intro he; simp only [Addr.mk.injEq, Nat.add_left_cancel_iff] at he; omega)]
      exact hc
  · by_cases hki : k = i
    · simp only [hki, if_true]; exact hv
    · simp only [hki, if_false]; exact h.byte k hk
theorem bts_set0 {w : World} {g n cap : Nat} {xs : Nat → Int} (h : Bts w (some ⟨g, 0, none⟩) n cap xs) (i : Nat) (v : Int) (hv : 0 ≤ v ∧ v ≤ 255) :
    Bts (w.setCell ⟨g, i, none⟩ (.int .u8 v)) (some ⟨g, 0, none⟩) n cap (fun k => if k = i then v else xs k) := by
  have := bts_set h i v hv
  rwa [Nat.zero_add] at this
/-- The bytes of a message, without the check sum. -/
def preB (t c r : Int) (xs : Nat → Int) : Nat → Int
  | 0 => t
  | 1 => c
  | 2 => 0
  | 3 => 0
  | 4 => r / 16777216
  | 5 => r / 65536 % 256
  | 6 => r / 256 % 256
  | 7 => r % 256
  | k + 8 => xs k
def putSum (t c r : Int) (xs : Nat → Int) (l : Nat) : Int := 65535 - sumN (preB t c r xs) (8 + l)
def putB (t c r : Int) (xs : Nat → Int) (l : Nat) : Nat → Int := fun k => if k = 3 then putSum t c r xs l % 256 else if k = 2 then putSum t c r xs l / 256 else preB t c r xs k
def putErr (t c : Int) (l : Nat) : Int := if byteful t && byteful c && decide (l ≤ 65527) then 0 else 1
def PutM (w : World) (t c r : Int) (xs : Nat → Int) (l : Nat) (e : Ending) (w' : World) : Prop :=
  ∃ (ob : Option Addr) (lb cb : Nat), e = .returned (.tuple #[.slice ob lb cb, .int .i64 (putErr t c l)]) ∧ Junk w w' ∧ Bts w' ob lb cb (putB t c r xs l) ∧
    ((putErr t c l = 0 ∧ lb = 8 + l) ∨ (putErr t c l ≠ 0 ∧ lb = 0 ∧ cb = 0 ∧ ob = none))
theorem preB_list (t c r : Int) (xs : Nat → Int) (l : Nat) :
    [Value.int .u8 t, .int .u8 c, .int .u8 0, .int .u8 0, .int .u8 (r / 16777216), .int .u8 (r / 65536 % 256), .int .u8 (r / 256 % 256), .int .u8 (r % 256)] ++ ((List.range l).map fun i => Value.int .u8 (xs i)) = (List.range (8 + l)).map fun i => Value.int .u8 (preB t c r xs i) := by
  have h := @range_ext 8 l (fun i => Value.int .u8 (preB t c r xs i))
  rw [← h]
  congr 1
  apply List.map_congr_left
  intro i _
  rw [Nat.add_comm]
  rfl
theorem preB_byte {t c r : Int} {xs : Nat → Int} {l : Nat} (ht : 0 ≤ t ∧ t ≤ 255) (hc : 0 ≤ c ∧ c ≤ 255) (hr : 0 ≤ r ∧ r ≤ 4294967295) (hx : ∀ i, i < l → 0 ≤ xs i ∧ xs i ≤ 255) : ∀ i, i < 8 + l → 0 ≤ preB t c r xs i ∧ preB t c r xs i ≤ 255 := by
  intro i hi
  match i, hi with
  | 0, _ => exact ht
  | 1, _ => exact hc
  | 2, _ => simp only [preB]; omega
  | 3, _ => simp only [preB]; omega
  | 4, _ => simp only [preB]; omega
  | 5, _ => simp only [preB]; omega
  | 6, _ => simp only [preB]; omega
  | 7, _ => simp only [preB]; omega
  | k + 8, h => simp only [preB]; exact hx k (by omega)
theorem putM_bad {w w' : World} {t c r : Int} {xs : Nat → Int} {l : Nat} (h : putErr t c l = 1) (hj : Junk w w') : PutM w t c r xs l (.returned (.tuple #[.slice none 0 0, .int .i64 1])) w' :=
  ⟨none, 0, 0, by rw [h], hj, ⟨fun i hi => by omega, fun i hi => by omega, fun _ => ⟨rfl, rfl⟩, Nat.le_refl _, Nat.zero_le _⟩, .inr ⟨by rw [h]; decide, rfl, rfl, rfl⟩⟩
theorem putM_ok {w w' : World} {t c r : Int} {xs : Nat → Int} {l cb : Nat} {ob : Option Addr} (he : putErr t c l = 0) (hj : Junk w w') (hb : Bts w' ob (8 + l) cb (putB t c r xs l)) : PutM w t c r xs l (.returned (.tuple #[.slice ob (8 + l) cb, .int .i64 0])) w' :=
  ⟨ob, 8 + l, cb, by rw [he], hj, hb, .inl ⟨he, rfl⟩⟩
end Go.Proofs.Ytgjppmkadmfibaa
set_option linter.unusedVariables false
set_option maxRecDepth 100000
set_option linter.unusedSimpArgs false
namespace Go.Proofs.Ytgjppmkadmfibaa
open Go.RowKit
theorem Junk.app2 (w : World) (a b x : Array Obj) (d d' : Nat) : Junk (w.junk (a ++ b) d) (w.junk (a ++ (b ++ x)) d') := by have := Junk.app w (a ++ b) x d d'; simpa using this
theorem Junk.app3 (w : World) (a b c x : Array Obj) (d d' : Nat) : Junk (w.junk (a ++ (b ++ c)) d) (w.junk (a ++ (b ++ (c ++ x))) d') := by have := Junk.app w (a ++ (b ++ c)) x d d'; simpa using this
theorem Junk.app4 (w : World) (a b c e x : Array Obj) (d d' : Nat) : Junk (w.junk (a ++ (b ++ (c ++ e))) d) (w.junk (a ++ (b ++ (c ++ (e ++ x)))) d') := by have := Junk.app w (a ++ (b ++ (c ++ e))) x d d'; simpa using this
theorem Junk.app5 (w : World) (a b c e f x : Array Obj) (d d' : Nat) : Junk (w.junk (a ++ (b ++ (c ++ (e ++ f)))) d) (w.junk (a ++ (b ++ (c ++ (e ++ (f ++ x))))) d') := by have := Junk.app w (a ++ (b ++ (c ++ (e ++ f)))) x d d'; simpa using this
theorem PutM.ok {w w' : World} {t c r : Int} {xs : Nat → Int} {l : Nat} {e : Ending} (h : PutM w t c r xs l e w') (h0 : putErr t c l = 0) :
    ∃ ob cb, e = .returned (.tuple #[.slice ob (8 + l) cb, .int .i64 0]) ∧ Junk w w' ∧ Bts w' ob (8 + l) cb (putB t c r xs l) := by
  obtain ⟨ob, lb, cb, rfl, hj, hb, ⟨_, rfl⟩ | ⟨h1, _⟩⟩ := h
  · exact ⟨ob, cb, by rw [h0], hj, hb⟩
  · exact absurd h0 h1
theorem PutM.bad {w w' : World} {t c r : Int} {xs : Nat → Int} {l : Nat} {e : Ending} (h : PutM w t c r xs l e w') (h0 : putErr t c l ≠ 0) :
    e = .returned (.tuple #[.slice none 0 0, .int .i64 (putErr t c l)]) ∧ Junk w w' := by
  obtain ⟨ob, lb, cb, rfl, hj, hb, ⟨h1, _⟩ | ⟨_, rfl, rfl, rfl⟩⟩ := h
  · exact absurd h1 h0
  · exact ⟨rfl, hj⟩
theorem ParsedM.ok {w w' : World} {xs : Nat → Int} {l : Nat} {e : Ending} (h : ParsedM w xs l e w') (h0 : pErr xs l = 0) :
    ∃ ob cb, e = .returned (.tuple #[.agg #[.int .i64 (xs 0), .int .i64 (xs 1), .int .u32 (pRest xs), .slice ob (l - 8) cb], .int .i64 0]) ∧ Junk w w' ∧ Bts w' ob (l - 8) cb (fun i => xs (8 + i)) := by
  obtain ⟨t, c, r, ob, lb, cb, rfl, hj, hb, ⟨_, rfl, rfl, rfl, rfl⟩ | ⟨h1, _⟩⟩ := h
  · exact ⟨ob, cb, by rw [h0], hj, hb⟩
  · exact absurd h0 h1
theorem ParsedM.bad {w w' : World} {xs : Nat → Int} {l : Nat} {e : Ending} (h : ParsedM w xs l e w') (h0 : pErr xs l ≠ 0) :
    e = .returned (.tuple #[.agg #[.int .i64 0, .int .i64 0, .int .u32 0, .slice none 0 0], .int .i64 (pErr xs l)]) ∧ Junk w w' := by
  obtain ⟨t, c, r, ob, lb, cb, rfl, hj, hb, ⟨h1, _⟩ | ⟨_, rfl, rfl, rfl, rfl, rfl, rfl⟩⟩ := h
  · exact absurd h1 h0
  · exact ⟨rfl, hj⟩
def m5 : Nat → Int := putB 8 0 458753 (fun _ => 5) 1
theorem m5_err : putErr 8 0 1 = 0 := by decide +kernel
theorem m5_pErr : pErr m5 9 = 0 := by decide +kernel
theorem m5_0 : m5 0 = 8 := by decide +kernel
theorem m5_1 : m5 1 = 0 := by decide +kernel
theorem m5_rest : pRest m5 = 458753 := by decide +kernel
theorem m5_same : msame 8 0 458753 8 0 458753 (fun _ => 5) (fun i => m5 (8 + i)) 1 1 = true := by decide +kernel
theorem m5_name : nameI 8 458753 = 7 := by decide +kernel
theorem m5_asks : asksB 8 = true := by decide +kernel
end Go.Proofs.Ytgjppmkadmfibaa
