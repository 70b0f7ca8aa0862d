/- What inner's functions tell behind a turn. -/
import Derived.Test.YtnefphinmjeacaaInE
import Derived.Test.YtnefphinmjeacaaInQ
set_option linter.unusedVariables false
set_option maxRecDepth 100000
set_option linter.unusedSimpArgs false
namespace Go.Proofs.Ytnefphinmjeacaa
open Go.RowKit
structure NmBd (tp ts sp td dp : Int) : Prop where
  bs : 0 ≤ ts ∧ ts ≤ 4294967295
  bsp : 0 ≤ sp ∧ sp ≤ 65535
  bd : 0 ≤ td ∧ td ≤ 4294967295
  bdp : 0 ≤ dp ∧ dp ≤ 65535
  eq : tp = 1 → sp = dp
theorem nmTup_bd {kind : Int} {xs : Nat → Int} {l : Nat} {tp ts sp td dp : Int} (h0 : nmErr kind xs l = 0) (hT : nmTup xs l = ⟨tp, ts, sp, td, dp⟩) (hx : ∀ i, i < l → 0 ≤ xs i ∧ xs i ≤ 255) : NmBd tp ts sp td dp := by
  obtain ⟨hk, hW, hoff, hbl, hpr⟩ := nmErr_zero h0
  have hS20 := hW.s20
  have hSl := hW.sl
  have hbl' : min (ipTotal xs) l - ipSize xs ≥ 8 := hbl
  have hw := fun j (hj : j + 1 < 8) => wd_bd (xs := xs) (i := ipSize xs + j) (hx _ (by omega)) (hx _ (by omega))
  have hn : ∀ i, i ≤ 4 → 0 ≤ nmPort (aboutIp xs l) i ∧ nmPort (aboutIp xs l) i ≤ 65535 := fun i hi => by
    unfold nmPort
    split
    · exact hw 4 (by omega)
    · exact hw i (by omega)
  have w12 := wd_bd (xs := xs) (i := 12) (hx _ (by omega)) (hx _ (by omega))
  have w14 := wd_bd (xs := xs) (i := 14) (hx _ (by omega)) (hx _ (by omega))
  have w16 := wd_bd (xs := xs) (i := 16) (hx _ (by omega)) (hx _ (by omega))
  have w18 := wd_bd (xs := xs) (i := 18) (hx _ (by omega)) (hx _ (by omega))
  have e1 : (nmTup xs l).src = wd xs 12 * 65536 + wd xs 14 := rfl
  have e2 : (nmTup xs l).dst = wd xs 16 * 65536 + wd xs 18 := rfl
  have e3 : (nmTup xs l).sport = nmPort (aboutIp xs l) 0 := rfl
  have e4 : (nmTup xs l).dport = nmPort (aboutIp xs l) 2 := rfl
  have e5 : (nmTup xs l).proto = (aboutIp xs l).proto := rfl
  rw [hT] at e1 e2 e3 e4 e5
  simp only at e1 e2 e3 e4 e5
  refine ⟨by omega, by rw [e3]; exact hn 0 (by omega), by omega, by rw [e4]; exact hn 2 (by omega), fun h => ?_⟩
  rw [e3, e4]
  unfold nmPort
  rw [if_pos (by rw [← e5]; exact h), if_pos (by rw [← e5]; exact h)]
theorem nm_src {kind : Int} {xs : Nat → Int} {l : Nat} {addr port tp ts sp td dp : Int} (h0 : nmErr kind xs l = 0) (hT : nmTup xs l = ⟨tp, ts, sp, td, dp⟩) (hx : ∀ i, i < l → 0 ≤ xs i ∧ xs i ≤ 255) (hy : ∀ i, i < l → 0 ≤ tnB xs l 12 0 addr port i ∧ tnB xs l 12 0 addr port i ≤ 255)
    (haddr : 0 ≤ addr ∧ addr ≤ 4294967295) : nmErr kind (tnB xs l 12 0 addr port) l = 0 ∧ nmTup (tnB xs l 12 0 addr port) l = ⟨tp, addr, port, td, if tp = 1 then port else dp⟩ := by
  have := tn_names (.inl ⟨rfl, rfl⟩) h0 hx (tn_of (.inl ⟨rfl, rfl⟩) h0 hx hy haddr) haddr
  rw [if_pos rfl, hT] at this
  exact this
theorem nm_dst {kind : Int} {xs : Nat → Int} {l : Nat} {addr port tp ts sp td dp : Int} (h0 : nmErr kind xs l = 0) (hT : nmTup xs l = ⟨tp, ts, sp, td, dp⟩) (hx : ∀ i, i < l → 0 ≤ xs i ∧ xs i ≤ 255) (hy : ∀ i, i < l → 0 ≤ tnB xs l 16 2 addr port i ∧ tnB xs l 16 2 addr port i ≤ 255)
    (haddr : 0 ≤ addr ∧ addr ≤ 4294967295) : nmErr kind (tnB xs l 16 2 addr port) l = 0 ∧ nmTup (tnB xs l 16 2 addr port) l = ⟨tp, ts, if tp = 1 then port else sp, addr, port⟩ := by
  have := tn_names (.inr ⟨rfl, rfl⟩) h0 hx (tn_of (.inr ⟨rfl, rfl⟩) h0 hx hy haddr) haddr
  rw [if_neg (by decide), hT] at this
  exact this
theorem tnErr_of {kind : Int} {xs : Nat → Int} {l : Nat} {port : Int} (h0 : nmErr kind xs l = 0) (hp : 0 ≤ port ∧ port ≤ 65535) : tnErr kind xs l port = 0 := by
  unfold tnErr; rw [if_neg (by rw [h0]; simp), if_neg (by omega)]
theorem names_ok {kind code rest : Int} {xs : Nat → Int} {l : Nat} {tp ts sp td dp : Int} (hl : l ≤ 100000000) (h0 : nmErr kind xs l = 0) (hT : nmTup xs l = ⟨tp, ts, sp, td, dp⟩) (oa : Option Addr) (c : Nat) (w : World) (hB : Bts w oa l c xs) :
    Calls Try.prog 11 #[.agg #[.int .i64 kind, .int .i64 code, .int .u32 rest, .slice oa l c]] w fun e w' => e = .returned (.tuple #[.agg #[.int .i64 tp, .int .u32 ts, .int .i64 sp, .int .u32 td, .int .i64 dp], .int .i64 0]) ∧ Junk w w' :=
  (names_any kind code rest oa l c xs w hl hB).mono fun e w' hp => by
    have := hp.ok h0
    rw [hT] at this
    exact this
theorem src_ok {kind code rest addr port : Int} {xs : Nat → Int} {l : Nat} (hl : l ≤ 100000000) (haddr : 0 ≤ addr ∧ addr ≤ 4294967295) (h0 : nmErr kind xs l = 0) (hp : 0 ≤ port ∧ port ≤ 65535) (oa : Option Addr) (c : Nat) (w : World) (hB : Bts w oa l c xs) :
    Calls Try.prog 13 #[.agg #[.int .i64 kind, .int .i64 code, .int .u32 rest, .slice oa l c], .int .u32 addr, .int .i64 port] w fun e w' => Junk w w' ∧ ∃ (ob : Option Addr) (cb : Nat), Bts w' ob l cb (tnB xs l 12 0 addr port) ∧ e = .returned (.tuple #[.agg #[.int .i64 kind, .int .i64 code, .int .u32 rest, .slice ob l cb], .int .i64 0]) :=
  (src_any kind code rest addr port oa l c xs w hl hB haddr).mono fun e w' h => h.ok (tnErr_of h0 hp)
theorem dst_ok {kind code rest addr port : Int} {xs : Nat → Int} {l : Nat} (hl : l ≤ 100000000) (haddr : 0 ≤ addr ∧ addr ≤ 4294967295) (h0 : nmErr kind xs l = 0) (hp : 0 ≤ port ∧ port ≤ 65535) (oa : Option Addr) (c : Nat) (w : World) (hB : Bts w oa l c xs) :
    Calls Try.prog 16 #[.agg #[.int .i64 kind, .int .i64 code, .int .u32 rest, .slice oa l c], .int .u32 addr, .int .i64 port] w fun e w' => Junk w w' ∧ ∃ (ob : Option Addr) (cb : Nat), Bts w' ob l cb (tnB xs l 16 2 addr port) ∧ e = .returned (.tuple #[.agg #[.int .i64 kind, .int .i64 code, .int .u32 rest, .slice ob l cb], .int .i64 0]) :=
  (dst_any kind code rest addr port oa l c xs w hl hB haddr).mono fun e w' h => h.ok (tnErr_of h0 hp)
end Go.Proofs.Ytnefphinmjeacaa
