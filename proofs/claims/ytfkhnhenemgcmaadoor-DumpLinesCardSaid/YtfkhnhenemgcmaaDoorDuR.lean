/- The reference's line, joined; the fixed answers of layer 29. -/
import Derived.Test.YtfkhnhenemgcmaaDoorDuN
import Derived.Test.YtfkhnhenemgcmaaDoorDuO
import Derived.Test.YtfkhnhenemgcmaaDoorDuQ
import Derived.Test.YtfkhnhenemgcmaaDoorIpPut
set_option linter.unusedVariables false
set_option maxRecDepth 100000
set_option linter.unusedSimpArgs false
namespace Go.Proofs.YtfkhnhenemgcmaaDoor
open Go.RowKit
set_option maxHeartbeats 16000000 in
theorem rline_bad (oa : Option Addr) (l c : Nat) (xs : Nat → Int) (w : World) (hl : l ≤ 100000000) (hB : Bts w oa l c xs) (h0 : parseErr xs l ≠ 0) :
    Calls Tryd.prog 8 #[.slice oa l c] w fun e w' => e = .returned (.string (lineS xs l)) ∧ Junk w w' := by
  have HB := Lib.hid hB
  obtain ⟨E, hE⟩ : ∃ E, parseErr xs l = E := ⟨_, rfl⟩
  have hEb := parseErr_bd (xs := xs) (l := l)
  have HE := Lib.hid (show lineS xs l = ⟨#[110, 111, 110, 101, 32]⟩ ++ itoaS E by unfold lineS; rw [if_neg h0, hE])
  have HPS := Lib.hid (fun w1 (hb : Bts w1 oa l c xs) => show Calls Tryd.prog 22 #[.slice oa l c] w1 fun e w' => e = .returned (.tuple #[.agg #[.int .i64 0, .int .i64 0, .bool false, .bool false, .int .i64 0, .int .i64 0, .int .i64 0, .int .u32 0, .int .u32 0, .slice none 0 0, .slice none 0 0], .int .i64 E]) ∧ Junk w1 w' from (ipRParse_any oa l c xs w1 hl hb).mono fun e w' hq => by
    obtain ⟨p, oo, ob, oc, bc, rfl, hj, hP, ⟨h1, _⟩ | ⟨_, rfl, rfl, rfl, rfl, rfl⟩⟩ := hq
    · exact absurd h1 h0
    · rw [hE]; exact ⟨rfl, hj⟩)
  rw [hE] at h0 hEb
  have hne : (E != 0) = true := by simpa using h0
  have HI := Lib.hid (fun w1 => rnum_any E (by omega) w1)
  have hsz := itoaS_size (n := E) (by omega)
  have hz : ¬ 9223372036854775807 < 5 + (itoaS E).size := by omega
  clear hB hl h0 hE hsz hEb
  go_enter Tryd.func8, Tryd.ntmps8
  go_wp2_with (first | (go_at_call 22; (with_reducible refine (HPS.out _ (HB.out.on (by (first | ((repeat (first | with_reducible exact Junk.refl _ | with_reducible exact Junk.app _ _ _ _ _ | with_reducible apply Junk.alloc | with_reducible apply Junk.junk | with_reducible apply Junk.drew | with_reducible apply Junk.drewN)); done) | ((try simp only [World.junk_junk, Array.append_assoc]); (repeat (first | with_reducible exact Junk.refl _ | with_reducible exact Junk.app _ _ _ _ _ | with_reducible exact Junk.app2 _ _ _ _ _ _ | with_reducible exact Junk.app3 _ _ _ _ _ _ _ | with_reducible exact Junk.app4 _ _ _ _ _ _ _ _ | with_reducible exact Junk.app5 _ _ _ _ _ _ _ _ _ | with_reducible apply Junk.alloc | with_reducible apply Junk.junk | with_reducible apply Junk.drew | with_reducible apply Junk.drewN))))))).mono ?_); rintro e w' ⟨rfl, ⟨osj, dj, rfl⟩⟩) | (go_at_call 23; (with_reducible refine (HI.out _).mono ?_); rintro e w' ⟨rfl, ⟨osj, dj, rfl⟩⟩))
  go_ret
  exact ⟨by rw [HE.out]; rfl, by (first | ((repeat (first | with_reducible exact Junk.refl _ | with_reducible exact Junk.app _ _ _ _ _ | with_reducible apply Junk.alloc | with_reducible apply Junk.junk | with_reducible apply Junk.drew | with_reducible apply Junk.drewN)); done) | ((try simp only [World.junk_junk, Array.append_assoc]); (repeat (first | with_reducible exact Junk.refl _ | with_reducible exact Junk.app _ _ _ _ _ | with_reducible exact Junk.app2 _ _ _ _ _ _ | with_reducible exact Junk.app3 _ _ _ _ _ _ _ | with_reducible exact Junk.app4 _ _ _ _ _ _ _ _ | with_reducible exact Junk.app5 _ _ _ _ _ _ _ _ _ | with_reducible apply Junk.alloc | with_reducible apply Junk.junk | with_reducible apply Junk.drew | with_reducible apply Junk.drewN))))⟩
theorem rline_any (oa : Option Addr) (l c : Nat) (xs : Nat → Int) (w : World) (hl : l ≤ 100000000) (hB : Bts w oa l c xs) :
    Calls Tryd.prog 8 #[.slice oa l c] w fun e w' => e = .returned (.string (lineS xs l)) ∧ Junk w w' := by
  by_cases h0 : parseErr xs l = 0
  · cases hmf : (parseIp xs).mf with
    | true => exact rline_more oa l c xs w hl hB h0 hmf
    | false =>
      by_cases hof : 0 < (parseIp xs).off
      · exact rline_piece oa l c xs w hl hB h0 hmf hof
      by_cases h6 : (parseIp xs).proto = 6
      · by_cases hz : tcpErr (parseIp xs).src (parseIp xs).dst (parseIp xs).body (parseIp xs).bl = 0
        · exact rline_tcp oa l c xs w hl hB h0 hmf hof h6 hz
        · exact rline_tbad oa l c xs w hl hB h0 hmf hof h6 hz
      by_cases h17 : (parseIp xs).proto = 17
      · by_cases hz : udpErr (parseIp xs).src (parseIp xs).dst (parseIp xs).body (parseIp xs).bl = 0
        · cases hns : (uChk (parseIp xs).body == 0) with
          | true => exact rline_udp1 oa l c xs w hl hB h0 hmf hof h17 hz hns
          | false => exact rline_udp0 oa l c xs w hl hB h0 hmf hof h17 hz hns
        · exact rline_ubad oa l c xs w hl hB h0 hmf hof h17 hz
      by_cases h1 : (parseIp xs).proto = 1
      · by_cases hz : pErr (parseIp xs).body (parseIp xs).bl = 0
        · by_cases t0 : (parseIp xs).body 0 = 0
          · exact rline_icmp0 oa l c xs w hl hB h0 hmf hof h1 hz t0
          by_cases t8 : (parseIp xs).body 0 = 8
          · exact rline_icmp8 oa l c xs w hl hB h0 hmf hof h1 hz t8
          by_cases t13 : (parseIp xs).body 0 = 13
          · exact rline_icmp13 oa l c xs w hl hB h0 hmf hof h1 hz t13
          by_cases t14 : (parseIp xs).body 0 = 14
          · exact rline_icmp14 oa l c xs w hl hB h0 hmf hof h1 hz t14
          · exact rline_icmpN oa l c xs w hl hB h0 hmf hof h1 hz ⟨t0, t8, t13, t14⟩
        · exact rline_ibad oa l c xs w hl hB h0 hmf hof h1 hz
      · exact rline_none oa l c xs w hl hB h0 hmf hof h6 h17 h1
  · exact rline_bad oa l c xs w hl hB h0
/-! ### The fixed answers. -/
def vP29 : Ip := ⟨0, 0, false, false, 0, 64, 47, 167772161, 134744072, 0, fun _ => 0, 1, fun _ => 1⟩
def vT29 : ByteArray := ⟨#[105, 112, 32, 49, 48, 46, 48, 46, 48, 46, 49, 32, 62, 32, 56, 46, 56, 46, 56, 46, 56, 32, 112, 114, 111, 116, 111, 32, 52, 55, 32, 108, 101, 110, 32, 49, 32, 116, 116, 108, 32, 54, 52]⟩
theorem vP29_may : mayB vP29 = true := by decide +kernel
theorem vP29_err : parseErr (pktB vP29) 21 = 0 := by decide +kernel
theorem vP29_line : lineS (pktB vP29) 21 = vT29 := by decide +kernel
theorem vN29_line : lineS (fun _ => 0) 0 = ⟨#[110, 111, 110, 101, 32, 50]⟩ := by decide +kernel
theorem one29 (V : World) : Bts (V.alloc (.cells #[.int .u8 1] 5)) (some ⟨V.heap.size, 0, none⟩) 1 1 (fun _ => 1) := by
  refine ⟨fun i hi => ⟨V.heap.size, 0, rfl, by simp, ?_⟩, fun i hi => ⟨by decide, by decide⟩, fun h => (by cases h), Nat.le_refl _, by decide⟩
  obtain rfl : i = 0 := by omega
  rw [World.cell?_alloc_new]
  rfl
set_option maxHeartbeats 4000000 in
theorem awake29_any (w : World) (ht : PowT w) : Calls Tryd.prog 6 #[] w fun e w' => e = .returned (.bool true) ∧ Junk w w' := by
  have HT := Lib.hid ht
  have HPU := Lib.hid (fun (ob : Option Addr) (cb : Nat) w1 (hb : Bts w1 ob 1 cb (fun _ => 1)) => show Calls Tryd.prog 11 #[.agg #[.int .i64 0, .int .i64 0, .bool false, .bool false, .int .i64 0, .int .i64 64, .int .i64 47, .int .u32 167772161, .int .u32 134744072, .slice none 0 0, .slice ob 1 cb]] w1 fun e w' => ∃ (o1 : Option Addr) (c1 : Nat), e = .returned (.tuple #[.slice o1 21 c1, .int .i64 0]) ∧ Junk w1 w' ∧ Bts w' o1 21 c1 (pktB vP29) from
    (ipPut_any vP29 none ob 0 cb w1 (by decide) (by decide) ⟨bts_none _ _, hb, by decide, by decide⟩).mono fun e w' hp => by
      obtain ⟨o1, c1, rfl, hj, hb, _⟩ := hp.ok vP29_may
      exact ⟨o1, c1, rfl, hj, hb⟩)
  have HL1 := Lib.hid (fun (ob : Option Addr) (cb : Nat) w1 (hb : Bts w1 ob 21 cb (pktB vP29)) (hp : PowT w1) => show Calls Tryd.prog 7 #[.slice ob 21 cb] w1 fun e w' => e = .returned (.string ⟨#[105, 112, 32, 49, 48, 46, 48, 46, 48, 46, 49, 32, 62, 32, 56, 46, 56, 46, 56, 46, 56, 32, 112, 114, 111, 116, 111, 32, 52, 55, 32, 108, 101, 110, 32, 49, 32, 116, 116, 108, 32, 54, 52]⟩) ∧ Junk w1 w' from by
    have := line_any ob 21 cb (pktB vP29) w1 (by omega) hb hp
    rw [vP29_line] at this
    exact this)
  have HL2 := Lib.hid (fun w1 (hp : PowT w1) => show Calls Tryd.prog 7 #[.slice none 0 0] w1 fun e w' => e = .returned (.string ⟨#[110, 111, 110, 101, 32, 50]⟩) ∧ Junk w1 w' from by
    have := line_any none 0 0 (fun _ => 0) w1 (by omega) (bts_none _ _) hp
    rw [vN29_line] at this
    exact this)
  have HB1 := Lib.hid (one29 w)
  clear ht
  go_enter Tryd.func6, Tryd.ntmps6
  go_wp2_with (first
    | (go_at_call 11; (with_reducible refine (HPU.out _ _ _ (HB1.out.on (by (first | ((repeat (first | with_reducible exact Junk.refl _ | with_reducible exact Junk.app _ _ _ _ _ | with_reducible apply Junk.alloc | with_reducible apply Junk.junk | with_reducible apply Junk.drew | with_reducible apply Junk.drewN)); done) | ((try simp only [World.junk_junk, Array.append_assoc]); (repeat (first | with_reducible exact Junk.refl _ | with_reducible exact Junk.app _ _ _ _ _ | with_reducible exact Junk.app2 _ _ _ _ _ _ | with_reducible exact Junk.app3 _ _ _ _ _ _ _ | with_reducible exact Junk.app4 _ _ _ _ _ _ _ _ | with_reducible exact Junk.app5 _ _ _ _ _ _ _ _ _ | with_reducible apply Junk.alloc | with_reducible apply Junk.junk | with_reducible apply Junk.drew | with_reducible apply Junk.drewN))))))).mono ?_); rintro e w' ⟨o1, c1, rfl, ⟨os1, d1, rfl⟩, hb⟩; have HB2 := Lib.hid hb; clear hb)
    | (go_at_call 7; (with_reducible refine (HL1.out o1 c1 _ (HB2.out.on (by (first | ((repeat (first | with_reducible exact Junk.refl _ | with_reducible exact Junk.app _ _ _ _ _ | with_reducible apply Junk.alloc | with_reducible apply Junk.junk | with_reducible apply Junk.drew | with_reducible apply Junk.drewN)); done) | ((try simp only [World.junk_junk, Array.append_assoc]); (repeat (first | with_reducible exact Junk.refl _ | with_reducible exact Junk.app _ _ _ _ _ | with_reducible exact Junk.app2 _ _ _ _ _ _ | with_reducible exact Junk.app3 _ _ _ _ _ _ _ | with_reducible exact Junk.app4 _ _ _ _ _ _ _ _ | with_reducible exact Junk.app5 _ _ _ _ _ _ _ _ _ | with_reducible apply Junk.alloc | with_reducible apply Junk.junk | with_reducible apply Junk.drew | with_reducible apply Junk.drewN)))))) (HT.out.on (by (first | ((repeat (first | with_reducible exact Junk.refl _ | with_reducible exact Junk.app _ _ _ _ _ | with_reducible apply Junk.alloc | with_reducible apply Junk.junk | with_reducible apply Junk.drew | with_reducible apply Junk.drewN)); done) | ((try simp only [World.junk_junk, Array.append_assoc]); (repeat (first | with_reducible exact Junk.refl _ | with_reducible exact Junk.app _ _ _ _ _ | with_reducible exact Junk.app2 _ _ _ _ _ _ | with_reducible exact Junk.app3 _ _ _ _ _ _ _ | with_reducible exact Junk.app4 _ _ _ _ _ _ _ _ | with_reducible exact Junk.app5 _ _ _ _ _ _ _ _ _ | with_reducible apply Junk.alloc | with_reducible apply Junk.junk | with_reducible apply Junk.drew | with_reducible apply Junk.drewN))))))).mono ?_); rintro e w' ⟨rfl, ⟨osj, dj, rfl⟩⟩)
    | (go_at_call 7; (with_reducible refine (HL2.out _ (HT.out.on (by (first | ((repeat (first | with_reducible exact Junk.refl _ | with_reducible exact Junk.app _ _ _ _ _ | with_reducible apply Junk.alloc | with_reducible apply Junk.junk | with_reducible apply Junk.drew | with_reducible apply Junk.drewN)); done) | ((try simp only [World.junk_junk, Array.append_assoc]); (repeat (first | with_reducible exact Junk.refl _ | with_reducible exact Junk.app _ _ _ _ _ | with_reducible exact Junk.app2 _ _ _ _ _ _ | with_reducible exact Junk.app3 _ _ _ _ _ _ _ | with_reducible exact Junk.app4 _ _ _ _ _ _ _ _ | with_reducible exact Junk.app5 _ _ _ _ _ _ _ _ _ | with_reducible apply Junk.alloc | with_reducible apply Junk.junk | with_reducible apply Junk.drew | with_reducible apply Junk.drewN))))))).mono ?_); rintro e w' ⟨rfl, ⟨osj, dj, rfl⟩⟩))
  go_ret
  exact ⟨ret_bool rfl, by (first | ((repeat (first | with_reducible exact Junk.refl _ | with_reducible exact Junk.app _ _ _ _ _ | with_reducible apply Junk.alloc | with_reducible apply Junk.junk | with_reducible apply Junk.drew | with_reducible apply Junk.drewN)); done) | ((try simp only [World.junk_junk, Array.append_assoc]); (repeat (first | with_reducible exact Junk.refl _ | with_reducible exact Junk.app _ _ _ _ _ | with_reducible exact Junk.app2 _ _ _ _ _ _ | with_reducible exact Junk.app3 _ _ _ _ _ _ _ | with_reducible exact Junk.app4 _ _ _ _ _ _ _ _ | with_reducible exact Junk.app5 _ _ _ _ _ _ _ _ _ | with_reducible apply Junk.alloc | with_reducible apply Junk.junk | with_reducible apply Junk.drew | with_reducible apply Junk.drewN))))⟩
end Go.Proofs.YtfkhnhenemgcmaaDoor
