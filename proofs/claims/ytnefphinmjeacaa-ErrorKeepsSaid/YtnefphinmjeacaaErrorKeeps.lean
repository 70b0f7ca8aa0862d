/- The law ErrorKeeps: a turn changes nothing of the packet that an error is about but a name and sums. -/
import Derived.Test.YtnefphinmjeacaaInG
import Derived.Test.YtnefphinmjeacaaLift2
import Derived.Test.YtnefphinmjeacaaBytesEq
set_option linter.unusedVariables false
set_option maxRecDepth 100000
set_option linter.unusedSimpArgs false
namespace Go.Proofs.Ytnefphinmjeacaa
open Go.RowKit
theorem xm_nb (a b c : Int) (o : Option Addr) (l n : Nat) : ∀ (i : Nat) (v : Int), (#[.int .i64 a, .int .i64 b, .int .u32 c, .slice o l n] : Array Value)[i]? ≠ some (.int .u8 v) := by
  intro i v h
  rcases i with _ | _ | _ | _ | i <;> simp at h
set_option maxHeartbeats 4000000 in
theorem errorKeeps_S (kind code rest addr port : Int) (oa : Option Addr) (l c : Nat) (xs : Nat → Int) (w : World) (hB : Bts w oa l c xs) (haddr : 0 ≤ addr ∧ addr ≤ 4294967295) (hp : 0 ≤ port ∧ port ≤ 65535) (hl : l ≤ 3000) (h0 : nmErr kind xs l = 0) : Calls Try.prog 5 #[.agg #[.int .i64 kind, .int .i64 code, .int .u32 rest, .slice oa l c], .int .u32 addr, .int .u16 port, .bool false] w fun e w' => e = .returned (.bool true) ∧ Junk w w' := by
  have HB := Lib.hid hB
  have hl1 : ¬ (3000 : Int) < (l : Int) := by omega
  have hl8 : l ≤ 100000000 := by omega
  have HX := Lib.hid hB.byte
  have H0 := Lib.hid h0
  have pw := wrapk_i64 port (by omega) (by omega)
  obtain ⟨⟨tos, id, df, mf, off, ttl, proto, src, dst, ol, opts, bl, body⟩, hP⟩ : ∃ P, aboutIp xs l = P := ⟨_, rfl⟩
  obtain ⟨⟨tos2, id2, df2, mf2, off2, ttl2, proto2, src2, dst2, ol2, opts2, bl2, body2⟩, hQ⟩ : ∃ P, aboutIp (tnB xs l 12 0 addr port) l = P := ⟨_, rfl⟩
  have ha0 : aboutErr kind xs l = 0 := by
    obtain ⟨hk, hW, _⟩ := nmErr_zero h0
    unfold aboutErr; rw [hk, if_neg (by decide)]; exact wholeErr_of hW
  have HA1 := Lib.hid (fun oa c w1 hb => about_ok (code := code) (rest := rest) hl8 ha0 hP oa c w1 hb)
  have HS1 := Lib.hid (fun oa c w1 hb => src_ok (code := code) (rest := rest) (port := port) hl8 haddr h0 hp oa c w1 hb)
  have HPQ := Lib.hid (And.intro hP hQ)
  clear h0 ha0 hP hQ hB
  go_enter Try.func5, Try.ntmps5
  go_upto_region 8 with (first | (go_at_call 10; refine (awake26_any _).mono ?_; rintro e w' ⟨rfl, ⟨osj, dj, rfl⟩⟩) | (go_at_call 13; (with_reducible refine (HS1.out oa c _ (HB.out.on (by (first | ((repeat (first | with_reducible exact Junk.refl _ | with_reducible exact Junk.app _ _ _ _ _ | with_reducible apply Junk.alloc | with_reducible apply Junk.junk | with_reducible apply Junk.drew | with_reducible apply Junk.drewN)); done) | ((try simp only [World.junk_junk, Array.append_assoc]); (repeat (first | with_reducible exact Junk.refl _ | with_reducible exact Junk.app _ _ _ _ _ | with_reducible exact Junk.app2 _ _ _ _ _ _ | with_reducible exact Junk.app3 _ _ _ _ _ _ _ | with_reducible exact Junk.app4 _ _ _ _ _ _ _ _ | with_reducible exact Junk.app5 _ _ _ _ _ _ _ _ _ | with_reducible apply Junk.alloc | with_reducible apply Junk.junk | with_reducible apply Junk.drew | with_reducible apply Junk.drewN))))))).mono ?_); rintro e w' ⟨⟨os1, d1, rfl⟩, o1, c1, hb1, rfl⟩; have Hb1 := Lib.hid hb1; clear hb1))
  have hT := tn_of (.inl ⟨rfl, rfl⟩) H0.out HX.out Hb1.out.byte haddr
  have hK := tn_keeps (.inl ⟨rfl, rfl⟩) H0.out hT
  rw [HPQ.out.1, HPQ.out.2] at hK
  obtain ⟨ha2, ⟨e1, e2, e3, e4, e5, e6, e7, e8, e9, eo⟩, hbd, hdf, hsr, hb8⟩ := hK
  have hds : dst2 = dst := hdf rfl
  simp only at e1 e2 e3 e4 e5 e6 e7 e8 e9 eo hbd hb8
  obtain rfl : tos = tos2 := e1.symm
  obtain rfl : id = id2 := e2.symm
  obtain rfl : df = df2 := e3.symm
  obtain rfl : mf = mf2 := e4.symm
  obtain rfl : off = off2 := e5.symm
  obtain rfl : ttl = ttl2 := e6.symm
  obtain rfl : proto = proto2 := e7.symm
  obtain rfl : ol = ol2 := e8.symm
  obtain rfl : bl = bl2 := e9.symm
  obtain rfl : dst = dst2 := hds.symm
  have HA2 := Lib.hid (fun oa c w1 hb => about_ok (code := code) (rest := rest) hl8 ha2 HPQ.out.2 oa c w1 hb)
  have HBD := Lib.hid hbd
  have HEO := Lib.hid eo
  have hb8' : bl ≤ 100000000 := by
    have h1 := HPQ.out.1
    have h2 : (aboutIp xs l).bl ≤ l := by
      show min (ipTotal xs) l - ipSize xs ≤ l
      omega
    rw [h1] at h2
    simp only at h2
    omega
  clear hT ha2 hbd eo hsr hdf e1 e2 e3 e4 e5 e6 e7 e8 e9
  go_upto_region 13 with (first | (go_at_call 17; (with_reducible refine (HA1.out oa c _ (HB.out.on (by (first | ((repeat (first | with_reducible exact Junk.refl _ | with_reducible exact Junk.app _ _ _ _ _ | with_reducible apply Junk.alloc | with_reducible apply Junk.junk | with_reducible apply Junk.drew | with_reducible apply Junk.drewN)); done) | ((try simp only [World.junk_junk, Array.append_assoc]); (repeat (first | with_reducible exact Junk.refl _ | with_reducible exact Junk.app _ _ _ _ _ | with_reducible exact Junk.app2 _ _ _ _ _ _ | with_reducible exact Junk.app3 _ _ _ _ _ _ _ | with_reducible exact Junk.app4 _ _ _ _ _ _ _ _ | with_reducible exact Junk.app5 _ _ _ _ _ _ _ _ _ | with_reducible apply Junk.alloc | with_reducible apply Junk.junk | with_reducible apply Junk.drew | with_reducible apply Junk.drewN))))))).mono ?_); rintro e w' ⟨oo, ob, oc, bc, rfl, ⟨os3, d3, rfl⟩, hi⟩; have HI1 := Lib.hid hi; clear hi) | (go_at_call 17; (with_reducible refine (HA2.out o1 c1 _ (Hb1.out.on (by (first | ((repeat (first | with_reducible exact Junk.refl _ | with_reducible exact Junk.app _ _ _ _ _ | with_reducible apply Junk.alloc | with_reducible apply Junk.junk | with_reducible apply Junk.drew | with_reducible apply Junk.drewN)); done) | ((try simp only [World.junk_junk, Array.append_assoc]); (repeat (first | with_reducible exact Junk.refl _ | with_reducible exact Junk.app _ _ _ _ _ | with_reducible exact Junk.app2 _ _ _ _ _ _ | with_reducible exact Junk.app3 _ _ _ _ _ _ _ | with_reducible exact Junk.app4 _ _ _ _ _ _ _ _ | with_reducible exact Junk.app5 _ _ _ _ _ _ _ _ _ | with_reducible apply Junk.alloc | with_reducible apply Junk.junk | with_reducible apply Junk.drew | with_reducible apply Junk.drewN))))))).mono ?_); rintro e w' ⟨oo2, ob2, oc2, bc2, rfl, ⟨os4, d4, rfl⟩, hi⟩; have HI2 := Lib.hid hi; clear hi))
  go_wp2
  have HCS : CsH [((w.heap.size + 1 + (osj.size + os1.size) + 1 + os3.size), 0, .int .i64 tos), ((w.heap.size + 1 + (osj.size + os1.size) + 1 + os3.size), 1, .int .i64 id), ((w.heap.size + 1 + (osj.size + os1.size) + 1 + os3.size), 2, .bool df), ((w.heap.size + 1 + (osj.size + os1.size) + 1 + os3.size), 3, .bool mf), ((w.heap.size + 1 + (osj.size + os1.size) + 1 + os3.size), 4, .int .i64 off), ((w.heap.size + 1 + (osj.size + os1.size) + 1 + os3.size), 5, .int .i64 ttl), ((w.heap.size + 1 + (osj.size + os1.size) + 1 + os3.size), 6, .int .i64 proto), ((w.heap.size + 1 + (osj.size + os1.size) + 1 + os3.size), 7, .int .u32 src), ((w.heap.size + 1 + (osj.size + os1.size) + 1 + os3.size), 8, .int .u32 dst), ((w.heap.size + 1 + (osj.size + os1.size) + 1 + os3.size), 9, .slice oo ol oc), ((w.heap.size + 1 + (osj.size + os1.size) + 1 + os3.size), 10, .slice ob bl bc), ((w.heap.size + 1 + (osj.size + os1.size) + 1 + os3.size + 1 + os4.size), 0, .int .i64 tos), ((w.heap.size + 1 + (osj.size + os1.size) + 1 + os3.size + 1 + os4.size), 1, .int .i64 id), ((w.heap.size + 1 + (osj.size + os1.size) + 1 + os3.size + 1 + os4.size), 2, .bool df), ((w.heap.size + 1 + (osj.size + os1.size) + 1 + os3.size + 1 + os4.size), 3, .bool mf), ((w.heap.size + 1 + (osj.size + os1.size) + 1 + os3.size + 1 + os4.size), 4, .int .i64 off), ((w.heap.size + 1 + (osj.size + os1.size) + 1 + os3.size + 1 + os4.size), 5, .int .i64 ttl), ((w.heap.size + 1 + (osj.size + os1.size) + 1 + os3.size + 1 + os4.size), 6, .int .i64 proto), ((w.heap.size + 1 + (osj.size + os1.size) + 1 + os3.size + 1 + os4.size), 7, .int .u32 src2), ((w.heap.size + 1 + (osj.size + os1.size) + 1 + os3.size + 1 + os4.size), 8, .int .u32 dst), ((w.heap.size + 1 + (osj.size + os1.size) + 1 + os3.size + 1 + os4.size), 9, .slice oo2 ol oc2), ((w.heap.size + 1 + (osj.size + os1.size) + 1 + os3.size + 1 + os4.size), 10, .slice ob2 bl bc2)] ((((((((w.alloc (.cells #[.int .i64 kind, .int .i64 code, .int .u32 rest, .slice oa l c] 25)).junk (osj ++ os1) d1).alloc (.cells #[.int .i64 kind, .int .i64 code, .int .u32 rest, .slice o1 l c1] 25)).junk os3 d3).alloc (.cells #[.int .i64 tos, .int .i64 id, .bool df, .bool mf, .int .i64 off, .int .i64 ttl, .int .i64 proto, .int .u32 src, .int .u32 dst, .slice oo ol oc, .slice ob bl bc] 43)).junk os4 d4).alloc (.cells #[.int .i64 tos, .int .i64 id, .bool df, .bool mf, .int .i64 off, .int .i64 ttl, .int .i64 proto, .int .u32 src2, .int .u32 dst, .slice oo2 ol oc2, .slice ob2 bl bc2] 43))) := by
    repeat (refine CsH.cons.2 ⟨⟨(by simp; try omega), (by go_simp), (by go_simp)⟩, ?_⟩)
    exact CsH.nil _
  have HJV := Lib.hid (show Junk w ((((((((w.alloc (.cells #[.int .i64 kind, .int .i64 code, .int .u32 rest, .slice oa l c] 25)).junk (osj ++ os1) d1).alloc (.cells #[.int .i64 kind, .int .i64 code, .int .u32 rest, .slice o1 l c1] 25)).junk os3 d3).alloc (.cells #[.int .i64 tos, .int .i64 id, .bool df, .bool mf, .int .i64 off, .int .i64 ttl, .int .i64 proto, .int .u32 src, .int .u32 dst, .slice oo ol oc, .slice ob bl bc] 43)).junk os4 d4).alloc (.cells #[.int .i64 tos, .int .i64 id, .bool df, .bool mf, .int .i64 off, .int .i64 ttl, .int .i64 proto, .int .u32 src2, .int .u32 dst, .slice oo2 ol oc2, .slice ob2 bl bc2] 43))) by (first | ((repeat (first | with_reducible exact Junk.refl _ | with_reducible exact Junk.app _ _ _ _ _ | with_reducible apply Junk.alloc | with_reducible apply Junk.junk | with_reducible apply Junk.drew | with_reducible apply Junk.drewN)); done) | ((try simp only [World.junk_junk, Array.append_assoc]); (repeat (first | with_reducible exact Junk.refl _ | with_reducible exact Junk.app _ _ _ _ _ | with_reducible exact Junk.app2 _ _ _ _ _ _ | with_reducible exact Junk.app3 _ _ _ _ _ _ _ | with_reducible exact Junk.app4 _ _ _ _ _ _ _ _ | with_reducible exact Junk.app5 _ _ _ _ _ _ _ _ _ | with_reducible apply Junk.alloc | with_reducible apply Junk.junk | with_reducible apply Junk.drew | with_reducible apply Junk.drewN)))))
  have HO1 := Lib.hid (HI1.out.opts.on (show Junk _ ((((((((w.alloc (.cells #[.int .i64 kind, .int .i64 code, .int .u32 rest, .slice oa l c] 25)).junk (osj ++ os1) d1).alloc (.cells #[.int .i64 kind, .int .i64 code, .int .u32 rest, .slice o1 l c1] 25)).junk os3 d3).alloc (.cells #[.int .i64 tos, .int .i64 id, .bool df, .bool mf, .int .i64 off, .int .i64 ttl, .int .i64 proto, .int .u32 src, .int .u32 dst, .slice oo ol oc, .slice ob bl bc] 43)).junk os4 d4).alloc (.cells #[.int .i64 tos, .int .i64 id, .bool df, .bool mf, .int .i64 off, .int .i64 ttl, .int .i64 proto, .int .u32 src2, .int .u32 dst, .slice oo2 ol oc2, .slice ob2 bl bc2] 43))) by (first | ((repeat (first | with_reducible exact Junk.refl _ | with_reducible exact Junk.app _ _ _ _ _ | with_reducible apply Junk.alloc | with_reducible apply Junk.junk | with_reducible apply Junk.drew | with_reducible apply Junk.drewN)); done) | ((try simp only [World.junk_junk, Array.append_assoc]); (repeat (first | with_reducible exact Junk.refl _ | with_reducible exact Junk.app _ _ _ _ _ | with_reducible exact Junk.app2 _ _ _ _ _ _ | with_reducible exact Junk.app3 _ _ _ _ _ _ _ | with_reducible exact Junk.app4 _ _ _ _ _ _ _ _ | with_reducible exact Junk.app5 _ _ _ _ _ _ _ _ _ | with_reducible apply Junk.alloc | with_reducible apply Junk.junk | with_reducible apply Junk.drew | with_reducible apply Junk.drewN))))))
  have HO2 := Lib.hid (HI2.out.opts.on (show Junk _ ((((((((w.alloc (.cells #[.int .i64 kind, .int .i64 code, .int .u32 rest, .slice oa l c] 25)).junk (osj ++ os1) d1).alloc (.cells #[.int .i64 kind, .int .i64 code, .int .u32 rest, .slice o1 l c1] 25)).junk os3 d3).alloc (.cells #[.int .i64 tos, .int .i64 id, .bool df, .bool mf, .int .i64 off, .int .i64 ttl, .int .i64 proto, .int .u32 src, .int .u32 dst, .slice oo ol oc, .slice ob bl bc] 43)).junk os4 d4).alloc (.cells #[.int .i64 tos, .int .i64 id, .bool df, .bool mf, .int .i64 off, .int .i64 ttl, .int .i64 proto, .int .u32 src2, .int .u32 dst, .slice oo2 ol oc2, .slice ob2 bl bc2] 43))) by (first | ((repeat (first | with_reducible exact Junk.refl _ | with_reducible exact Junk.app _ _ _ _ _ | with_reducible apply Junk.alloc | with_reducible apply Junk.junk | with_reducible apply Junk.drew | with_reducible apply Junk.drewN)); done) | ((try simp only [World.junk_junk, Array.append_assoc]); (repeat (first | with_reducible exact Junk.refl _ | with_reducible exact Junk.app _ _ _ _ _ | with_reducible exact Junk.app2 _ _ _ _ _ _ | with_reducible exact Junk.app3 _ _ _ _ _ _ _ | with_reducible exact Junk.app4 _ _ _ _ _ _ _ _ | with_reducible exact Junk.app5 _ _ _ _ _ _ _ _ _ | with_reducible apply Junk.alloc | with_reducible apply Junk.junk | with_reducible apply Junk.drew | with_reducible apply Junk.drewN))))))
  have HY1 := Lib.hid (HI1.out.body.on (show Junk _ ((((((((w.alloc (.cells #[.int .i64 kind, .int .i64 code, .int .u32 rest, .slice oa l c] 25)).junk (osj ++ os1) d1).alloc (.cells #[.int .i64 kind, .int .i64 code, .int .u32 rest, .slice o1 l c1] 25)).junk os3 d3).alloc (.cells #[.int .i64 tos, .int .i64 id, .bool df, .bool mf, .int .i64 off, .int .i64 ttl, .int .i64 proto, .int .u32 src, .int .u32 dst, .slice oo ol oc, .slice ob bl bc] 43)).junk os4 d4).alloc (.cells #[.int .i64 tos, .int .i64 id, .bool df, .bool mf, .int .i64 off, .int .i64 ttl, .int .i64 proto, .int .u32 src2, .int .u32 dst, .slice oo2 ol oc2, .slice ob2 bl bc2] 43))) by (first | ((repeat (first | with_reducible exact Junk.refl _ | with_reducible exact Junk.app _ _ _ _ _ | with_reducible apply Junk.alloc | with_reducible apply Junk.junk | with_reducible apply Junk.drew | with_reducible apply Junk.drewN)); done) | ((try simp only [World.junk_junk, Array.append_assoc]); (repeat (first | with_reducible exact Junk.refl _ | with_reducible exact Junk.app _ _ _ _ _ | with_reducible exact Junk.app2 _ _ _ _ _ _ | with_reducible exact Junk.app3 _ _ _ _ _ _ _ | with_reducible exact Junk.app4 _ _ _ _ _ _ _ _ | with_reducible exact Junk.app5 _ _ _ _ _ _ _ _ _ | with_reducible apply Junk.alloc | with_reducible apply Junk.junk | with_reducible apply Junk.drew | with_reducible apply Junk.drewN))))))
  have HY2 := Lib.hid (HI2.out.body.on (show Junk _ ((((((((w.alloc (.cells #[.int .i64 kind, .int .i64 code, .int .u32 rest, .slice oa l c] 25)).junk (osj ++ os1) d1).alloc (.cells #[.int .i64 kind, .int .i64 code, .int .u32 rest, .slice o1 l c1] 25)).junk os3 d3).alloc (.cells #[.int .i64 tos, .int .i64 id, .bool df, .bool mf, .int .i64 off, .int .i64 ttl, .int .i64 proto, .int .u32 src, .int .u32 dst, .slice oo ol oc, .slice ob bl bc] 43)).junk os4 d4).alloc (.cells #[.int .i64 tos, .int .i64 id, .bool df, .bool mf, .int .i64 off, .int .i64 ttl, .int .i64 proto, .int .u32 src2, .int .u32 dst, .slice oo2 ol oc2, .slice ob2 bl bc2] 43))) by (first | ((repeat (first | with_reducible exact Junk.refl _ | with_reducible exact Junk.app _ _ _ _ _ | with_reducible apply Junk.alloc | with_reducible apply Junk.junk | with_reducible apply Junk.drew | with_reducible apply Junk.drewN)); done) | ((try simp only [World.junk_junk, Array.append_assoc]); (repeat (first | with_reducible exact Junk.refl _ | with_reducible exact Junk.app _ _ _ _ _ | with_reducible exact Junk.app2 _ _ _ _ _ _ | with_reducible exact Junk.app3 _ _ _ _ _ _ _ | with_reducible exact Junk.app4 _ _ _ _ _ _ _ _ | with_reducible exact Junk.app5 _ _ _ _ _ _ _ _ _ | with_reducible apply Junk.alloc | with_reducible apply Junk.junk | with_reducible apply Junk.drew | with_reducible apply Junk.drewN))))))
  generalize (((((((w.alloc (.cells #[.int .i64 kind, .int .i64 code, .int .u32 rest, .slice oa l c] 25)).junk (osj ++ os1) d1).alloc (.cells #[.int .i64 kind, .int .i64 code, .int .u32 rest, .slice o1 l c1] 25)).junk os3 d3).alloc (.cells #[.int .i64 tos, .int .i64 id, .bool df, .bool mf, .int .i64 off, .int .i64 ttl, .int .i64 proto, .int .u32 src, .int .u32 dst, .slice oo ol oc, .slice ob bl bc] 43)).junk os4 d4).alloc (.cells #[.int .i64 tos, .int .i64 id, .bool df, .bool mf, .int .i64 off, .int .i64 ttl, .int .i64 proto, .int .u32 src2, .int .u32 dst, .slice oo2 ol oc2, .slice ob2 bl bc2] 43)) = V at HCS HJV HO1 HO2 HY1 HY2 ⊢
  clear HI1 HI2 HA1 HA2 HS1 HB Hb1
  generalize (w.heap.size + 1 + (osj.size + os1.size) + 1 + os3.size + 1 + os4.size) = bq at HCS ⊢
  generalize (w.heap.size + 1 + (osj.size + os1.size) + 1 + os3.size) = bp at HCS ⊢
  obtain ⟨sp, mp0, _⟩ := HCS (bp, 0, .int .i64 tos) (by simp)
  obtain ⟨_, mp1, _⟩ := HCS (bp, 1, .int .i64 id) (by simp)
  obtain ⟨_, mp2, _⟩ := HCS (bp, 2, .bool df) (by simp)
  obtain ⟨_, mp3, _⟩ := HCS (bp, 3, .bool mf) (by simp)
  obtain ⟨_, mp4, _⟩ := HCS (bp, 4, .int .i64 off) (by simp)
  obtain ⟨_, mp5, _⟩ := HCS (bp, 5, .int .i64 ttl) (by simp)
  obtain ⟨_, mp6, _⟩ := HCS (bp, 6, .int .i64 proto) (by simp)
  obtain ⟨_, mp7, _⟩ := HCS (bp, 7, .int .u32 src) (by simp)
  obtain ⟨_, mp8, _⟩ := HCS (bp, 8, .int .u32 dst) (by simp)
  obtain ⟨_, mp9, _⟩ := HCS (bp, 9, .slice oo ol oc) (by simp)
  obtain ⟨_, mp10, _⟩ := HCS (bp, 10, .slice ob bl bc) (by simp)
  obtain ⟨sq, mq0, _⟩ := HCS (bq, 0, .int .i64 tos) (by simp)
  obtain ⟨_, mq1, _⟩ := HCS (bq, 1, .int .i64 id) (by simp)
  obtain ⟨_, mq2, _⟩ := HCS (bq, 2, .bool df) (by simp)
  obtain ⟨_, mq3, _⟩ := HCS (bq, 3, .bool mf) (by simp)
  obtain ⟨_, mq4, _⟩ := HCS (bq, 4, .int .i64 off) (by simp)
  obtain ⟨_, mq5, _⟩ := HCS (bq, 5, .int .i64 ttl) (by simp)
  obtain ⟨_, mq6, _⟩ := HCS (bq, 6, .int .i64 proto) (by simp)
  obtain ⟨_, mq7, _⟩ := HCS (bq, 7, .int .u32 src2) (by simp)
  obtain ⟨_, mq8, _⟩ := HCS (bq, 8, .int .u32 dst) (by simp)
  obtain ⟨_, mq9, _⟩ := HCS (bq, 9, .slice oo2 ol oc2) (by simp)
  obtain ⟨_, mq10, _⟩ := HCS (bq, 10, .slice ob2 bl bc2) (by simp)
  have HCS := Lib.hid HCS
  obtain ⟨bb, bo, rfl, hbb, _⟩ := HY1.out.at_ 0 (by simp only; omega)
  obtain ⟨bb2, bo2, rfl, hbb2, _⟩ := HY2.out.at_ 0 (by simp only; omega)
  have eZ : (List.range ol).map opts2 = (List.range ol).map opts := List.map_congr_left (fun i hi => HEO.out i (by simpa using hi))
  have HC1 := Lib.hid (fun os d => (IntsAt.bytesIn (w := V.junk os d) (l := ol) (xs := opts) (HO1.out.at_.on (show Junk V (V.junk os d) from ⟨_, _, rfl⟩))).convert (by simp) oc 23 5 9 Try.underlying23 Try.underlying5 Try.underlying9)
  have HC2 := Lib.hid (fun os d => (IntsAt.bytesIn (w := V.junk os d) (l := ol) (xs := opts2) (HO2.out.at_.on (show Junk V (V.junk os d) from ⟨_, _, rfl⟩))).convert (by simp) oc2 23 5 9 Try.underlying23 Try.underlying5 Try.underlying9)
  rw [eZ] at HC2
  generalize strOfNums ((List.range ol).map opts) = Z at HC1 HC2
  clear eZ
  go_loopw [15] (fun i wr => ∃ k : Nat, 8 ≤ k ∧ k ≤ bl ∧ i = .int .i64 k ∧ Junk V wr) (fun i _ => bl - (intOf i).toNat)
  case atStart => exact ⟨8, by omega, hb8, rfl, Junk.refl _⟩
  case round =>
    obtain ⟨k, hk8, hk, rfl, ⟨os, d, rfl⟩⟩ := hrel
    by_cases hlt : k < bl
    · obtain ⟨b1, off1, he1, _, hc1⟩ := HY1.out.at_ k hlt
      obtain ⟨b2, off2, he2, _, hc2⟩ := HY2.out.at_ k hlt
      cases he1
      cases he2
      simp only at hc1 hc2
      by_cases hxy : body k = body2 k
      · have hxy2 : (body k != body2 k) = false := by simp [hxy]
        clear hxy
        go_wp2
        refine wp_region_junk (by kernel_rfl) (by kernel_rfl) ?_; (repeat (go_big_quiet_step (first | fail))); refine wpQuiet_nil ?_; rintro _ ⟨⟨osq, dq⟩, rfl⟩
        go_wp2
        go_roundw
        case rel => exact ⟨k + 1, by omega, by omega, by go_num, by (first | ((repeat (first | with_reducible exact Junk.refl _ | with_reducible exact Junk.app _ _ _ _ _ | with_reducible apply Junk.alloc | with_reducible apply Junk.junk | with_reducible apply Junk.drew | with_reducible apply Junk.drewN)); done) | ((try simp only [World.junk_junk, Array.append_assoc]); (repeat (first | with_reducible exact Junk.refl _ | with_reducible exact Junk.app _ _ _ _ _ | with_reducible exact Junk.app2 _ _ _ _ _ _ | with_reducible exact Junk.app3 _ _ _ _ _ _ _ | with_reducible exact Junk.app4 _ _ _ _ _ _ _ _ | with_reducible exact Junk.app5 _ _ _ _ _ _ _ _ _ | with_reducible apply Junk.alloc | with_reducible apply Junk.junk | with_reducible apply Junk.drew | with_reducible apply Junk.drewN))))⟩
        case measure => simp [intOf]; omega
      · have hxy2 : (body k != body2 k) = true := by simp [hxy]
        obtain ⟨h6, hor⟩ := (HBD.out k hk8).resolve_left hxy
        have h6' : (proto == 6) = true := by simpa using h6
        clear hxy h6
        by_cases h16 : k = 16
        · have k16 : ((k : Int) == 16) = true := by simp; omega
          clear hor h16
          go_wp2
          refine wp_region_junk (by kernel_rfl) (by kernel_rfl) ?_; (repeat (go_big_quiet_step (first | fail))); refine wpQuiet_nil ?_; rintro _ ⟨⟨osq, dq⟩, rfl⟩
          go_wp2
          go_roundw
          case rel => exact ⟨k + 1, by omega, by omega, by go_num, by (first | ((repeat (first | with_reducible exact Junk.refl _ | with_reducible exact Junk.app _ _ _ _ _ | with_reducible apply Junk.alloc | with_reducible apply Junk.junk | with_reducible apply Junk.drew | with_reducible apply Junk.drewN)); done) | ((try simp only [World.junk_junk, Array.append_assoc]); (repeat (first | with_reducible exact Junk.refl _ | with_reducible exact Junk.app _ _ _ _ _ | with_reducible exact Junk.app2 _ _ _ _ _ _ | with_reducible exact Junk.app3 _ _ _ _ _ _ _ | with_reducible exact Junk.app4 _ _ _ _ _ _ _ _ | with_reducible exact Junk.app5 _ _ _ _ _ _ _ _ _ | with_reducible apply Junk.alloc | with_reducible apply Junk.junk | with_reducible apply Junk.drew | with_reducible apply Junk.drewN))))⟩
          case measure => simp [intOf]; omega
        · have k16 : ((k : Int) == 16) = false := by simp; omega
          have k17 : ((k : Int) == 17) = true := by simp; omega
          clear hor h16
          go_wp2
          refine wp_region_junk (by kernel_rfl) (by kernel_rfl) ?_; (repeat (go_big_quiet_step (first | fail))); refine wpQuiet_nil ?_; rintro _ ⟨⟨osq, dq⟩, rfl⟩
          go_wp2
          go_roundw
          case rel => exact ⟨k + 1, by omega, by omega, by go_num, by (first | ((repeat (first | with_reducible exact Junk.refl _ | with_reducible exact Junk.app _ _ _ _ _ | with_reducible apply Junk.alloc | with_reducible apply Junk.junk | with_reducible apply Junk.drew | with_reducible apply Junk.drewN)); done) | ((try simp only [World.junk_junk, Array.append_assoc]); (repeat (first | with_reducible exact Junk.refl _ | with_reducible exact Junk.app _ _ _ _ _ | with_reducible exact Junk.app2 _ _ _ _ _ _ | with_reducible exact Junk.app3 _ _ _ _ _ _ _ | with_reducible exact Junk.app4 _ _ _ _ _ _ _ _ | with_reducible exact Junk.app5 _ _ _ _ _ _ _ _ _ | with_reducible apply Junk.alloc | with_reducible apply Junk.junk | with_reducible apply Junk.drew | with_reducible apply Junk.drewN))))⟩
          case measure => simp [intOf]; omega
    · obtain rfl : k = bl := by omega
      have hv1 := HC1.out os d
      have hv2 := HC2.out os d
      go_wp2
      go_ret
      exact ⟨ret_bool (by simp), HJV.out.trans (by (first | ((repeat (first | with_reducible exact Junk.refl _ | with_reducible exact Junk.app _ _ _ _ _ | with_reducible apply Junk.alloc | with_reducible apply Junk.junk | with_reducible apply Junk.drew | with_reducible apply Junk.drewN)); done) | ((try simp only [World.junk_junk, Array.append_assoc]); (repeat (first | with_reducible exact Junk.refl _ | with_reducible exact Junk.app _ _ _ _ _ | with_reducible exact Junk.app2 _ _ _ _ _ _ | with_reducible exact Junk.app3 _ _ _ _ _ _ _ | with_reducible exact Junk.app4 _ _ _ _ _ _ _ _ | with_reducible exact Junk.app5 _ _ _ _ _ _ _ _ _ | with_reducible apply Junk.alloc | with_reducible apply Junk.junk | with_reducible apply Junk.drew | with_reducible apply Junk.drewN)))))⟩
set_option maxHeartbeats 4000000 in
theorem errorKeeps_D (kind code rest addr port : Int) (oa : Option Addr) (l c : Nat) (xs : Nat → Int) (w : World) (hB : Bts w oa l c xs) (haddr : 0 ≤ addr ∧ addr ≤ 4294967295) (hp : 0 ≤ port ∧ port ≤ 65535) (hl : l ≤ 3000) (h0 : nmErr kind xs l = 0) : Calls Try.prog 5 #[.agg #[.int .i64 kind, .int .i64 code, .int .u32 rest, .slice oa l c], .int .u32 addr, .int .u16 port, .bool true] w fun e w' => e = .returned (.bool true) ∧ Junk w w' := by
  have HB := Lib.hid hB
  have hl1 : ¬ (3000 : Int) < (l : Int) := by omega
  have hl8 : l ≤ 100000000 := by omega
  have HX := Lib.hid hB.byte
  have H0 := Lib.hid h0
  have pw := wrapk_i64 port (by omega) (by omega)
  obtain ⟨⟨tos, id, df, mf, off, ttl, proto, src, dst, ol, opts, bl, body⟩, hP⟩ : ∃ P, aboutIp xs l = P := ⟨_, rfl⟩
  obtain ⟨⟨tos2, id2, df2, mf2, off2, ttl2, proto2, src2, dst2, ol2, opts2, bl2, body2⟩, hQ⟩ : ∃ P, aboutIp (tnB xs l 16 2 addr port) l = P := ⟨_, rfl⟩
  have ha0 : aboutErr kind xs l = 0 := by
    obtain ⟨hk, hW, _⟩ := nmErr_zero h0
    unfold aboutErr; rw [hk, if_neg (by decide)]; exact wholeErr_of hW
  have HA1 := Lib.hid (fun oa c w1 hb => about_ok (code := code) (rest := rest) hl8 ha0 hP oa c w1 hb)
  have HD1 := Lib.hid (fun oa c w1 hb => dst_ok (code := code) (rest := rest) (port := port) hl8 haddr h0 hp oa c w1 hb)
  have HS1 := Lib.hid (fun oa c w1 hb => src_ok (code := code) (rest := rest) (port := port) hl8 haddr h0 hp oa c w1 hb)
  have HPQ := Lib.hid (And.intro hP hQ)
  clear h0 ha0 hP hQ hB
  go_enter Try.func5, Try.ntmps5
  go_upto_region 8 with (first | (go_at_call 10; refine (awake26_any _).mono ?_; rintro e w' ⟨rfl, ⟨osj, dj, rfl⟩⟩) | (go_at_call 13; (with_reducible refine (HS1.out oa c _ (HB.out.on (by (first | ((repeat (first | with_reducible exact Junk.refl _ | with_reducible exact Junk.app _ _ _ _ _ | with_reducible apply Junk.alloc | with_reducible apply Junk.junk | with_reducible apply Junk.drew | with_reducible apply Junk.drewN)); done) | ((try simp only [World.junk_junk, Array.append_assoc]); (repeat (first | with_reducible exact Junk.refl _ | with_reducible exact Junk.app _ _ _ _ _ | with_reducible exact Junk.app2 _ _ _ _ _ _ | with_reducible exact Junk.app3 _ _ _ _ _ _ _ | with_reducible exact Junk.app4 _ _ _ _ _ _ _ _ | with_reducible exact Junk.app5 _ _ _ _ _ _ _ _ _ | with_reducible apply Junk.alloc | with_reducible apply Junk.junk | with_reducible apply Junk.drew | with_reducible apply Junk.drewN))))))).mono ?_); rintro e w' ⟨⟨os0, d0, rfl⟩, o0, c0, hb0, rfl⟩; clear hb0) | (go_at_call 16; (with_reducible refine (HD1.out oa c _ (HB.out.on (by (first | ((repeat (first | with_reducible exact Junk.refl _ | with_reducible exact Junk.app _ _ _ _ _ | with_reducible apply Junk.alloc | with_reducible apply Junk.junk | with_reducible apply Junk.drew | with_reducible apply Junk.drewN)); done) | ((try simp only [World.junk_junk, Array.append_assoc]); (repeat (first | with_reducible exact Junk.refl _ | with_reducible exact Junk.app _ _ _ _ _ | with_reducible exact Junk.app2 _ _ _ _ _ _ | with_reducible exact Junk.app3 _ _ _ _ _ _ _ | with_reducible exact Junk.app4 _ _ _ _ _ _ _ _ | with_reducible exact Junk.app5 _ _ _ _ _ _ _ _ _ | with_reducible apply Junk.alloc | with_reducible apply Junk.junk | with_reducible apply Junk.drew | with_reducible apply Junk.drewN))))))).mono ?_); rintro e w' ⟨⟨os2, d2, rfl⟩, o1, c1, hb1, rfl⟩; have Hb1 := Lib.hid hb1; clear hb1))
  have Hb1 := Lib.hid (bts_over_nb (cur' := #[.int .i64 kind, .int .i64 code, .int .u32 rest, .slice o1 l c1]) Hb1.out (xm_nb kind code rest o0 l c0))
  have hT := tn_of (.inr ⟨rfl, rfl⟩) H0.out HX.out Hb1.out.byte haddr
  have hK := tn_keeps (.inr ⟨rfl, rfl⟩) H0.out hT
  rw [HPQ.out.1, HPQ.out.2] at hK
  obtain ⟨ha2, ⟨e1, e2, e3, e4, e5, e6, e7, e8, e9, eo⟩, hbd, hdf, hsr, hb8⟩ := hK
  have hds : src2 = src := hsr rfl
  simp only at e1 e2 e3 e4 e5 e6 e7 e8 e9 eo hbd hb8
  obtain rfl : tos = tos2 := e1.symm
  obtain rfl : id = id2 := e2.symm
  obtain rfl : df = df2 := e3.symm
  obtain rfl : mf = mf2 := e4.symm
  obtain rfl : off = off2 := e5.symm
  obtain rfl : ttl = ttl2 := e6.symm
  obtain rfl : proto = proto2 := e7.symm
  obtain rfl : ol = ol2 := e8.symm
  obtain rfl : bl = bl2 := e9.symm
  obtain rfl : src = src2 := hds.symm
  have HA2 := Lib.hid (fun oa c w1 hb => about_ok (code := code) (rest := rest) hl8 ha2 HPQ.out.2 oa c w1 hb)
  have HBD := Lib.hid hbd
  have HEO := Lib.hid eo
  have hb8' : bl ≤ 100000000 := by
    have h1 := HPQ.out.1
    have h2 : (aboutIp xs l).bl ≤ l := by
      show min (ipTotal xs) l - ipSize xs ≤ l
      omega
    rw [h1] at h2
    simp only at h2
    omega
  clear hT ha2 hbd eo hsr hdf e1 e2 e3 e4 e5 e6 e7 e8 e9
  go_upto_region 13 with (first | (go_at_call 17; (with_reducible refine (HA1.out oa c _ (HB.out.on (by (first | ((repeat (first | with_reducible exact Junk.refl _ | with_reducible exact Junk.app _ _ _ _ _ | with_reducible apply Junk.alloc | with_reducible apply Junk.junk | with_reducible apply Junk.drew | with_reducible apply Junk.drewN)); done) | ((try simp only [World.junk_junk, Array.append_assoc]); (repeat (first | with_reducible exact Junk.refl _ | with_reducible exact Junk.app _ _ _ _ _ | with_reducible exact Junk.app2 _ _ _ _ _ _ | with_reducible exact Junk.app3 _ _ _ _ _ _ _ | with_reducible exact Junk.app4 _ _ _ _ _ _ _ _ | with_reducible exact Junk.app5 _ _ _ _ _ _ _ _ _ | with_reducible apply Junk.alloc | with_reducible apply Junk.junk | with_reducible apply Junk.drew | with_reducible apply Junk.drewN))))))).mono ?_); rintro e w' ⟨oo, ob, oc, bc, rfl, ⟨os3, d3, rfl⟩, hi⟩; have HI1 := Lib.hid hi; clear hi) | (go_at_call 17; (with_reducible refine (HA2.out o1 c1 _ (Hb1.out.on (by (first | ((repeat (first | with_reducible exact Junk.refl _ | with_reducible exact Junk.app _ _ _ _ _ | with_reducible apply Junk.alloc | with_reducible apply Junk.junk | with_reducible apply Junk.drew | with_reducible apply Junk.drewN)); done) | ((try simp only [World.junk_junk, Array.append_assoc]); (repeat (first | with_reducible exact Junk.refl _ | with_reducible exact Junk.app _ _ _ _ _ | with_reducible exact Junk.app2 _ _ _ _ _ _ | with_reducible exact Junk.app3 _ _ _ _ _ _ _ | with_reducible exact Junk.app4 _ _ _ _ _ _ _ _ | with_reducible exact Junk.app5 _ _ _ _ _ _ _ _ _ | with_reducible apply Junk.alloc | with_reducible apply Junk.junk | with_reducible apply Junk.drew | with_reducible apply Junk.drewN))))))).mono ?_); rintro e w' ⟨oo2, ob2, oc2, bc2, rfl, ⟨os4, d4, rfl⟩, hi⟩; have HI2 := Lib.hid hi; clear hi))
  go_wp2
  have HCS : CsH [((w.heap.size + 1 + (osj.size + os0.size) + 1 + (os2.size + os3.size)), 0, .int .i64 tos), ((w.heap.size + 1 + (osj.size + os0.size) + 1 + (os2.size + os3.size)), 1, .int .i64 id), ((w.heap.size + 1 + (osj.size + os0.size) + 1 + (os2.size + os3.size)), 2, .bool df), ((w.heap.size + 1 + (osj.size + os0.size) + 1 + (os2.size + os3.size)), 3, .bool mf), ((w.heap.size + 1 + (osj.size + os0.size) + 1 + (os2.size + os3.size)), 4, .int .i64 off), ((w.heap.size + 1 + (osj.size + os0.size) + 1 + (os2.size + os3.size)), 5, .int .i64 ttl), ((w.heap.size + 1 + (osj.size + os0.size) + 1 + (os2.size + os3.size)), 6, .int .i64 proto), ((w.heap.size + 1 + (osj.size + os0.size) + 1 + (os2.size + os3.size)), 7, .int .u32 src), ((w.heap.size + 1 + (osj.size + os0.size) + 1 + (os2.size + os3.size)), 8, .int .u32 dst), ((w.heap.size + 1 + (osj.size + os0.size) + 1 + (os2.size + os3.size)), 9, .slice oo ol oc), ((w.heap.size + 1 + (osj.size + os0.size) + 1 + (os2.size + os3.size)), 10, .slice ob bl bc), ((w.heap.size + 1 + (osj.size + os0.size) + 1 + (os2.size + os3.size) + 1 + os4.size), 0, .int .i64 tos), ((w.heap.size + 1 + (osj.size + os0.size) + 1 + (os2.size + os3.size) + 1 + os4.size), 1, .int .i64 id), ((w.heap.size + 1 + (osj.size + os0.size) + 1 + (os2.size + os3.size) + 1 + os4.size), 2, .bool df), ((w.heap.size + 1 + (osj.size + os0.size) + 1 + (os2.size + os3.size) + 1 + os4.size), 3, .bool mf), ((w.heap.size + 1 + (osj.size + os0.size) + 1 + (os2.size + os3.size) + 1 + os4.size), 4, .int .i64 off), ((w.heap.size + 1 + (osj.size + os0.size) + 1 + (os2.size + os3.size) + 1 + os4.size), 5, .int .i64 ttl), ((w.heap.size + 1 + (osj.size + os0.size) + 1 + (os2.size + os3.size) + 1 + os4.size), 6, .int .i64 proto), ((w.heap.size + 1 + (osj.size + os0.size) + 1 + (os2.size + os3.size) + 1 + os4.size), 7, .int .u32 src), ((w.heap.size + 1 + (osj.size + os0.size) + 1 + (os2.size + os3.size) + 1 + os4.size), 8, .int .u32 dst2), ((w.heap.size + 1 + (osj.size + os0.size) + 1 + (os2.size + os3.size) + 1 + os4.size), 9, .slice oo2 ol oc2), ((w.heap.size + 1 + (osj.size + os0.size) + 1 + (os2.size + os3.size) + 1 + os4.size), 10, .slice ob2 bl bc2)] ((((((((w.alloc (.cells #[.int .i64 kind, .int .i64 code, .int .u32 rest, .slice oa l c] 25)).junk (osj ++ os0) d0).alloc (.cells #[.int .i64 kind, .int .i64 code, .int .u32 rest, .slice o1 l c1] 25)).junk (os2 ++ os3) d3).alloc (.cells #[.int .i64 tos, .int .i64 id, .bool df, .bool mf, .int .i64 off, .int .i64 ttl, .int .i64 proto, .int .u32 src, .int .u32 dst, .slice oo ol oc, .slice ob bl bc] 43)).junk os4 d4).alloc (.cells #[.int .i64 tos, .int .i64 id, .bool df, .bool mf, .int .i64 off, .int .i64 ttl, .int .i64 proto, .int .u32 src, .int .u32 dst2, .slice oo2 ol oc2, .slice ob2 bl bc2] 43))) := by
    repeat (refine CsH.cons.2 ⟨⟨(by simp; try omega), (by go_simp), (by go_simp)⟩, ?_⟩)
    exact CsH.nil _
  have HJV := Lib.hid (show Junk w ((((((((w.alloc (.cells #[.int .i64 kind, .int .i64 code, .int .u32 rest, .slice oa l c] 25)).junk (osj ++ os0) d0).alloc (.cells #[.int .i64 kind, .int .i64 code, .int .u32 rest, .slice o1 l c1] 25)).junk (os2 ++ os3) d3).alloc (.cells #[.int .i64 tos, .int .i64 id, .bool df, .bool mf, .int .i64 off, .int .i64 ttl, .int .i64 proto, .int .u32 src, .int .u32 dst, .slice oo ol oc, .slice ob bl bc] 43)).junk os4 d4).alloc (.cells #[.int .i64 tos, .int .i64 id, .bool df, .bool mf, .int .i64 off, .int .i64 ttl, .int .i64 proto, .int .u32 src, .int .u32 dst2, .slice oo2 ol oc2, .slice ob2 bl bc2] 43))) by (first | ((repeat (first | with_reducible exact Junk.refl _ | with_reducible exact Junk.app _ _ _ _ _ | with_reducible apply Junk.alloc | with_reducible apply Junk.junk | with_reducible apply Junk.drew | with_reducible apply Junk.drewN)); done) | ((try simp only [World.junk_junk, Array.append_assoc]); (repeat (first | with_reducible exact Junk.refl _ | with_reducible exact Junk.app _ _ _ _ _ | with_reducible exact Junk.app2 _ _ _ _ _ _ | with_reducible exact Junk.app3 _ _ _ _ _ _ _ | with_reducible exact Junk.app4 _ _ _ _ _ _ _ _ | with_reducible exact Junk.app5 _ _ _ _ _ _ _ _ _ | with_reducible apply Junk.alloc | with_reducible apply Junk.junk | with_reducible apply Junk.drew | with_reducible apply Junk.drewN)))))
  have HO1 := Lib.hid (HI1.out.opts.on (show Junk _ ((((((((w.alloc (.cells #[.int .i64 kind, .int .i64 code, .int .u32 rest, .slice oa l c] 25)).junk (osj ++ os0) d0).alloc (.cells #[.int .i64 kind, .int .i64 code, .int .u32 rest, .slice o1 l c1] 25)).junk (os2 ++ os3) d3).alloc (.cells #[.int .i64 tos, .int .i64 id, .bool df, .bool mf, .int .i64 off, .int .i64 ttl, .int .i64 proto, .int .u32 src, .int .u32 dst, .slice oo ol oc, .slice ob bl bc] 43)).junk os4 d4).alloc (.cells #[.int .i64 tos, .int .i64 id, .bool df, .bool mf, .int .i64 off, .int .i64 ttl, .int .i64 proto, .int .u32 src, .int .u32 dst2, .slice oo2 ol oc2, .slice ob2 bl bc2] 43))) by (first | ((repeat (first | with_reducible exact Junk.refl _ | with_reducible exact Junk.app _ _ _ _ _ | with_reducible apply Junk.alloc | with_reducible apply Junk.junk | with_reducible apply Junk.drew | with_reducible apply Junk.drewN)); done) | ((try simp only [World.junk_junk, Array.append_assoc]); (repeat (first | with_reducible exact Junk.refl _ | with_reducible exact Junk.app _ _ _ _ _ | with_reducible exact Junk.app2 _ _ _ _ _ _ | with_reducible exact Junk.app3 _ _ _ _ _ _ _ | with_reducible exact Junk.app4 _ _ _ _ _ _ _ _ | with_reducible exact Junk.app5 _ _ _ _ _ _ _ _ _ | with_reducible apply Junk.alloc | with_reducible apply Junk.junk | with_reducible apply Junk.drew | with_reducible apply Junk.drewN))))))
  have HO2 := Lib.hid (HI2.out.opts.on (show Junk _ ((((((((w.alloc (.cells #[.int .i64 kind, .int .i64 code, .int .u32 rest, .slice oa l c] 25)).junk (osj ++ os0) d0).alloc (.cells #[.int .i64 kind, .int .i64 code, .int .u32 rest, .slice o1 l c1] 25)).junk (os2 ++ os3) d3).alloc (.cells #[.int .i64 tos, .int .i64 id, .bool df, .bool mf, .int .i64 off, .int .i64 ttl, .int .i64 proto, .int .u32 src, .int .u32 dst, .slice oo ol oc, .slice ob bl bc] 43)).junk os4 d4).alloc (.cells #[.int .i64 tos, .int .i64 id, .bool df, .bool mf, .int .i64 off, .int .i64 ttl, .int .i64 proto, .int .u32 src, .int .u32 dst2, .slice oo2 ol oc2, .slice ob2 bl bc2] 43))) by (first | ((repeat (first | with_reducible exact Junk.refl _ | with_reducible exact Junk.app _ _ _ _ _ | with_reducible apply Junk.alloc | with_reducible apply Junk.junk | with_reducible apply Junk.drew | with_reducible apply Junk.drewN)); done) | ((try simp only [World.junk_junk, Array.append_assoc]); (repeat (first | with_reducible exact Junk.refl _ | with_reducible exact Junk.app _ _ _ _ _ | with_reducible exact Junk.app2 _ _ _ _ _ _ | with_reducible exact Junk.app3 _ _ _ _ _ _ _ | with_reducible exact Junk.app4 _ _ _ _ _ _ _ _ | with_reducible exact Junk.app5 _ _ _ _ _ _ _ _ _ | with_reducible apply Junk.alloc | with_reducible apply Junk.junk | with_reducible apply Junk.drew | with_reducible apply Junk.drewN))))))
  have HY1 := Lib.hid (HI1.out.body.on (show Junk _ ((((((((w.alloc (.cells #[.int .i64 kind, .int .i64 code, .int .u32 rest, .slice oa l c] 25)).junk (osj ++ os0) d0).alloc (.cells #[.int .i64 kind, .int .i64 code, .int .u32 rest, .slice o1 l c1] 25)).junk (os2 ++ os3) d3).alloc (.cells #[.int .i64 tos, .int .i64 id, .bool df, .bool mf, .int .i64 off, .int .i64 ttl, .int .i64 proto, .int .u32 src, .int .u32 dst, .slice oo ol oc, .slice ob bl bc] 43)).junk os4 d4).alloc (.cells #[.int .i64 tos, .int .i64 id, .bool df, .bool mf, .int .i64 off, .int .i64 ttl, .int .i64 proto, .int .u32 src, .int .u32 dst2, .slice oo2 ol oc2, .slice ob2 bl bc2] 43))) by (first | ((repeat (first | with_reducible exact Junk.refl _ | with_reducible exact Junk.app _ _ _ _ _ | with_reducible apply Junk.alloc | with_reducible apply Junk.junk | with_reducible apply Junk.drew | with_reducible apply Junk.drewN)); done) | ((try simp only [World.junk_junk, Array.append_assoc]); (repeat (first | with_reducible exact Junk.refl _ | with_reducible exact Junk.app _ _ _ _ _ | with_reducible exact Junk.app2 _ _ _ _ _ _ | with_reducible exact Junk.app3 _ _ _ _ _ _ _ | with_reducible exact Junk.app4 _ _ _ _ _ _ _ _ | with_reducible exact Junk.app5 _ _ _ _ _ _ _ _ _ | with_reducible apply Junk.alloc | with_reducible apply Junk.junk | with_reducible apply Junk.drew | with_reducible apply Junk.drewN))))))
  have HY2 := Lib.hid (HI2.out.body.on (show Junk _ ((((((((w.alloc (.cells #[.int .i64 kind, .int .i64 code, .int .u32 rest, .slice oa l c] 25)).junk (osj ++ os0) d0).alloc (.cells #[.int .i64 kind, .int .i64 code, .int .u32 rest, .slice o1 l c1] 25)).junk (os2 ++ os3) d3).alloc (.cells #[.int .i64 tos, .int .i64 id, .bool df, .bool mf, .int .i64 off, .int .i64 ttl, .int .i64 proto, .int .u32 src, .int .u32 dst, .slice oo ol oc, .slice ob bl bc] 43)).junk os4 d4).alloc (.cells #[.int .i64 tos, .int .i64 id, .bool df, .bool mf, .int .i64 off, .int .i64 ttl, .int .i64 proto, .int .u32 src, .int .u32 dst2, .slice oo2 ol oc2, .slice ob2 bl bc2] 43))) by (first | ((repeat (first | with_reducible exact Junk.refl _ | with_reducible exact Junk.app _ _ _ _ _ | with_reducible apply Junk.alloc | with_reducible apply Junk.junk | with_reducible apply Junk.drew | with_reducible apply Junk.drewN)); done) | ((try simp only [World.junk_junk, Array.append_assoc]); (repeat (first | with_reducible exact Junk.refl _ | with_reducible exact Junk.app _ _ _ _ _ | with_reducible exact Junk.app2 _ _ _ _ _ _ | with_reducible exact Junk.app3 _ _ _ _ _ _ _ | with_reducible exact Junk.app4 _ _ _ _ _ _ _ _ | with_reducible exact Junk.app5 _ _ _ _ _ _ _ _ _ | with_reducible apply Junk.alloc | with_reducible apply Junk.junk | with_reducible apply Junk.drew | with_reducible apply Junk.drewN))))))
  generalize (((((((w.alloc (.cells #[.int .i64 kind, .int .i64 code, .int .u32 rest, .slice oa l c] 25)).junk (osj ++ os0) d0).alloc (.cells #[.int .i64 kind, .int .i64 code, .int .u32 rest, .slice o1 l c1] 25)).junk (os2 ++ os3) d3).alloc (.cells #[.int .i64 tos, .int .i64 id, .bool df, .bool mf, .int .i64 off, .int .i64 ttl, .int .i64 proto, .int .u32 src, .int .u32 dst, .slice oo ol oc, .slice ob bl bc] 43)).junk os4 d4).alloc (.cells #[.int .i64 tos, .int .i64 id, .bool df, .bool mf, .int .i64 off, .int .i64 ttl, .int .i64 proto, .int .u32 src, .int .u32 dst2, .slice oo2 ol oc2, .slice ob2 bl bc2] 43)) = V at HCS HJV HO1 HO2 HY1 HY2 ⊢
  clear HI1 HI2 HA1 HA2 HS1 HD1 HB Hb1
  generalize (w.heap.size + 1 + (osj.size + os0.size) + 1 + (os2.size + os3.size) + 1 + os4.size) = bq at HCS ⊢
  generalize (w.heap.size + 1 + (osj.size + os0.size) + 1 + (os2.size + os3.size)) = bp at HCS ⊢
  obtain ⟨sp, mp0, _⟩ := HCS (bp, 0, .int .i64 tos) (by simp)
  obtain ⟨_, mp1, _⟩ := HCS (bp, 1, .int .i64 id) (by simp)
  obtain ⟨_, mp2, _⟩ := HCS (bp, 2, .bool df) (by simp)
  obtain ⟨_, mp3, _⟩ := HCS (bp, 3, .bool mf) (by simp)
  obtain ⟨_, mp4, _⟩ := HCS (bp, 4, .int .i64 off) (by simp)
  obtain ⟨_, mp5, _⟩ := HCS (bp, 5, .int .i64 ttl) (by simp)
  obtain ⟨_, mp6, _⟩ := HCS (bp, 6, .int .i64 proto) (by simp)
  obtain ⟨_, mp7, _⟩ := HCS (bp, 7, .int .u32 src) (by simp)
  obtain ⟨_, mp8, _⟩ := HCS (bp, 8, .int .u32 dst) (by simp)
  obtain ⟨_, mp9, _⟩ := HCS (bp, 9, .slice oo ol oc) (by simp)
  obtain ⟨_, mp10, _⟩ := HCS (bp, 10, .slice ob bl bc) (by simp)
  obtain ⟨sq, mq0, _⟩ := HCS (bq, 0, .int .i64 tos) (by simp)
  obtain ⟨_, mq1, _⟩ := HCS (bq, 1, .int .i64 id) (by simp)
  obtain ⟨_, mq2, _⟩ := HCS (bq, 2, .bool df) (by simp)
  obtain ⟨_, mq3, _⟩ := HCS (bq, 3, .bool mf) (by simp)
  obtain ⟨_, mq4, _⟩ := HCS (bq, 4, .int .i64 off) (by simp)
  obtain ⟨_, mq5, _⟩ := HCS (bq, 5, .int .i64 ttl) (by simp)
  obtain ⟨_, mq6, _⟩ := HCS (bq, 6, .int .i64 proto) (by simp)
  obtain ⟨_, mq7, _⟩ := HCS (bq, 7, .int .u32 src) (by simp)
  obtain ⟨_, mq8, _⟩ := HCS (bq, 8, .int .u32 dst2) (by simp)
  obtain ⟨_, mq9, _⟩ := HCS (bq, 9, .slice oo2 ol oc2) (by simp)
  obtain ⟨_, mq10, _⟩ := HCS (bq, 10, .slice ob2 bl bc2) (by simp)
  have HCS := Lib.hid HCS
  obtain ⟨bb, bo, rfl, hbb, _⟩ := HY1.out.at_ 0 (by simp only; omega)
  obtain ⟨bb2, bo2, rfl, hbb2, _⟩ := HY2.out.at_ 0 (by simp only; omega)
  have eZ : (List.range ol).map opts2 = (List.range ol).map opts := List.map_congr_left (fun i hi => HEO.out i (by simpa using hi))
  have HC1 := Lib.hid (fun os d => (IntsAt.bytesIn (w := V.junk os d) (l := ol) (xs := opts) (HO1.out.at_.on (show Junk V (V.junk os d) from ⟨_, _, rfl⟩))).convert (by simp) oc 23 5 9 Try.underlying23 Try.underlying5 Try.underlying9)
  have HC2 := Lib.hid (fun os d => (IntsAt.bytesIn (w := V.junk os d) (l := ol) (xs := opts2) (HO2.out.at_.on (show Junk V (V.junk os d) from ⟨_, _, rfl⟩))).convert (by simp) oc2 23 5 9 Try.underlying23 Try.underlying5 Try.underlying9)
  rw [eZ] at HC2
  generalize strOfNums ((List.range ol).map opts) = Z at HC1 HC2
  clear eZ
  go_loopw [15] (fun i wr => ∃ k : Nat, 8 ≤ k ∧ k ≤ bl ∧ i = .int .i64 k ∧ Junk V wr) (fun i _ => bl - (intOf i).toNat)
  case atStart => exact ⟨8, by omega, hb8, rfl, Junk.refl _⟩
  case round =>
    obtain ⟨k, hk8, hk, rfl, ⟨os, d, rfl⟩⟩ := hrel
    by_cases hlt : k < bl
    · obtain ⟨b1, off1, he1, _, hc1⟩ := HY1.out.at_ k hlt
      obtain ⟨b2, off2, he2, _, hc2⟩ := HY2.out.at_ k hlt
      cases he1
      cases he2
      simp only at hc1 hc2
      by_cases hxy : body k = body2 k
      · have hxy2 : (body k != body2 k) = false := by simp [hxy]
        clear hxy
        go_wp2
        refine wp_region_junk (by kernel_rfl) (by kernel_rfl) ?_; (repeat (go_big_quiet_step (first | fail))); refine wpQuiet_nil ?_; rintro _ ⟨⟨osq, dq⟩, rfl⟩
        go_wp2
        go_roundw
        case rel => exact ⟨k + 1, by omega, by omega, by go_num, by (first | ((repeat (first | with_reducible exact Junk.refl _ | with_reducible exact Junk.app _ _ _ _ _ | with_reducible apply Junk.alloc | with_reducible apply Junk.junk | with_reducible apply Junk.drew | with_reducible apply Junk.drewN)); done) | ((try simp only [World.junk_junk, Array.append_assoc]); (repeat (first | with_reducible exact Junk.refl _ | with_reducible exact Junk.app _ _ _ _ _ | with_reducible exact Junk.app2 _ _ _ _ _ _ | with_reducible exact Junk.app3 _ _ _ _ _ _ _ | with_reducible exact Junk.app4 _ _ _ _ _ _ _ _ | with_reducible exact Junk.app5 _ _ _ _ _ _ _ _ _ | with_reducible apply Junk.alloc | with_reducible apply Junk.junk | with_reducible apply Junk.drew | with_reducible apply Junk.drewN))))⟩
        case measure => simp [intOf]; omega
      · have hxy2 : (body k != body2 k) = true := by simp [hxy]
        obtain ⟨h6, hor⟩ := (HBD.out k hk8).resolve_left hxy
        have h6' : (proto == 6) = true := by simpa using h6
        clear hxy h6
        by_cases h16 : k = 16
        · have k16 : ((k : Int) == 16) = true := by simp; omega
          clear hor h16
          go_wp2
          refine wp_region_junk (by kernel_rfl) (by kernel_rfl) ?_; (repeat (go_big_quiet_step (first | fail))); refine wpQuiet_nil ?_; rintro _ ⟨⟨osq, dq⟩, rfl⟩
          go_wp2
          go_roundw
          case rel => exact ⟨k + 1, by omega, by omega, by go_num, by (first | ((repeat (first | with_reducible exact Junk.refl _ | with_reducible exact Junk.app _ _ _ _ _ | with_reducible apply Junk.alloc | with_reducible apply Junk.junk | with_reducible apply Junk.drew | with_reducible apply Junk.drewN)); done) | ((try simp only [World.junk_junk, Array.append_assoc]); (repeat (first | with_reducible exact Junk.refl _ | with_reducible exact Junk.app _ _ _ _ _ | with_reducible exact Junk.app2 _ _ _ _ _ _ | with_reducible exact Junk.app3 _ _ _ _ _ _ _ | with_reducible exact Junk.app4 _ _ _ _ _ _ _ _ | with_reducible exact Junk.app5 _ _ _ _ _ _ _ _ _ | with_reducible apply Junk.alloc | with_reducible apply Junk.junk | with_reducible apply Junk.drew | with_reducible apply Junk.drewN))))⟩
          case measure => simp [intOf]; omega
        · have k16 : ((k : Int) == 16) = false := by simp; omega
          have k17 : ((k : Int) == 17) = true := by simp; omega
          clear hor h16
          go_wp2
          refine wp_region_junk (by kernel_rfl) (by kernel_rfl) ?_; (repeat (go_big_quiet_step (first | fail))); refine wpQuiet_nil ?_; rintro _ ⟨⟨osq, dq⟩, rfl⟩
          go_wp2
          go_roundw
          case rel => exact ⟨k + 1, by omega, by omega, by go_num, by (first | ((repeat (first | with_reducible exact Junk.refl _ | with_reducible exact Junk.app _ _ _ _ _ | with_reducible apply Junk.alloc | with_reducible apply Junk.junk | with_reducible apply Junk.drew | with_reducible apply Junk.drewN)); done) | ((try simp only [World.junk_junk, Array.append_assoc]); (repeat (first | with_reducible exact Junk.refl _ | with_reducible exact Junk.app _ _ _ _ _ | with_reducible exact Junk.app2 _ _ _ _ _ _ | with_reducible exact Junk.app3 _ _ _ _ _ _ _ | with_reducible exact Junk.app4 _ _ _ _ _ _ _ _ | with_reducible exact Junk.app5 _ _ _ _ _ _ _ _ _ | with_reducible apply Junk.alloc | with_reducible apply Junk.junk | with_reducible apply Junk.drew | with_reducible apply Junk.drewN))))⟩
          case measure => simp [intOf]; omega
    · obtain rfl : k = bl := by omega
      have hv1 := HC1.out os d
      have hv2 := HC2.out os d
      go_wp2
      go_ret
      exact ⟨ret_bool (by simp), HJV.out.trans (by (first | ((repeat (first | with_reducible exact Junk.refl _ | with_reducible exact Junk.app _ _ _ _ _ | with_reducible apply Junk.alloc | with_reducible apply Junk.junk | with_reducible apply Junk.drew | with_reducible apply Junk.drewN)); done) | ((try simp only [World.junk_junk, Array.append_assoc]); (repeat (first | with_reducible exact Junk.refl _ | with_reducible exact Junk.app _ _ _ _ _ | with_reducible exact Junk.app2 _ _ _ _ _ _ | with_reducible exact Junk.app3 _ _ _ _ _ _ _ | with_reducible exact Junk.app4 _ _ _ _ _ _ _ _ | with_reducible exact Junk.app5 _ _ _ _ _ _ _ _ _ | with_reducible apply Junk.alloc | with_reducible apply Junk.junk | with_reducible apply Junk.drew | with_reducible apply Junk.drewN)))))⟩
set_option maxHeartbeats 4000000 in
theorem errorKeeps_badS (kind code rest addr port : Int) (oa : Option Addr) (l c : Nat) (xs : Nat → Int) (w : World) (hB : Bts w oa l c xs) (haddr : 0 ≤ addr ∧ addr ≤ 4294967295) (hp : 0 ≤ port ∧ port ≤ 65535) (hn : ¬ (l ≤ 3000 ∧ nmErr kind xs l = 0)) : Calls Try.prog 5 #[.agg #[.int .i64 kind, .int .i64 code, .int .u32 rest, .slice oa l c], .int .u32 addr, .int .u16 port, .bool false] w fun e w' => e = .returned (.bool true) ∧ Junk w w' := by
  have HB := Lib.hid hB
  by_cases hl : l ≤ 3000
  · have hl1 : ¬ (3000 : Int) < (l : Int) := by omega
    have hl8 : l ≤ 100000000 := by omega
    have pw := wrapk_i64 port (by omega) (by omega)
    obtain ⟨E, hE⟩ : ∃ E, tnErr kind xs l port = E := ⟨_, rfl⟩
    have h0 : nmErr kind xs l ≠ 0 := fun h => hn ⟨hl, h⟩
    have hE0 : E ≠ 0 := by
      rw [← hE]
      unfold tnErr
      rw [if_pos h0]
      exact h0
    have HS1 := Lib.hid (fun w1 (hb : Bts w1 oa l c xs) => show Calls Try.prog 13 #[.agg #[.int .i64 kind, .int .i64 code, .int .u32 rest, .slice oa l c], .int .u32 addr, .int .i64 port] w1 fun e w' => Junk w1 w' ∧ e = .returned (.tuple #[.agg #[.int .i64 0, .int .i64 0, .int .u32 0, .slice none 0 0], .int .i64 E]) by rw [← hE]; exact (src_any kind code rest addr port oa l c xs w1 hl8 hb haddr).mono fun e w' hp => hp.bad (by rw [hE]; exact hE0))
    have HD1 := Lib.hid (fun w1 (hb : Bts w1 oa l c xs) => show Calls Try.prog 16 #[.agg #[.int .i64 kind, .int .i64 code, .int .u32 rest, .slice oa l c], .int .u32 addr, .int .i64 port] w1 fun e w' => Junk w1 w' ∧ e = .returned (.tuple #[.agg #[.int .i64 0, .int .i64 0, .int .u32 0, .slice none 0 0], .int .i64 E]) by rw [← hE]; exact (dst_any kind code rest addr port oa l c xs w1 hl8 hb haddr).mono fun e w' hp => hp.bad (by rw [hE]; exact hE0))
    have hne : (E != 0) = true := by simpa using hE0
    clear hn hE h0 hE0 hB
    go_enter Try.func5, Try.ntmps5
    go_wp2_with (first | (go_at_call 10; refine (awake26_any _).mono ?_; rintro e w' ⟨rfl, ⟨osj, dj, rfl⟩⟩) | (go_at_call 13; (with_reducible refine (HS1.out _ (HB.out.on (by (first | ((repeat (first | with_reducible exact Junk.refl _ | with_reducible exact Junk.app _ _ _ _ _ | with_reducible apply Junk.alloc | with_reducible apply Junk.junk | with_reducible apply Junk.drew | with_reducible apply Junk.drewN)); done) | ((try simp only [World.junk_junk, Array.append_assoc]); (repeat (first | with_reducible exact Junk.refl _ | with_reducible exact Junk.app _ _ _ _ _ | with_reducible exact Junk.app2 _ _ _ _ _ _ | with_reducible exact Junk.app3 _ _ _ _ _ _ _ | with_reducible exact Junk.app4 _ _ _ _ _ _ _ _ | with_reducible exact Junk.app5 _ _ _ _ _ _ _ _ _ | with_reducible apply Junk.alloc | with_reducible apply Junk.junk | with_reducible apply Junk.drew | with_reducible apply Junk.drewN))))))).mono ?_); rintro e w' ⟨⟨os1, d1, rfl⟩, rfl⟩) | (go_at_call 16; (with_reducible refine (HD1.out _ (HB.out.on (by (first | ((repeat (first | with_reducible exact Junk.refl _ | with_reducible exact Junk.app _ _ _ _ _ | with_reducible apply Junk.alloc | with_reducible apply Junk.junk | with_reducible apply Junk.drew | with_reducible apply Junk.drewN)); done) | ((try simp only [World.junk_junk, Array.append_assoc]); (repeat (first | with_reducible exact Junk.refl _ | with_reducible exact Junk.app _ _ _ _ _ | with_reducible exact Junk.app2 _ _ _ _ _ _ | with_reducible exact Junk.app3 _ _ _ _ _ _ _ | with_reducible exact Junk.app4 _ _ _ _ _ _ _ _ | with_reducible exact Junk.app5 _ _ _ _ _ _ _ _ _ | with_reducible apply Junk.alloc | with_reducible apply Junk.junk | with_reducible apply Junk.drew | with_reducible apply Junk.drewN))))))).mono ?_); rintro e w' ⟨⟨os2, d2, rfl⟩, rfl⟩))
    all_goals (go_ret; exact ⟨ret_bool rfl, by (first | ((repeat (first | with_reducible exact Junk.refl _ | with_reducible exact Junk.app _ _ _ _ _ | with_reducible apply Junk.alloc | with_reducible apply Junk.junk | with_reducible apply Junk.drew | with_reducible apply Junk.drewN)); done) | ((try simp only [World.junk_junk, Array.append_assoc]); (repeat (first | with_reducible exact Junk.refl _ | with_reducible exact Junk.app _ _ _ _ _ | with_reducible exact Junk.app2 _ _ _ _ _ _ | with_reducible exact Junk.app3 _ _ _ _ _ _ _ | with_reducible exact Junk.app4 _ _ _ _ _ _ _ _ | with_reducible exact Junk.app5 _ _ _ _ _ _ _ _ _ | with_reducible apply Junk.alloc | with_reducible apply Junk.junk | with_reducible apply Junk.drew | with_reducible apply Junk.drewN))))⟩)
  · have hl1 : (3000 : Int) < (l : Int) := by omega
    clear hn hB
    go_enter Try.func5, Try.ntmps5
    go_wp2_with (first | (go_at_call 10; refine (awake26_any _).mono ?_; rintro e w' ⟨rfl, ⟨osj, dj, rfl⟩⟩))
    all_goals (go_ret; exact ⟨ret_bool rfl, by (first | ((repeat (first | with_reducible exact Junk.refl _ | with_reducible exact Junk.app _ _ _ _ _ | with_reducible apply Junk.alloc | with_reducible apply Junk.junk | with_reducible apply Junk.drew | with_reducible apply Junk.drewN)); done) | ((try simp only [World.junk_junk, Array.append_assoc]); (repeat (first | with_reducible exact Junk.refl _ | with_reducible exact Junk.app _ _ _ _ _ | with_reducible exact Junk.app2 _ _ _ _ _ _ | with_reducible exact Junk.app3 _ _ _ _ _ _ _ | with_reducible exact Junk.app4 _ _ _ _ _ _ _ _ | with_reducible exact Junk.app5 _ _ _ _ _ _ _ _ _ | with_reducible apply Junk.alloc | with_reducible apply Junk.junk | with_reducible apply Junk.drew | with_reducible apply Junk.drewN))))⟩)
set_option maxHeartbeats 4000000 in
theorem errorKeeps_badD (kind code rest addr port : Int) (oa : Option Addr) (l c : Nat) (xs : Nat → Int) (w : World) (hB : Bts w oa l c xs) (haddr : 0 ≤ addr ∧ addr ≤ 4294967295) (hp : 0 ≤ port ∧ port ≤ 65535) (hn : ¬ (l ≤ 3000 ∧ nmErr kind xs l = 0)) : Calls Try.prog 5 #[.agg #[.int .i64 kind, .int .i64 code, .int .u32 rest, .slice oa l c], .int .u32 addr, .int .u16 port, .bool true] w fun e w' => e = .returned (.bool true) ∧ Junk w w' := by
  have HB := Lib.hid hB
  by_cases hl : l ≤ 3000
  · have hl1 : ¬ (3000 : Int) < (l : Int) := by omega
    have hl8 : l ≤ 100000000 := by omega
    have pw := wrapk_i64 port (by omega) (by omega)
    obtain ⟨E, hE⟩ : ∃ E, tnErr kind xs l port = E := ⟨_, rfl⟩
    have h0 : nmErr kind xs l ≠ 0 := fun h => hn ⟨hl, h⟩
    have hE0 : E ≠ 0 := by
      rw [← hE]
      unfold tnErr
      rw [if_pos h0]
      exact h0
    have HS1 := Lib.hid (fun w1 (hb : Bts w1 oa l c xs) => show Calls Try.prog 13 #[.agg #[.int .i64 kind, .int .i64 code, .int .u32 rest, .slice oa l c], .int .u32 addr, .int .i64 port] w1 fun e w' => Junk w1 w' ∧ e = .returned (.tuple #[.agg #[.int .i64 0, .int .i64 0, .int .u32 0, .slice none 0 0], .int .i64 E]) by rw [← hE]; exact (src_any kind code rest addr port oa l c xs w1 hl8 hb haddr).mono fun e w' hp => hp.bad (by rw [hE]; exact hE0))
    have HD1 := Lib.hid (fun w1 (hb : Bts w1 oa l c xs) => show Calls Try.prog 16 #[.agg #[.int .i64 kind, .int .i64 code, .int .u32 rest, .slice oa l c], .int .u32 addr, .int .i64 port] w1 fun e w' => Junk w1 w' ∧ e = .returned (.tuple #[.agg #[.int .i64 0, .int .i64 0, .int .u32 0, .slice none 0 0], .int .i64 E]) by rw [← hE]; exact (dst_any kind code rest addr port oa l c xs w1 hl8 hb haddr).mono fun e w' hp => hp.bad (by rw [hE]; exact hE0))
    have hne : (E != 0) = true := by simpa using hE0
    clear hn hE h0 hE0 hB
    go_enter Try.func5, Try.ntmps5
    go_wp2_with (first | (go_at_call 10; refine (awake26_any _).mono ?_; rintro e w' ⟨rfl, ⟨osj, dj, rfl⟩⟩) | (go_at_call 13; (with_reducible refine (HS1.out _ (HB.out.on (by (first | ((repeat (first | with_reducible exact Junk.refl _ | with_reducible exact Junk.app _ _ _ _ _ | with_reducible apply Junk.alloc | with_reducible apply Junk.junk | with_reducible apply Junk.drew | with_reducible apply Junk.drewN)); done) | ((try simp only [World.junk_junk, Array.append_assoc]); (repeat (first | with_reducible exact Junk.refl _ | with_reducible exact Junk.app _ _ _ _ _ | with_reducible exact Junk.app2 _ _ _ _ _ _ | with_reducible exact Junk.app3 _ _ _ _ _ _ _ | with_reducible exact Junk.app4 _ _ _ _ _ _ _ _ | with_reducible exact Junk.app5 _ _ _ _ _ _ _ _ _ | with_reducible apply Junk.alloc | with_reducible apply Junk.junk | with_reducible apply Junk.drew | with_reducible apply Junk.drewN))))))).mono ?_); rintro e w' ⟨⟨os1, d1, rfl⟩, rfl⟩) | (go_at_call 16; (with_reducible refine (HD1.out _ (HB.out.on (by (first | ((repeat (first | with_reducible exact Junk.refl _ | with_reducible exact Junk.app _ _ _ _ _ | with_reducible apply Junk.alloc | with_reducible apply Junk.junk | with_reducible apply Junk.drew | with_reducible apply Junk.drewN)); done) | ((try simp only [World.junk_junk, Array.append_assoc]); (repeat (first | with_reducible exact Junk.refl _ | with_reducible exact Junk.app _ _ _ _ _ | with_reducible exact Junk.app2 _ _ _ _ _ _ | with_reducible exact Junk.app3 _ _ _ _ _ _ _ | with_reducible exact Junk.app4 _ _ _ _ _ _ _ _ | with_reducible exact Junk.app5 _ _ _ _ _ _ _ _ _ | with_reducible apply Junk.alloc | with_reducible apply Junk.junk | with_reducible apply Junk.drew | with_reducible apply Junk.drewN))))))).mono ?_); rintro e w' ⟨⟨os2, d2, rfl⟩, rfl⟩))
    all_goals (go_ret; exact ⟨ret_bool rfl, by (first | ((repeat (first | with_reducible exact Junk.refl _ | with_reducible exact Junk.app _ _ _ _ _ | with_reducible apply Junk.alloc | with_reducible apply Junk.junk | with_reducible apply Junk.drew | with_reducible apply Junk.drewN)); done) | ((try simp only [World.junk_junk, Array.append_assoc]); (repeat (first | with_reducible exact Junk.refl _ | with_reducible exact Junk.app _ _ _ _ _ | with_reducible exact Junk.app2 _ _ _ _ _ _ | with_reducible exact Junk.app3 _ _ _ _ _ _ _ | with_reducible exact Junk.app4 _ _ _ _ _ _ _ _ | with_reducible exact Junk.app5 _ _ _ _ _ _ _ _ _ | with_reducible apply Junk.alloc | with_reducible apply Junk.junk | with_reducible apply Junk.drew | with_reducible apply Junk.drewN))))⟩)
  · have hl1 : (3000 : Int) < (l : Int) := by omega
    clear hn hB
    go_enter Try.func5, Try.ntmps5
    go_wp2_with (first | (go_at_call 10; refine (awake26_any _).mono ?_; rintro e w' ⟨rfl, ⟨osj, dj, rfl⟩⟩))
    all_goals (go_ret; exact ⟨ret_bool rfl, by (first | ((repeat (first | with_reducible exact Junk.refl _ | with_reducible exact Junk.app _ _ _ _ _ | with_reducible apply Junk.alloc | with_reducible apply Junk.junk | with_reducible apply Junk.drew | with_reducible apply Junk.drewN)); done) | ((try simp only [World.junk_junk, Array.append_assoc]); (repeat (first | with_reducible exact Junk.refl _ | with_reducible exact Junk.app _ _ _ _ _ | with_reducible exact Junk.app2 _ _ _ _ _ _ | with_reducible exact Junk.app3 _ _ _ _ _ _ _ | with_reducible exact Junk.app4 _ _ _ _ _ _ _ _ | with_reducible exact Junk.app5 _ _ _ _ _ _ _ _ _ | with_reducible apply Junk.alloc | with_reducible apply Junk.junk | with_reducible apply Junk.drew | with_reducible apply Junk.drewN))))⟩)
theorem errorKeeps_walk (kind code rest addr port : Int) (oa : Option Addr) (l c : Nat) (xs : Nat → Int) (w : World) (hB : Bts w oa l c xs) (haddr : 0 ≤ addr ∧ addr ≤ 4294967295) (hp : 0 ≤ port ∧ port ≤ 65535) (dst : Bool) : Calls Try.prog 5 #[.agg #[.int .i64 kind, .int .i64 code, .int .u32 rest, .slice oa l c], .int .u32 addr, .int .u16 port, .bool dst] w fun e w' => e = .returned (.bool true) ∧ Junk w w' := by
  by_cases h : l ≤ 3000 ∧ nmErr kind xs l = 0
  · cases dst with
    | false => exact errorKeeps_S kind code rest addr port oa l c xs w hB haddr hp h.1 h.2
    | true => exact errorKeeps_D kind code rest addr port oa l c xs w hB haddr hp h.1 h.2
  · cases dst with
    | false => exact errorKeeps_badS kind code rest addr port oa l c xs w hB haddr hp h
    | true => exact errorKeeps_badD kind code rest addr port oa l c xs w hB haddr hp h

theorem errorKeeps_core (W : World) (base : Nat) (v0 v1 v2 v3 : Value) (a0 : Arg Try.prog W base 25 v0) (a1 : Arg Try.prog W base 22 v1) (a2 : Arg Try.prog W base 41 v2) (a3 : Arg Try.prog W base 4 v3) :
    Calls Try.prog 5 #[v0, v1, v2, v3] W fun e W' => e = .returned (.bool true) ∧ Junk W W' := by
  obtain ⟨cs_m, rfl, h_m⟩ := a0.struct Try.underlying25
  obtain ⟨hl_m, hf_m⟩ := h_m.fields1 Try.underlying25 (by kernel_rfl) (n := 4) (by kernel_rfl)
  obtain ⟨m_Type, lm0, e_m0⟩ : ∃ x l, cs_m = x :: l := by cases cs_m with | nil => simp at hl_m | cons x l => exact ⟨x, l, rfl⟩
  subst e_m0
  obtain ⟨m_Code, lm1, e_m1⟩ : ∃ x l, lm0 = x :: l := by cases lm0 with | nil => simp at hl_m | cons x l => exact ⟨x, l, rfl⟩
  subst e_m1
  obtain ⟨m_Rest, lm2, e_m2⟩ : ∃ x l, lm1 = x :: l := by cases lm1 with | nil => simp at hl_m | cons x l => exact ⟨x, l, rfl⟩
  subst e_m2
  obtain ⟨m_Body, lm3, e_m3⟩ : ∃ x l, lm2 = x :: l := by cases lm2 with | nil => simp at hl_m | cons x l => exact ⟨x, l, rfl⟩
  subst e_m3
  obtain rfl : lm3 = [] := by simpa using hl_m
  have f_m0 : Cells Try.prog W 3 [m_Type] := hf_m 0 _ rfl
  have f_m1 : Cells Try.prog W 3 [m_Code] := hf_m 1 _ rfl
  have f_m2 : Cells Try.prog W 22 [m_Rest] := hf_m 2 _ rfl
  have f_m3 : Cells Try.prog W 23 [m_Body] := hf_m 3 _ rfl
  clear hf_m hl_m
  obtain ⟨m_Type, e_m_Type, w_m_Type⟩ := f_m0.int Try.underlying3; cases e_m_Type
  obtain ⟨m_Code, e_m_Code, w_m_Code⟩ := f_m1.int Try.underlying3; cases e_m_Code
  obtain ⟨m_Rest, e_m_Rest, w_m_Rest⟩ := f_m2.int Try.underlying22; cases e_m_Rest
  obtain ⟨m_Body_a, m_Body_l, m_Body_c, m_Body, e_m_Body, lc_m_Body, cm_m_Body, S_m_Body, w_m_Body⟩ := f_m3.ints Try.underlying23 Try.underlying5 (by kernel_rfl); cases e_m_Body
  obtain ⟨addr, rfl, w_addr⟩ := a1.int Try.underlying22
  obtain ⟨port, rfl, w_port⟩ := a2.int Try.underlying41
  obtain ⟨dst, rfl⟩ := a3.bool Try.underlying4
  have hlm : maxLen = 9223372036854775807 := rfl
  exact errorKeeps_walk m_Type m_Code m_Rest addr port m_Body_a m_Body_l m_Body_c m_Body W ⟨S_m_Body, fun i hi => bounds_u8 (w_m_Body i hi), Cells.nil_slice Try.underlying23 f_m3, lc_m_Body, cm_m_Body⟩ (bounds_u32 w_addr) (bounds_u16 w_port) dst
set_option maxRecDepth 100000 in
theorem errorKeeps_lifted (os : Os) (started : os.Started) (H : Type) (enc : TypeId × Value → H) :
    ReturnsInHanded {} Try.checked os 5 .any (Rows.errorKeepsSpec.pre6 enc Try.prog Try.f5 Rows.errorKeepsRow.domain false) (Rows.errorKeepsSpec.post enc Try.prog Try.f5 false true false false) := by
  refine returnsInHanded_of_change (C := Try.checked) (by kernel_rfl) started (by kernel_rfl) Try.func5
    (ChangeSpec.witness6 (enc := enc) (C := Try.checked) false ⟨#[], #[.agg #[.int .i64 0, .int .i64 0, .int .u32 0, .slice none 0 0], .int .u32 0, .int .u16 0, .bool false], []⟩ 8 (by kernel_rfl) (by kernel_rfl) (by kernel_rfl) (by kernel_rfl)) ?_
  intro W base args ds gs before hval hW _ _
  obtain ⟨p, q, hA, _, _, _, _⟩ := id hW
  have hargs : Args Try.prog W base Try.f5.params.toList args.toList := args_of (fun j t v h1 h2 => hval j t v (by simpa using h1) (by simpa using h2)) hA
  rw [Try.params5] at hargs
  obtain ⟨v0, l0, e0, a0, r0⟩ := args_cons hargs
  obtain ⟨v1, l1, e1, a1, r1⟩ := args_cons r0
  obtain ⟨v2, l2, e2, a2, r2⟩ := args_cons r1
  obtain ⟨v3, l3, e3, a3, r3⟩ := args_cons r2
  have hn := args_nil r3
  have he : args = #[v0, v1, v2, v3] := by
    apply Array.ext'
    simp only [e0, e1, e2, e3, hn]
  subst he
  exact (errorKeeps_core W base v0 v1 v2 v3 a0 a1 a2 a3).mono fun e W' ⟨he, hj⟩ => ⟨_, he, post_true (tb := 4) (by kernel_rfl) (by kernel_rfl) rfl (by kernel_rfl) rfl hW (fun hg hl => by
    subst hg
    match ds, hl with
    | [_, _, _, _], _ => exact ⟨rfl, rfl, rfl⟩) hj⟩
theorem errorKeeps_holds : Rows.ErrorKeepsSaid :=
  OpenClaim.holds_of_wide 5 Try.f5 rfl rfl rfl rfl rfl rfl rfl ⟨rfl, rfl, rfl, rfl, rfl⟩ rfl rfl rfl rfl rfl (by kernel_rfl) Try.func5 (by kernel_rfl)
    (of_decide_eq_true (by kernel_rfl)) (by unfold Func.isWrapper; rw [if_neg (of_decide_eq_false (by kernel_rfl))]; exact ⟨rfl, rfl⟩)
    (fun os started H enc _ => errorKeeps_lifted os started H enc)

end Go.Proofs.Ytnefphinmjeacaa
