/- tuple.raw, bytes.Compare, Less, Hash. -/
import Derived.Test.YtjmofjcloebgmaaTupB
import Derived.Test.YtjmofjcloebgmaaMix3
import Derived.Test.YtjmofjcloebgmaaMix
set_option linter.unusedVariables false
set_option maxRecDepth 100000
set_option linter.unusedSimpArgs false
namespace Go.Proofs.Ytjmofjcloebgmaa
open Go.RowKit
structure TupW (t : Tup) : Prop extends TupWf t where
  sport : -9223372036854775808 ≤ t.sport ∧ t.sport ≤ 9223372036854775807
  dport : -9223372036854775808 ≤ t.dport ∧ t.dport ≤ 9223372036854775807
set_option maxHeartbeats 1000000 in
theorem tup_raw_any (t : Tup) (w : World) (h : TupW t) : Calls Try.prog 72 #[.agg #[.int .i64 t.proto, .int .u32 t.src, .int .i64 t.sport, .int .u32 t.dst, .int .i64 t.dport]] w (GrewM w 13 ((tupRaw t).map (Value.int .u8))) := by
  have q0 : IntKind.u8.wrap t.proto = t.proto % 256 := IntKind.wrap_u8 _
  go_enter Try.func72, Try.ntmps72
  go_wp2
  refine wp_region_mixj (w.alloc (.cells #[.int .i64 t.proto, .int .u32 t.src, .int .i64 t.sport, .int .u32 t.dst, .int .i64 t.dport] 58)) [(0, true), (1, true), (2, true), (4, true), (5, true), (6, true), (7, true), (9, true), (10, true), (11, true), (12, true), (3, false), (8, false), (13, false), (14, true)] (by kernel_rfl) (by kernel_rfl) (by (repeat (first | with_reducible exact Junk.refl _ | with_reducible exact Junk.app _ _ _ _ _ | with_reducible apply Junk.alloc | with_reducible apply Junk.junk | with_reducible apply Junk.drew | with_reducible apply Junk.drewN))) ?_; (iterate 11 (refine wpMix_q rfl (fun K hK => ?_); (go_simp; try go_bits); (refine hK _ ?_; clear hK K))); refine wpMix_e rfl (fun osm1_0 dm1_0 K hK => ?_); (go_simp; try go_bits); refine hK _ _ (Junk.pair (by (repeat (first | with_reducible exact Junk.refl _ | with_reducible exact Junk.app _ _ _ _ _ | with_reducible apply Junk.alloc | with_reducible apply Junk.junk | with_reducible apply Junk.drew | with_reducible apply Junk.drewN | (with_reducible refine Junk.setCell ?_ (by simp) _))))) ?_; clear hK K; refine wpMix_e rfl (fun osm1_1 dm1_1 K hK => ?_); (go_simp; try go_bits); (go_at_call 92; refine (tup_side_any (w.alloc (.cells #[.int .i64 t.proto, .int .u32 t.src, .int .i64 t.sport, .int .u32 t.dst, .int .i64 t.dport] 58)) _ _ 1 1 [.int .u8 (t.proto % 256)] t.src t.sport h.src h.sport (by omega) (by ((try simp only [World.junk_junk, Array.append_assoc]); (repeat (first | with_reducible exact Junk.refl _ | with_reducible exact Junk.app _ _ _ _ _ | with_reducible exact Junk.app2 _ _ _ _ _ _ | with_reducible exact Junk.app3 _ _ _ _ _ _ _ | with_reducible exact Junk.app4 _ _ _ _ _ _ _ _ | with_reducible exact Junk.app5 _ _ _ _ _ _ _ _ _ | with_reducible apply Junk.alloc | with_reducible apply Junk.junk | with_reducible apply Junk.drew | with_reducible apply Junk.drewN)))) (by first | exact own_lit _ _ _ _ _ (by simp) (by simp) rfl (by decide) | exact own_lit' _ _ (by simp) (by simp) rfl (by decide))).mono ?_; rintro e w' ⟨o1, c1, rfl, ⟨osj1, dj1, rfl⟩, hown1⟩; have Hown1 := Lib.hid hown1; clear hown1); refine hK _ _ (Junk.pair (by (repeat (first | with_reducible exact Junk.refl _ | with_reducible exact Junk.app _ _ _ _ _ | with_reducible apply Junk.alloc | with_reducible apply Junk.junk | with_reducible apply Junk.drew | with_reducible apply Junk.drewN | (with_reducible refine Junk.setCell ?_ (by simp) _))))) ?_; clear hK K; refine wpMix_e rfl (fun osm1_2 dm1_2 K hK => ?_); (go_simp; try go_bits); (go_at_call 92; refine (tup_side_any (w.alloc (.cells #[.int .i64 t.proto, .int .u32 t.src, .int .i64 t.sport, .int .u32 t.dst, .int .i64 t.dport] 58)) _ _ _ 7 _ t.dst t.dport h.dst h.dport (by omega) (by ((try simp only [World.junk_junk, Array.append_assoc]); (repeat (first | with_reducible exact Junk.refl _ | with_reducible exact Junk.app _ _ _ _ _ | with_reducible exact Junk.app2 _ _ _ _ _ _ | with_reducible exact Junk.app3 _ _ _ _ _ _ _ | with_reducible exact Junk.app4 _ _ _ _ _ _ _ _ | with_reducible exact Junk.app5 _ _ _ _ _ _ _ _ _ | with_reducible apply Junk.alloc | with_reducible apply Junk.junk | with_reducible apply Junk.drew | with_reducible apply Junk.drewN)))) (Hown1.out.on (by ((try simp only [World.junk_junk, Array.append_assoc]); (repeat (first | with_reducible exact Junk.refl _ | with_reducible exact Junk.app _ _ _ _ _ | with_reducible exact Junk.app2 _ _ _ _ _ _ | with_reducible exact Junk.app3 _ _ _ _ _ _ _ | with_reducible exact Junk.app4 _ _ _ _ _ _ _ _ | with_reducible exact Junk.app5 _ _ _ _ _ _ _ _ _ | with_reducible apply Junk.alloc | with_reducible apply Junk.junk | with_reducible apply Junk.drew | with_reducible apply Junk.drewN)))))).mono ?_; rintro e w' ⟨o2, c2, rfl, ⟨osj2, dj2, rfl⟩, hown2⟩; have Hown2 := Lib.hid hown2; clear hown2); refine hK _ _ (Junk.pair (by (repeat (first | with_reducible exact Junk.refl _ | with_reducible exact Junk.app _ _ _ _ _ | with_reducible apply Junk.alloc | with_reducible apply Junk.junk | with_reducible apply Junk.drew | with_reducible apply Junk.drewN | (with_reducible refine Junk.setCell ?_ (by simp) _))))) ?_; clear hK K; (iterate 1 (refine wpMix_q rfl (fun K hK => ?_); (go_simp; try go_bits); (refine hK _ ?_; clear hK K))); refine wpMix_nil (fun osm dm => ?_)
  go_wp2
  go_ret
  exact ⟨o2, c2, rfl, by ((try simp only [World.junk_junk, Array.append_assoc]); (repeat (first | with_reducible exact Junk.refl _ | with_reducible exact Junk.app _ _ _ _ _ | with_reducible exact Junk.app2 _ _ _ _ _ _ | with_reducible exact Junk.app3 _ _ _ _ _ _ _ | with_reducible exact Junk.app4 _ _ _ _ _ _ _ _ | with_reducible exact Junk.app5 _ _ _ _ _ _ _ _ _ | with_reducible apply Junk.alloc | with_reducible apply Junk.junk | with_reducible apply Junk.drew | with_reducible apply Junk.drewN))), (Hown2.out.lower (by simp)).on (by ((try simp only [World.junk_junk, Array.append_assoc]); (repeat (first | with_reducible exact Junk.refl _ | with_reducible exact Junk.app _ _ _ _ _ | with_reducible exact Junk.app2 _ _ _ _ _ _ | with_reducible exact Junk.app3 _ _ _ _ _ _ _ | with_reducible exact Junk.app4 _ _ _ _ _ _ _ _ | with_reducible exact Junk.app5 _ _ _ _ _ _ _ _ _ | with_reducible apply Junk.alloc | with_reducible apply Junk.junk | with_reducible apply Junk.drew | with_reducible apply Junk.drewN))))⟩
theorem run_compareB {P : Program} (w : World) (b1 f1 b2 f2 n m c d : Nat) (xs ys : List Int) (hx : xs.length = n) (hy : ys.length = m)
    (h1 : ∀ j x, xs[j]? = some x → w.cell? ⟨b1, f1 + j, none⟩ = some (.int .u8 x)) (h2 : ∀ j x, ys[j]? = some x → w.cell? ⟨b2, f2 + j, none⟩ = some (.int .u8 x)) :
    (Extern.BytealgCompare.compare #[.slice (some ⟨b1, f1, none⟩) n c, .slice (some ⟨b2, f2, none⟩) m d]).run P w = .ok (.int .i64 (Lib.compareBytes (Lib.bytesOf xs) (Lib.bytesOf ys))) w := by
  have l1 := Lib.run_loadBytesX (P := P) w xs ⟨b1, f1, none⟩ .empty (fun j x hj => by rw [Addr.add_lit]; exact h1 j x hj)
  have l2 := Lib.run_loadBytesX (P := P) w ys ⟨b2, f2, none⟩ .empty (fun j x hj => by rw [Addr.add_lit]; exact h2 j x hj)
  rw [hx] at l1
  rw [hy] at l2
  change Sem.run P (do pure (goInt (Extern.BytealgCompare.cmp (← Extern.Bytes.bytesOf (.slice (some ⟨b1, f1, none⟩) n c)) (← Extern.Bytes.bytesOf (.slice (some ⟨b2, f2, none⟩) m d))))) w = _
  simp only [Extern.Bytes.bytesOf, Sem.run_bind, Sem.run_pure, Result.andThen, l1, l2]
  rw [Lib.cmp_eq]
  have e : ∀ l : List UInt8, (⟨ByteArray.empty.data ++ l.toArray⟩ : ByteArray).data.toList = l := fun l => by
    show ((#[] : Array UInt8) ++ l.toArray).toList = l
    simp
  rw [e, e]
  rfl
theorem tup_bcompare_any (w : World) (b1 b2 n m c d : Nat) (xs ys : List Int) (hx : xs.length = n) (hy : ys.length = m)
    (h1 : ∀ j x, xs[j]? = some x → w.cell? ⟨b1, j, none⟩ = some (.int .u8 x)) (h2 : ∀ j x, ys[j]? = some x → w.cell? ⟨b2, j, none⟩ = some (.int .u8 x)) :
    Calls Try.prog 74 #[.slice (some ⟨b1, 0, none⟩) n c, .slice (some ⟨b2, 0, none⟩) m d] w fun e w' => e = .returned (.int .i64 (Lib.compareBytes (Lib.bytesOf xs) (Lib.bytesOf ys))) ∧ w = w' := by
  have H1 := Lib.hid h1
  have H2 := Lib.hid h2
  clear h1 h2
  go_enter Try.func74, Try.ntmps74
  go_wp2
  rw [run_callFunc_extern Try.func94 (by kernel_rfl) (by kernel_rfl) (by kernel_rfl) (e := Extern.BytealgCompare.compare) (by kernel_rfl), run_compareB w b1 0 b2 0 n m c d xs ys hx hy (by intro j x hj; rw [Nat.zero_add]; exact H1.out j x hj) (by intro j x hj; rw [Nat.zero_add]; exact H2.out j x hj)]
  simp only [Result.andThen]
  rw [Oper.upon_value]
  go_wp2
  go_ret
  exact ⟨rfl, rfl⟩
end Go.Proofs.Ytjmofjcloebgmaa
