/- What is read has addresses of 32 bits; how long what is shown is; the law's own fixed text. -/
import Derived.Test.YtcnhlbkdhhjmiaaGreatDoorCfS
set_option linter.unusedVariables false
set_option maxRecDepth 100000
set_option linter.unusedSimpArgs false
namespace Go.Proofs.YtcnhlbkdhhjmiaaGreatDoor
open Go Go.Lib
theorem byteW_lt {p : W8} {b : Nat} (h : byteW p = some b) : b < 256 := by
  unfold byteW at h
  split at h
  · split at h
    · cases h; omega
    · cases h
  · cases h
theorem addrW_lt {l : W8} {a : Nat} (h : addrW l = some a) : a < 4294967296 := by
  unfold addrW at h
  split at h
  · split at h
    · rename_i h1 h2 h3 h4
      have := byteW_lt h1
      have := byteW_lt h2
      have := byteW_lt h3
      have := byteW_lt h4
      cases h
      omega
    · cases h
  · cases h
theorem netW_lt {l : W8} {n : Nat × Int} (h : netW l = some n) : n.1 < 4294967296 := by
  unfold netW at h
  split at h
  · split at h
    · rename_i h1 _
      cases h
      exact addrW_lt h1
    · cases h
  · cases h
theorem line_ty {c c' : Cf} {k : W8} {l : List W8} (h : tyC c) (hl : lineW c k l = some c') : tyC c' := by
  obtain ⟨h1, h2, h3, h4⟩ := h
  unfold lineW at hl
  split at hl
  · split at hl
    · obtain ⟨x, hx, rfl⟩ := Option.map_eq_some_iff.1 hl
      refine ⟨fun r hr => ?_, h2, h3, h4⟩
      rcases List.mem_append.1 hr with hr | hr
      · exact h1 r hr
      · rw [List.mem_singleton] at hr
        subst hr
        unfold routeW at hx
        split at hx
        · rename_i g1 _ _
          cases hx
          exact netW_lt g1
        · cases hx
    · cases hl
  split at hl
  · split at hl
    · obtain ⟨x, hx, rfl⟩ := Option.map_eq_some_iff.1 hl
      refine ⟨h1, fun r hr => ?_, h3, h4⟩
      rcases List.mem_append.1 hr with hr | hr
      · exact h2 r hr
      · rw [List.mem_singleton] at hr
        subst hr
        unfold ruleW at hx
        split at hx
        · rename_i g1 g2 g3 g4 g5 g6 g7 g8
          cases hx
          exact ⟨netW_lt g4, netW_lt g5⟩
        · cases hx
    · cases hl
  split at hl
  · split at hl
    · obtain ⟨x, hx, rfl⟩ := Option.map_eq_some_iff.1 hl
      exact ⟨h1, h2, h3, h4⟩
    · cases hl
  split at hl
  · split at hl
    · split at hl
      · rename_i g1 _ _
        cases hl
        exact ⟨h1, h2, addrW_lt g1, h4⟩
      · cases hl
    · cases hl
  split at hl
  · split at hl
    · obtain ⟨x, hx, rfl⟩ := Option.map_eq_some_iff.1 hl
      refine ⟨h1, h2, h3, fun r hr => ?_⟩
      rcases List.mem_append.1 hr with hr | hr
      · exact h4 r hr
      · rw [List.mem_singleton] at hr
        subst hr
        unfold fwdW at hx
        split at hx
        · rename_i g1 g2 g3 g4
          cases hx
          exact addrW_lt g3
        · cases hx
    · cases hl
  split at hl
  · split at hl
    · split at hl
      · cases hl
        exact ⟨h1, h2, h3, h4⟩
      · cases hl
    · cases hl
  split at hl
  · split at hl
    · obtain ⟨x, hx, rfl⟩ := Option.map_eq_some_iff.1 hl
      exact ⟨h1, h2, h3, h4⟩
    · cases hl
  · cases hl
theorem parse_ty : ∀ (l : List ByteArray) (i : Nat) (c c' : Cf), tyC c → parseL i l c = some c' → tyC c'
  | [], _, c, c', h, hl => by cases hl; exact h
  | s :: t, i, c, c', h, hl => by
    rw [parseL] at hl
    cases hs : stepW i s c with
    | none => rw [hs] at hl; cases hl
    | some d =>
      rw [hs, Option.bind_some] at hl
      refine parse_ty t (i + 1) d c' ?_ hl
      unfold stepW at hs
      split at hs
      · cases hs
      · split at hs
        · cases hs; exact h
        · split at hs
          · cases hs; exact h
          · exact line_ty h hs
theorem reads_ty {s : ByteArray} {c : Cf} (h : readsT s = some c) : tyC c :=
  parse_ty _ _ _ _ ⟨fun r hr => (by cases hr), fun r hr => (by cases hr), (by decide), fun r hr => (by cases hr)⟩ h
/-- "route 10.0.0.0/8 1 1500", "forward 6 80 10.0.0.5 8080 proxy", "life 7 8". -/
def rt0 : Ro := ⟨167772160, 8, 1, 1500⟩
def fw0 : Fo := ⟨6, 80, 167772165, 8080, true⟩
def cfA : Cf := ⟨[rt0], [], 0, 0, 1024, 65535, [fw0], 7, 8, 10⟩
def txt0 : W8 := [114, 111, 117, 116, 101, 32, 49, 48, 46, 48, 46, 48, 46, 48, 47, 56, 32, 49, 32, 49, 53, 48, 48, 10, 102, 111, 114, 119, 97, 114, 100, 32, 54, 32, 56, 48, 32, 49, 48, 46, 48, 46, 48, 46, 53, 32, 56, 48, 56, 48, 32, 112, 114, 111, 120, 121, 10, 108, 105, 102, 101, 32, 55, 32, 56]
theorem route0 : jn (routeL rt0) = [114, 111, 117, 116, 101, 32, 49, 48, 46, 48, 46, 48, 46, 48, 47, 56, 32, 49, 32, 49, 53, 48, 48] := by
  simp [routeL, rt0, netT, dotW, jn, wRoute, itoa, decDigits]
theorem fwd0 : jn (fwdL fw0) = [102, 111, 114, 119, 97, 114, 100, 32, 54, 32, 56, 48, 32, 49, 48, 46, 48, 46, 48, 46, 53, 32, 56, 48, 56, 48, 32, 112, 114, 111, 120, 121] := by
  simp [fwdL, fw0, dotW, jn, wForward, wProxy, itoa, decDigits]
theorem life0 : jn (lifeL cfA) = [108, 105, 102, 101, 32, 55, 32, 56] := by
  simp [lifeL, cfA, jn, wLife, itoa, decDigits]
theorem cfA_right : rightC cfA := by
  refine ⟨⟨by decide, fun i r h => ?_⟩, ⟨by decide, fun r h => by cases h⟩, by decide, by decide, ⟨by decide, fun i r h => ?_⟩, by decide, by decide, by decide⟩
  · match i, h with
    | 0, h => cases h; exact ⟨by rfl, fun j x hj => absurd hj (Nat.not_lt_zero _)⟩
  · match i, h with
    | 0, h => cases h; exact ⟨by rfl, fun j x hj => absurd hj (Nat.not_lt_zero _)⟩
theorem reads0 : readsT (mkS txt0) = some cfA := by
  have e : txt0 = jn (routeL rt0) ++ 10 :: (jn (fwdL fw0) ++ 10 :: jn (lifeL cfA)) := by
    rw [route0, fwd0, life0]; rfl
  unfold readsT
  rw [lines_list, e, cutsL_some 10 _ [] _ (by rw [route0]; decide), cutsL_some 10 _ [] _ (by rw [fwd0]; decide), cutsL_none 10 _ [] (by rw [life0]; decide), List.map_cons, List.map_cons, List.map_cons, List.map_nil]
  simp only [List.nil_append, List.append_nil]
  rw [parseL, step_route 0 rt0 cf0 (by omega) rfl (by decide), Option.bind_some, parseL, step_fwd 1 fw0 _ 1024 65535 (by omega) rfl (by decide), Option.bind_some, parseL,
    step_life 2 cfA _ (by omega) (by decide), Option.bind_some, parseL]
  rfl
theorem show0 : 80 < (showT cfA).length := by
  have h1 : (lineT (routeL rt0)).length = 24 := by unfold lineT; rw [route0]; rfl
  have h2 : (lineT (fwdL fw0)).length = 33 := by unfold lineT; rw [fwd0]; rfl
  have h3 : (lineT (lifeL cfA)).length = 9 := by unfold lineT; rw [life0]; rfl
  have h4 : 24 ≤ (lineT (pubL cfA)).length := by
    simp [lineT, pubL, cfA, dotW, jn, wPublic, itoa, decDigits]
  unfold showT showL
  show 80 < ([lineT (routeL rt0), lineT (outL cfA), lineT (pubL cfA), lineT (fwdL fw0), lineT (lifeL cfA), lineT (budL 10)].flatten).length
  simp only [List.flatten_cons, List.length_append, List.flatten_nil, List.length_nil]
  omega
end Go.Proofs.YtcnhlbkdhhjmiaaGreatDoor
