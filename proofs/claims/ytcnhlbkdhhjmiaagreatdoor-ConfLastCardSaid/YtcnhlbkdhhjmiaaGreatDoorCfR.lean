/- What is shown of a configuration is read as it was, whatever stood ahead of it; the last line of a kind counts. -/
import Derived.Test.YtcnhlbkdhhjmiaaGreatDoorCfQ
set_option linter.unusedVariables false
set_option maxRecDepth 100000
set_option linter.unusedSimpArgs false
namespace Go.Proofs.YtcnhlbkdhhjmiaaGreatDoor
open Go Go.Lib
/-- The bits of a net's mask, as 32 bits. -/
def maskI (b : Int) : Int := 4294967295 * 2 ^ (32 - b).toNat % 4294967296
def rtMay (r : Ro) : Bool := decide (0 ≤ r.bits ∧ r.bits ≤ 32 ∧ bits .andNot .u32 (r.net : Int) (maskI r.bits) = 0 ∧ 0 ≤ r.zone ∧ r.zone < 8 ∧ 68 ≤ r.mtu ∧ r.mtu ≤ 65535)
def rtSame (a b : Ro) : Bool := decide (a.net = b.net ∧ a.bits = b.bits)
def rtsP (l : List Ro) : Prop := l.length ≤ 64 ∧ ∀ (i : Nat) (r : Ro), l[i]? = some r → rtMay r = true ∧ ∀ (j : Nat) (x : Ro), j < i → l[j]? = some x → rtSame x r = false
def ruMay (r : Ru) : Bool := decide (-1 ≤ r.fr ∧ r.fr ≤ 7 ∧ -1 ≤ r.tt ∧ r.tt ≤ 7 ∧ 0 ≤ r.srcBits ∧ r.srcBits ≤ 32 ∧ 0 ≤ r.dstBits ∧ r.dstBits ≤ 32 ∧ 0 ≤ r.lo ∧ r.lo ≤ r.hi ∧ r.hi ≤ 65535 ∧ 0 ≤ r.proto ∧ r.proto ≤ 255 ∧ 1 ≤ r.action ∧ r.action ≤ 2)
def rusP (l : List Ru) : Prop := l.length ≤ 64 ∧ ∀ r ∈ l, ruMay r = true
def fwMay (lo hi : Int) (f : Fo) : Bool := decide ((f.proto = 6 ∨ (f.proto = 17 ∧ f.proxy = false)) ∧ 1 ≤ f.port ∧ f.port ≤ 65535 ∧ 1 ≤ f.tt ∧ f.tt ≤ 65535 ∧ ¬ (lo ≤ f.port ∧ f.port ≤ hi))
def fwSame (a b : Fo) : Bool := decide (a.proto = b.proto ∧ a.port = b.port)
def fwsP (lo hi : Int) (l : List Fo) : Prop := l.length ≤ 32 ∧ ∀ (i : Nat) (r : Fo), l[i]? = some r → fwMay lo hi r = true ∧ ∀ (j : Nat) (x : Fo), j < i → l[j]? = some x → fwSame x r = false
/-- Right configuration. -/
def rightC (c : Cf) : Prop :=
  rtsP c.routes ∧ rusP c.rules ∧ (0 ≤ c.outside ∧ c.outside ≤ 7) ∧ (1 ≤ c.lo ∧ c.lo ≤ c.hi ∧ c.hi ≤ 65535) ∧ fwsP c.lo c.hi c.fwds ∧
    (1 ≤ c.tcp ∧ c.tcp ≤ 1048576) ∧ (1 ≤ c.other ∧ c.other ≤ 1048576) ∧ (0 ≤ c.budget ∧ c.budget ≤ 1000)
/-- Addresses are of 32 bits. -/
def tyC (c : Cf) : Prop := (∀ r ∈ c.routes, r.net < 4294967296) ∧ (∀ r ∈ c.rules, r.src < 4294967296 ∧ r.dst < 4294967296) ∧ c.pub < 4294967296 ∧ ∀ f ∈ c.fwds, f.addr < 4294967296
def mkS (l : W8) : ByteArray := ⟨l.toArray⟩
theorem mkS_list (l : W8) : (mkS l).data.toList = l := rfl
theorem mkS_size (l : W8) : (mkS l).size = l.length := by simp [mkS, ByteArray.size]
theorem eq_mkS (s : ByteArray) : s = mkS s.data.toList := by
  apply ByteArray.ext
  simp [mkS]
theorem eq_mkSs : ∀ {L : List ByteArray} {M : List W8}, L.map (·.data.toList) = M → L = M.map mkS
  | [], M, h => by subst h; rfl
  | s :: t, M, h => by
    subst h
    rw [List.map_cons, List.map_cons, ← eq_mkS s]
    congr 1
    exact eq_mkSs rfl
def routeL (r : Ro) : List W8 := [wRoute, netT r.net r.bits, itoa r.zone, itoa r.mtu]
def actT (a : Int) : W8 := if a = 2 then wAllow else wDeny
def ruleL (r : Ru) : List W8 := [wRule, itoa r.fr, itoa r.tt, itoa r.proto, netT r.src r.srcBits, netT r.dst r.dstBits, itoa r.lo, itoa r.hi, actT r.action]
def outL (c : Cf) : List W8 := [wOutside, itoa c.outside]
def pubL (c : Cf) : List W8 := [wPublic, dotW c.pub, itoa c.lo, itoa c.hi]
def fwdL (f : Fo) : List W8 := [wForward, itoa f.proto, itoa f.port, dotW f.addr, itoa f.tt] ++ (if f.proxy then [wProxy] else [])
def lifeL (c : Cf) : List W8 := [wLife, itoa c.tcp, itoa c.other]
def budL (n : Int) : List W8 := [wBudget, itoa n]
def showL (c : Cf) : List (List W8) := c.routes.map routeL ++ (c.rules.map ruleL ++ ([outL c, pubL c] ++ (c.fwds.map fwdL ++ [lifeL c, budL c.budget])))
def lineT (l : List W8) : W8 := jn l ++ [10]
def showT (c : Cf) : W8 := (showL c).flatMap lineT
theorem words_line (l : List W8) (h : ∀ w ∈ l, Wd w) : wordsOfLine (mkS (jn l)) = l := by
  unfold wordsOfLine
  rw [fields_words _ (fun b hb => (jn_bytes l h b hb).2), mkS_list, words_jn l h]
theorem stepW_words (i : Nat) (k : W8) (l : List W8) (c : Cf) (hi : i < 512) (h : ∀ w ∈ k :: l, Wd w) (hn : lensW (k :: l) ≤ 256) (hk : k.head? ≠ some 35) : stepW i (mkS (jn (k :: l))) c = lineW c k l := by
  unfold stepW
  have hl := jn_len (k :: l)
  rw [if_neg (by rw [mkS_size]; omega), words_line _ h]
  simp only []
  rw [if_neg hk]
theorem wd_lit {w : W8} (h : (decide (w ≠ []) && w.all fun b => decide (32 < b.toNat ∧ b.toNat < 128)) = true) : Wd w := by
  rw [Bool.and_eq_true, decide_eq_true_eq, List.all_eq_true] at h
  exact ⟨h.1, fun b hb => by simpa using h.2 b hb⟩
theorem step_route (i : Nat) (r : Ro) (c : Cf) (hi : i < 512) (hr : rtMay r = true) (hn : r.net < 4294967296) : stepW i (mkS (jn (routeL r))) c = some { c with routes := c.routes ++ [r] } := by
  unfold rtMay at hr
  rw [decide_eq_true_eq] at hr
  obtain ⟨h1, h2, _, h3, h4, h5, h6⟩ := hr
  unfold routeL
  rw [stepW_words i wRoute _ c hi (by
      intro w hw
      simp only [List.mem_cons, List.mem_nil_iff, or_false] at hw
      rcases hw with rfl | rfl | rfl | rfl
      · exact wd_lit (by decide)
      · exact netT_wd _ _
      · exact itoa_wd _
      · exact itoa_wd _) (by
      have a1 := netT_len r.net r.bits hn ⟨h1, h2⟩
      have a2 := itoa_len r.zone 5 (by omega)
      have a3 := itoa_len r.mtu 5 (by omega)
      simp only [lensW, List.map_cons, List.map_nil, List.sum_cons, List.sum_nil, wRoute, List.length_cons, List.length_nil]
      omega) (by decide)]
  unfold lineW
  rw [if_pos rfl, if_pos (by rfl)]
  simp only [routeW, List.getD_cons_zero, List.getD_cons_succ]
  rw [netW_net _ _ hn (by omega), numW_itoa _ (by omega), numW_itoa _ (by omega)]
  rfl
theorem actW_act (a : Int) (h : 1 ≤ a ∧ a ≤ 2) : actW (actT a) = some a := by
  obtain rfl | rfl : a = 1 ∨ a = 2 := by omega
  · rfl
  · rfl
theorem actT_wd (a : Int) : Wd (actT a) := by
  unfold actT
  split
  · exact wd_lit (by decide)
  · exact wd_lit (by decide)
theorem actT_len (a : Int) : (actT a).length ≤ 5 := by
  unfold actT
  split
  · decide
  · decide
theorem step_rule (i : Nat) (r : Ru) (c : Cf) (hi : i < 512) (hr : ruMay r = true) (hn : r.src < 4294967296 ∧ r.dst < 4294967296) : stepW i (mkS (jn (ruleL r))) c = some { c with rules := c.rules ++ [r] } := by
  unfold ruMay at hr
  rw [decide_eq_true_eq] at hr
  obtain ⟨h1, h2, h3, h4, h5, h6, h7, h8, h9, h10, h11, h12, h13, h14, h15⟩ := hr
  unfold ruleL
  rw [stepW_words i wRule _ c hi (by
      intro w hw
      simp only [List.mem_cons, List.mem_nil_iff, or_false] at hw
      rcases hw with rfl | rfl | rfl | rfl | rfl | rfl | rfl | rfl | rfl
      · exact wd_lit (by decide)
      · exact itoa_wd _
      · exact itoa_wd _
      · exact itoa_wd _
      · exact netT_wd _ _
      · exact netT_wd _ _
      · exact itoa_wd _
      · exact itoa_wd _
      · exact actT_wd _) (by
      have a1 := netT_len r.src r.srcBits hn.1 ⟨h5, h6⟩
      have a2 := netT_len r.dst r.dstBits hn.2 ⟨h7, h8⟩
      have a3 := itoa_len r.fr 5 (by omega)
      have a4 := itoa_len r.tt 5 (by omega)
      have a5 := itoa_len r.proto 5 (by omega)
      have a6 := itoa_len r.lo 5 (by omega)
      have a7 := itoa_len r.hi 5 (by omega)
      have a8 := actT_len r.action
      simp only [lensW, List.map_cons, List.map_nil, List.sum_cons, List.sum_nil, wRule, List.length_cons, List.length_nil]
      omega) (by decide)]
  unfold lineW
  rw [if_neg (by decide), if_pos rfl, if_pos (by rfl)]
  simp only [ruleW, List.getD_cons_zero, List.getD_cons_succ]
  rw [netW_net _ _ hn.1 (by omega), netW_net _ _ hn.2 (by omega), numW_itoa _ (by omega), numW_itoa _ (by omega), numW_itoa _ (by omega), numW_itoa _ (by omega), numW_itoa _ (by omega), actW_act _ (by omega)]
  rfl
theorem step_out (i : Nat) (a c : Cf) (hi : i < 512) (h : 0 ≤ a.outside ∧ a.outside ≤ 7) : stepW i (mkS (jn (outL a))) c = some { c with outside := a.outside } := by
  unfold outL
  rw [stepW_words i wOutside _ c hi (by
      intro w hw
      simp only [List.mem_cons, List.mem_nil_iff, or_false] at hw
      rcases hw with rfl | rfl
      · exact wd_lit (by decide)
      · exact itoa_wd _) (by
      have a3 := itoa_len a.outside 5 (by omega)
      simp only [lensW, List.map_cons, List.map_nil, List.sum_cons, List.sum_nil, wOutside, List.length_cons, List.length_nil]
      omega) (by decide)]
  unfold lineW
  rw [if_neg (by decide), if_neg (by decide), if_pos rfl, if_pos (by rfl)]
  simp only [List.getD_cons_zero]
  rw [numW_itoa _ (by omega)]
  rfl
theorem step_pub (i : Nat) (a c : Cf) (hi : i < 512) (hp : a.pub < 4294967296) (h : 1 ≤ a.lo ∧ a.lo ≤ a.hi ∧ a.hi ≤ 65535) : stepW i (mkS (jn (pubL a))) c = some { c with pub := a.pub, lo := a.lo, hi := a.hi } := by
  unfold pubL
  rw [stepW_words i wPublic _ c hi (by
      intro w hw
      simp only [List.mem_cons, List.mem_nil_iff, or_false] at hw
      rcases hw with rfl | rfl | rfl | rfl
      · exact wd_lit (by decide)
      · exact dotW_wd _
      · exact itoa_wd _
      · exact itoa_wd _) (by
      have a2 := dotW_len a.pub hp
      have a3 := itoa_len a.lo 5 (by omega)
      have a4 := itoa_len a.hi 5 (by omega)
      simp only [lensW, List.map_cons, List.map_nil, List.sum_cons, List.sum_nil, wPublic, List.length_cons, List.length_nil]
      omega) (by decide)]
  unfold lineW
  rw [if_neg (by decide), if_neg (by decide), if_neg (by decide), if_pos rfl, if_pos (by rfl)]
  simp only [List.getD_cons_zero, List.getD_cons_succ]
  rw [addrW_dot _ hp, numW_itoa _ (by omega), numW_itoa _ (by omega)]
theorem step_fwd (i : Nat) (f : Fo) (c : Cf) (lo hi : Int) (hi' : i < 512) (hr : fwMay lo hi f = true) (hn : f.addr < 4294967296) : stepW i (mkS (jn (fwdL f))) c = some { c with fwds := c.fwds ++ [f] } := by
  unfold fwMay at hr
  rw [decide_eq_true_eq] at hr
  obtain ⟨h0, h1, h2, h3, h4, _⟩ := hr
  obtain ⟨pr, po, ad, tt, px⟩ := f
  simp only at h0 h1 h2 h3 h4 hn
  have a1 := dotW_len ad hn
  have a2 := itoa_len pr 5 (by omega)
  have a3 := itoa_len po 5 (by omega)
  have a4 := itoa_len tt 5 (by omega)
  cases px with
  | false =>
    show stepW i (mkS (jn [wForward, itoa pr, itoa po, dotW ad, itoa tt])) c = _
    rw [stepW_words i wForward _ c hi' (by
      intro w hw
      simp only [List.mem_cons, List.mem_nil_iff, or_false] at hw
      rcases hw with rfl | rfl | rfl | rfl | rfl
      · exact wd_lit (by decide)
      · exact itoa_wd _
      · exact itoa_wd _
      · exact dotW_wd _
      · exact itoa_wd _) (by
      simp only [lensW, List.map_cons, List.map_nil, List.sum_cons, List.sum_nil, wForward, List.length_cons, List.length_nil]
      omega) (by decide)]
    unfold lineW
    rw [if_neg (by decide), if_neg (by decide), if_neg (by decide), if_neg (by decide), if_pos rfl, if_pos (.inl rfl)]
    simp only [fwdW, List.getD_cons_zero, List.getD_cons_succ, List.getD_nil]
    rw [addrW_dot _ hn, numW_itoa _ (by omega), numW_itoa _ (by omega), numW_itoa _ (by omega)]
    rfl
  | true =>
    show stepW i (mkS (jn [wForward, itoa pr, itoa po, dotW ad, itoa tt, wProxy])) c = _
    rw [stepW_words i wForward _ c hi' (by
      intro w hw
      simp only [List.mem_cons, List.mem_nil_iff, or_false] at hw
      rcases hw with rfl | rfl | rfl | rfl | rfl | rfl
      · exact wd_lit (by decide)
      · exact itoa_wd _
      · exact itoa_wd _
      · exact dotW_wd _
      · exact itoa_wd _
      · exact wd_lit (by decide)) (by
      simp only [lensW, List.map_cons, List.map_nil, List.sum_cons, List.sum_nil, wForward, wProxy, List.length_cons, List.length_nil]
      omega) (by decide)]
    unfold lineW
    rw [if_neg (by decide), if_neg (by decide), if_neg (by decide), if_neg (by decide), if_pos rfl, if_pos (.inr ⟨rfl, rfl⟩)]
    simp only [fwdW, List.getD_cons_zero, List.getD_cons_succ, List.getD_nil]
    rw [addrW_dot _ hn, numW_itoa _ (by omega), numW_itoa _ (by omega), numW_itoa _ (by omega)]
    rfl
theorem step_life (i : Nat) (a c : Cf) (hi : i < 512) (h : (1 ≤ a.tcp ∧ a.tcp ≤ 1048576) ∧ (1 ≤ a.other ∧ a.other ≤ 1048576)) : stepW i (mkS (jn (lifeL a))) c = some { c with tcp := a.tcp, other := a.other } := by
  unfold lifeL
  rw [stepW_words i wLife _ c hi (by
      intro w hw
      simp only [List.mem_cons, List.mem_nil_iff, or_false] at hw
      rcases hw with rfl | rfl | rfl
      · exact wd_lit (by decide)
      · exact itoa_wd _
      · exact itoa_wd _) (by
      have a3 := itoa_len a.tcp 7 (by omega)
      have a4 := itoa_len a.other 7 (by omega)
      simp only [lensW, List.map_cons, List.map_nil, List.sum_cons, List.sum_nil, wLife, List.length_cons, List.length_nil]
      omega) (by decide)]
  unfold lineW
  rw [if_neg (by decide), if_neg (by decide), if_neg (by decide), if_neg (by decide), if_neg (by decide), if_pos rfl, if_pos (by rfl)]
  simp only [List.getD_cons_zero, List.getD_cons_succ]
  rw [numW_itoa _ (by omega), numW_itoa _ (by omega)]
theorem lineW_bud (c : Cf) (n : Int) (h : 0 ≤ n ∧ n ≤ 1000) : lineW c wBudget [itoa n] = some { c with budget := n } := by
  unfold lineW
  rw [if_neg (by decide), if_neg (by decide), if_neg (by decide), if_neg (by decide), if_neg (by decide), if_neg (by decide), if_pos rfl, if_pos (by rfl)]
  simp only [List.getD_cons_zero]
  rw [numW_itoa _ (by omega)]
  rfl
theorem step_bud (i : Nat) (n : Int) (c : Cf) (hi : i < 512) (h : 0 ≤ n ∧ n ≤ 1000) : stepW i (mkS (jn (budL n))) c = some { c with budget := n } := by
  unfold budL
  rw [stepW_words i wBudget _ c hi (by
      intro w hw
      simp only [List.mem_cons, List.mem_nil_iff, or_false] at hw
      rcases hw with rfl | rfl
      · exact wd_lit (by decide)
      · exact itoa_wd _) (by
      have a3 := itoa_len n 5 (by omega)
      simp only [lensW, List.map_cons, List.map_nil, List.sum_cons, List.sum_nil, wBudget, List.length_cons, List.length_nil]
      omega) (by decide)]
  exact lineW_bud c n h
theorem parse_routes : ∀ (l : List Ro) (i : Nat) (c : Cf), i + l.length ≤ 512 → (∀ r ∈ l, rtMay r = true ∧ r.net < 4294967296) → parseL i ((l.map routeL).map fun x => mkS (jn x)) c = some { c with routes := c.routes ++ l }
  | [], i, c, _, _ => by simp [parseL]
  | r :: t, i, c, hi, h => by
    rw [List.length_cons] at hi
    rw [List.map_cons, List.map_cons, parseL, step_route i r c (by omega) (h r (by simp)).1 (h r (by simp)).2, Option.bind_some, parse_routes t (i + 1) _ (by omega) (fun x hx => h x (by simp [hx]))]
    simp
theorem parse_rules : ∀ (l : List Ru) (i : Nat) (c : Cf), i + l.length ≤ 512 → (∀ r ∈ l, ruMay r = true ∧ r.src < 4294967296 ∧ r.dst < 4294967296) → parseL i ((l.map ruleL).map fun x => mkS (jn x)) c = some { c with rules := c.rules ++ l }
  | [], i, c, _, _ => by simp [parseL]
  | r :: t, i, c, hi, h => by
    rw [List.length_cons] at hi
    rw [List.map_cons, List.map_cons, parseL, step_rule i r c (by omega) (h r (by simp)).1 (h r (by simp)).2, Option.bind_some, parse_rules t (i + 1) _ (by omega) (fun x hx => h x (by simp [hx]))]
    simp
theorem parse_fwds (lo hi : Int) : ∀ (l : List Fo) (i : Nat) (c : Cf), i + l.length ≤ 512 → (∀ r ∈ l, fwMay lo hi r = true ∧ r.addr < 4294967296) → parseL i ((l.map fwdL).map fun x => mkS (jn x)) c = some { c with fwds := c.fwds ++ l }
  | [], i, c, _, _ => by simp [parseL]
  | r :: t, i, c, h0, h => by
    rw [List.length_cons] at h0
    rw [List.map_cons, List.map_cons, parseL, step_fwd i r c lo hi (by omega) (h r (by simp)).1 (h r (by simp)).2, Option.bind_some, parse_fwds lo hi t (i + 1) _ (by omega) (fun x hx => h x (by simp [hx]))]
    simp
/-- What is shown is read as it was, behind any lines that say nothing of routes, rules and forwards. -/
theorem parse_show (a c : Cf) (i : Nat) (hi : i ≤ 10) (hr : rightC a) (ht : tyC a) (h0 : c.routes = [] ∧ c.rules = [] ∧ c.fwds = []) : parseL i ((showL a).map fun x => mkS (jn x)) c = some a := by
  obtain ⟨⟨r1, r2⟩, ⟨r3, r4⟩, r5, r6, ⟨r7, r8⟩, r9, r10, r11⟩ := hr
  obtain ⟨t1, t2, t3, t4⟩ := ht
  have m1 : ∀ r ∈ a.routes, rtMay r = true ∧ r.net < 4294967296 := fun r hr => by
    obtain ⟨k, hk⟩ := List.mem_iff_getElem?.1 hr
    exact ⟨(r2 k r hk).1, t1 r hr⟩
  have m2 : ∀ r ∈ a.rules, ruMay r = true ∧ r.src < 4294967296 ∧ r.dst < 4294967296 := fun r hr => ⟨r4 r hr, t2 r hr⟩
  have m3 : ∀ r ∈ a.fwds, fwMay a.lo a.hi r = true ∧ r.addr < 4294967296 := fun r hr => by
    obtain ⟨k, hk⟩ := List.mem_iff_getElem?.1 hr
    exact ⟨(r8 k r hk).1, t4 r hr⟩
  unfold showL
  rw [List.map_append, parseL_app, parse_routes _ _ _ (by omega) m1, Option.bind_some, List.map_append, parseL_app, parse_rules _ _ _ (by simp; omega) m2, Option.bind_some]
  simp only [List.length_map]
  rw [List.map_append, parseL_app, List.map_cons, List.map_cons, List.map_nil, parseL, step_out _ a _ (by omega) r5, Option.bind_some, parseL, step_pub _ a _ (by omega) t3 r6, Option.bind_some, parseL, Option.bind_some]
  simp only [List.length_cons, List.length_nil]
  rw [List.map_append, parseL_app, parse_fwds a.lo a.hi _ _ _ (by omega) m3, Option.bind_some]
  simp only [List.length_map]
  rw [List.map_cons, List.map_cons, List.map_nil, parseL, step_life _ a _ (by omega) ⟨r9, r10⟩, Option.bind_some, parseL, step_bud _ a.budget _ (by omega) r11, Option.bind_some, parseL]
  obtain ⟨x1, x2, x3, x4, x5, x6, x7, x8, x9, x10⟩ := c
  obtain ⟨rfl, rfl, rfl⟩ := h0
  rfl
end Go.Proofs.YtcnhlbkdhhjmiaaGreatDoor
