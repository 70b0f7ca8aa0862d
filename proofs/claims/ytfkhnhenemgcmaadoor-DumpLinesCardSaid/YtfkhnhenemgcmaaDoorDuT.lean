/- Addresses' texts differ. -/
import Derived.Test.YtfkhnhenemgcmaaDoorDuS
set_option linter.unusedVariables false
set_option maxRecDepth 100000
set_option linter.unusedSimpArgs false
namespace Go.Proofs.YtfkhnhenemgcmaaDoor
open Go.RowKit
theorem toList_loop (s : ByteArray) : ∀ (n i : Nat) (r : List UInt8), s.size - i = n → ByteArray.toList.loop s i r = r.reverse ++ s.data.toList.drop i
  | 0, i, r, h => by
    unfold ByteArray.toList.loop
    rw [if_neg (by omega), List.drop_eq_nil_of_le (by rw [Array.length_toList]; show s.size ≤ i; omega), List.append_nil]
  | n + 1, i, r, h => by
    unfold ByteArray.toList.loop
    have hi : i < s.size := by omega
    rw [if_pos hi, toList_loop s n (i + 1) _ (by omega), List.reverse_cons, List.append_assoc]
    congr 1
    have hl : i < s.data.toList.length := by rw [Array.length_toList]; exact hi
    rw [List.drop_eq_getElem_cons hl]
    simp only [List.singleton_append, List.cons.injEq, and_true]
    rw [Array.getElem_toList]
    have hi2 : i < s.data.size := hi
    show s.get! i = s.data[i]
    simp only [ByteArray.get!]
    exact getElem!_pos s.data i hi2
theorem toList_data (s : ByteArray) : s.toList = s.data.toList := by
  unfold ByteArray.toList
  rw [toList_loop s _ 0 [] rfl]
  simp
theorem toList_inj {a b : ByteArray} (h : a.toList = b.toList) : a = b := by
  rw [toList_data, toList_data] at h
  exact ByteArray.ext (by cases a; cases b; simpa using h)
theorem split46 : ∀ {x1 x2 y1 y2 : List UInt8}, (46 : UInt8) ∉ x1 → (46 : UInt8) ∉ x2 → x1 ++ 46 :: y1 = x2 ++ 46 :: y2 → x1 = x2 ∧ y1 = y2
  | [], [], _, _, _, _, h => ⟨rfl, by simpa using h⟩
  | [], c :: x2, _, _, _, h2, h => by
    simp only [List.nil_append, List.cons_append, List.cons.injEq] at h
    exact absurd (by rw [← h.1]; simp) h2
  | c :: x1, [], _, _, h1, _, h => by
    simp only [List.nil_append, List.cons_append, List.cons.injEq] at h
    exact absurd (by rw [h.1]; simp) h1
  | c :: x1, d :: x2, _, _, h1, h2, h => by
    simp only [List.cons_append, List.cons.injEq] at h
    obtain ⟨ha, hb⟩ := split46 (fun hm => h1 (by simp [hm])) (fun hm => h2 (by simp [hm])) h.2
    exact ⟨by rw [h.1, ha], hb⟩
theorem dig_no46 : ∀ n, n < 256 → (46 : UInt8) ∉ Lib.decDigits n := by decide +kernel
theorem dig_val : ∀ n, n < 256 → (Lib.decDigits n).foldl (fun a d => a * 10 + (d.toNat - 48)) 0 = n := by decide +kernel
theorem itoa_byte {n : Int} (h : 0 ≤ n ∧ n ≤ 255) : (itoaS n).data.toList = Lib.decDigits n.toNat := by
  rw [itoaS_pos (by omega)]
  simp [digS]
theorem itoa_inj {n m : Int} (h : 0 ≤ n ∧ n ≤ 255) (g : 0 ≤ m ∧ m ≤ 255) (he : (itoaS n).data.toList = (itoaS m).data.toList) : n = m := by
  rw [itoa_byte h, itoa_byte g] at he
  have h1 := dig_val n.toNat (by omega)
  have h2 := dig_val m.toNat (by omega)
  rw [he, h2] at h1
  omega
theorem adrS_inj {a b : Int} (h : 0 ≤ a ∧ a ≤ 4294967295) (g : 0 ≤ b ∧ b ≤ 4294967295) (he : adrS a = adrS b) : a = b := by
  have hf : ∀ x, (adrS x).data.toList = (itoaS (x / 16777216)).data.toList ++ 46 :: ((itoaS (x / 65536 % 256)).data.toList ++ 46 :: ((itoaS (x / 256 % 256)).data.toList ++ 46 :: (itoaS (x % 256)).data.toList)) := fun x => by
    unfold adrS
    simp [ByteArray.data_append]
  have he : (adrS a).data.toList = (adrS b).data.toList := by rw [he]
  rw [hf, hf] at he
  have n0 : ∀ n : Int, 0 ≤ n ∧ n ≤ 255 → (46 : UInt8) ∉ (itoaS n).data.toList := fun n hn => by rw [itoa_byte hn]; exact dig_no46 _ (by omega)
  obtain ⟨e0, he⟩ := split46 (n0 _ (by omega)) (n0 _ (by omega)) he
  obtain ⟨e1, he⟩ := split46 (n0 _ (by omega)) (n0 _ (by omega)) he
  obtain ⟨e2, e3⟩ := split46 (n0 _ (by omega)) (n0 _ (by omega)) he
  have i0 := itoa_inj (by omega) (by omega) e0
  have i1 := itoa_inj (by omega) (by omega) e1
  have i2 := itoa_inj (by omega) (by omega) e2
  have i3 := itoa_inj (by omega) (by omega) e3
  omega
theorem adr_test {a b : Int} (h : 0 ≤ a ∧ a ≤ 4294967295) (g : 0 ≤ b ∧ b ≤ 4294967295) : ((adrS a).toList == (adrS b).toList) = (a == b) := by
  rw [Bool.eq_iff_iff, beq_iff_eq, beq_iff_eq]
  exact ⟨fun he => adrS_inj h g (toList_inj he), fun he => by rw [he]⟩
end Go.Proofs.YtfkhnhenemgcmaaDoor
