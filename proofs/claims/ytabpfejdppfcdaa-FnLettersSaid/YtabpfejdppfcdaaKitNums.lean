/- A text as a list of numbers. -/
import Derived.Test.YtabpfejdppfcdaaKitUtf
import Derived.Laws.BytesArg
import Derived.Laws.BitsLemmas
namespace Go.Proofs.Ytabpfejdppfcdaa.Kit
open Go.RowKit Go.Proofs.YtabpfejdppfcdaaW.PrintWords Go.Proofs.YtabpfejdppfcdaaW.PrintLast Go.Proofs.YtabpfejdppfcdaaW.PrintMore

def nums (x : ByteArray) : List Int := x.data.toList.map fun u => (u.toNat : Int)
theorem nums_len (x : ByteArray) : (nums x).length = x.size := by
  unfold nums
  rw [List.length_map]
  rfl
theorem nums_bt (x : ByteArray) (i : Int) : bt x i = rd (nums x) i := by
  unfold bt rd nums
  by_cases h : i.toNat < x.size
  · rw [dif_pos h, List.getD_eq_getElem?_getD, List.getElem?_eq_getElem (by rw [List.length_map]; exact h)]
    simp [ByteArray.getElem_eq_getElem_data]
  · rw [dif_neg h, List.getD_eq_getElem?_getD, List.getElem?_eq_none (by rw [List.length_map]; exact Nat.le_of_not_lt h)]
    rfl
theorem nums_inj {a b : ByteArray} : a.toList = b.toList ↔ nums a = nums b := by
  constructor
  · intro h
    rw [ByteArray.toList_eq, ByteArray.toList_eq] at h
    unfold nums
    rw [h]
  · intro h
    rw [ByteArray.toList_eq, ByteArray.toList_eq]
    unfold nums at h
    refine List.map_inj_right (fun x y e => ?_) |>.1 h
    exact UInt8.toNat_inj.1 (by exact_mod_cast e)
theorem nums_of {l : List Int} (h : ∀ x ∈ l, 0 ≤ x ∧ x ≤ 255) : nums (strOfNums l) = l := by
  unfold nums
  rw [strOfNums_data, List.map_map]
  conv => rhs; rw [← List.map_id l]
  refine List.map_congr_left fun x hx => ?_
  have := h x hx
  simp
  omega
theorem nums_take (x : ByteArray) (s : Nat) : nums (x.extract 0 s) = (nums x).take s := by
  unfold nums
  rw [ByteArray.data_extract, Array.toList_extract, List.extract_eq_take_drop]
  simp [List.map_take]
theorem nums_drop (x : ByteArray) (s : Nat) : nums (x.extract s x.size) = (nums x).drop s := by
  unfold nums
  rw [ByteArray.data_extract, Array.toList_extract, List.extract_eq_take_drop]
  rw [List.take_of_length_le (by rw [List.length_drop]; exact Nat.le_refl _)]
  simp [List.map_drop]
theorem bt_part {x : ByteArray} {p : Nat} {i : Int} (h : 0 ≤ i) : bt (x.extract p x.size) i = bt x (p + i) := by
  rw [nums_bt, nums_bt, nums_drop]
  unfold rd
  rw [List.getD_eq_getElem?_getD, List.getD_eq_getElem?_getD, List.getElem?_drop]
  congr 2
  omega
theorem part_size {x : ByteArray} {p : Nat} : (x.extract p x.size).size = x.size - p := by
  rw [ByteArray.size_extract, Nat.min_self]

/-- how many bytes a letter has -/
def lenM (n : Int) : Nat := if n < 128 then 1 else if n < 2048 then 2 else if n < 65536 then 3 else 4
theorem lbM_len (n : Int) : (lbM n).length = lenM n := by
  unfold lbM lenM
  split
  · rfl
  · split
    · rfl
    · split <;> rfl
theorem lbM_rng {n : Int} (h : 0 ≤ n ∧ n ≤ 1114111) : ∀ x ∈ lbM n, 0 ≤ x ∧ x ≤ 255 := by
  unfold lbM
  split
  · simp; omega
  · split
    · simp; omega
    · split
      · simp; omega
      · simp; omega
/-- a letter's bytes, one by one -/
def lbOk (n b0 b1 b2 b3 : Int) : Prop :=
  (n < 128 → n = b0) ∧ (128 ≤ n → n < 2048 → 192 + n / 64 = b0 ∧ 128 + n % 64 = b1) ∧
    (2048 ≤ n → n < 65536 → 224 + n / 4096 = b0 ∧ 128 + n / 64 % 64 = b1 ∧ 128 + n % 64 = b2) ∧
    (65536 ≤ n → 240 + n / 262144 = b0 ∧ 128 + n / 4096 % 64 = b1 ∧ 128 + n / 64 % 64 = b2 ∧ 128 + n % 64 = b3)
instance (n b0 b1 b2 b3 : Int) : Decidable (lbOk n b0 b1 b2 b3) := by unfold lbOk; infer_instance
theorem lenM_spec (n : Int) : (n < 128 ∧ lenM n = 1) ∨ (128 ≤ n ∧ n < 2048 ∧ lenM n = 2) ∨ (2048 ≤ n ∧ n < 65536 ∧ lenM n = 3) ∨ (65536 ≤ n ∧ lenM n = 4) := by
  unfold lenM
  split
  · omega
  · split
    · omega
    · split <;> omega
theorem take_rd1 {L : List Int} (h : 1 ≤ L.length) : L.take 1 = [rd L 0] := by
  match L, h with
  | a :: _, _ => simp [rd]
theorem take_rd2 {L : List Int} (h : 2 ≤ L.length) : L.take 2 = [rd L 0, rd L 1] := by
  match L, h with
  | a :: b :: _, _ => simp [rd]
theorem take_rd3 {L : List Int} (h : 3 ≤ L.length) : L.take 3 = [rd L 0, rd L 1, rd L 2] := by
  match L, h with
  | a :: b :: c :: _, _ => simp [rd]
theorem take_rd4 {L : List Int} (h : 4 ≤ L.length) : L.take 4 = [rd L 0, rd L 1, rd L 2, rd L 3] := by
  match L, h with
  | a :: b :: c :: d :: _, _ => simp [rd]
theorem pre_iff {n : Int} {L : List Int} (h : lenM n ≤ L.length) : lbM n = L.take (lenM n) ↔ lbOk n (rd L 0) (rd L 1) (rd L 2) (rd L 3) := by
  unfold lbM lbOk
  unfold lenM at h ⊢
  by_cases h1 : n < 128
  · simp only [if_pos h1] at h ⊢
    rw [take_rd1 h]
    simp only [List.cons.injEq, and_true]
    omega
  · by_cases h2 : n < 2048
    · simp only [if_neg h1, if_pos h2] at h ⊢
      rw [take_rd2 h]
      simp only [List.cons.injEq, and_true]
      omega
    · by_cases h3 : n < 65536
      · simp only [if_neg h1, if_neg h2, if_pos h3] at h ⊢
        rw [take_rd3 h]
        simp only [List.cons.injEq, and_true]
        omega
      · simp only [if_neg h1, if_neg h2, if_neg h3] at h ⊢
        rw [take_rd4 h]
        simp only [List.cons.injEq, and_true]
        omega
theorem at_iff {n : Int} {L : List Int} {s : Nat} (h : s ≤ L.length) : lbM n = L.take s ↔ lenM n = s ∧ lbOk n (rd L 0) (rd L 1) (rd L 2) (rd L 3) := by
  constructor
  · intro e
    have l := lbM_len n
    rw [e, List.length_take, Nat.min_eq_left h] at l
    subst l
    exact ⟨rfl, (pre_iff h).1 e⟩
  · rintro ⟨rfl, g⟩
    exact (pre_iff h).2 g

end Go.Proofs.Ytabpfejdppfcdaa.Kit
