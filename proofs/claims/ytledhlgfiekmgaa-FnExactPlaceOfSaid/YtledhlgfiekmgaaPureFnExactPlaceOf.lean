/- The program's PlaceOf and the reference's come to one place: whatever the text and the offset. -/
import Derived.Test.YtledhlgfiekmgaaPFnExactPlaceOfx1
import Derived.Test.YtledhlgfiekmgaaKit
import Derived.Test.YtledhlgfiekmgaaKit
namespace Go.Proofs.Ytledhlgfiekmgaa.Pure
open Go.RowKit Go.Proofs.Ytledhlgfiekmgaa.PFnExactPlaceOf Go.Proofs.YtledhlgfiekmgaaW.PrintWords Go.Proofs.YtledhlgfiekmgaaW.PrintLast Go.Proofs.YtledhlgfiekmgaaW.PrintMore Go.Proofs.Ytledhlgfiekmgaa.Kit
set_option linter.unusedVariables false
theorem sIn (a b c : Int) : spec_l1In.f a b c = some (decide (b ≤ a ∧ a ≤ c)) := by
  unfold spec_l1In.f
  by_cases h : a ≥ b
  · rw [if_pos h]; congr 1; simp; omega
  · rw [if_neg h]; congr 1; simp; omega
theorem iWithin (a b c : Int) : impl_within.f a b c = some (decide (b ≤ a ∧ a ≤ c)) := by
  unfold impl_within.f
  by_cases h : a ≥ b
  · rw [if_pos h]; congr 1; simp; omega
  · rw [if_neg h]; congr 1; simp; omega
theorem bt_el (x : ByteArray) (k : Nat) (h : k < x.size) : bt x k = ((x.data.toList[k]'h).toNat : Int) := by
  unfold bt
  rw [dif_pos (by rw [Int.toNat_natCast]; exact h)]
  simp [ByteArray.getElem_eq_getElem_data]
theorem ten_iff (u : UInt8) : ((u.toNat : Int) = 10) ↔ u = 10 := by
  constructor
  · intro h
    apply UInt8.toNat_inj.1
    have : u.toNat = 10 := by omega
    rw [this]
    rfl
  · rintro rfl
    rfl
theorem occ_bt (x : ByteArray) (k : Nat) (h : k < x.size) : Lib.occAt x.data.toList [10] k = decide (bt x k = 10) := by
  unfold Lib.occAt
  rw [List.drop_eq_getElem_cons (i := k) (l := x.data.toList) h, bt_el x k h]
  simp only [List.isPrefixOf, Bool.and_true]
  rw [Bool.eq_iff_iff, beq_iff_eq, decide_eq_true_eq, ten_iff]
  exact eq_comm
theorem count_step (x : ByteArray) (k : Nat) (h : k < x.size) : (x.data.toList.take (k + 1)).count 10 = (x.data.toList.take k).count 10 + (if bt x k = 10 then 1 else 0) := by
  rw [← List.take_append_getElem (i := k) (l := x.data.toList) h, List.count_append, bt_el x k h]
  congr 1
  by_cases g : x.data.toList[k]'h = 10
  · rw [if_pos ((ten_iff _).2 g), g]
    rfl
  · rw [if_neg (fun q => g ((ten_iff _).1 q)), List.count_singleton, if_neg (by rw [beq_iff_eq]; exact g)]
/-- where the place is behind i bytes -/
def plM (x : ByteArray) (l c : Int) (i : Nat) : Int × Int :=
  if (x.data.toList.take i).count 10 = 0 then (l, c + i) else (l + ((x.data.toList.take i).count 10 : Nat), i - Lib.lastOcc x.data.toList [10] i)
theorem count_le (x : ByteArray) (i : Nat) : (x.data.toList.take i).count 10 ≤ i := Nat.le_trans (List.count_le_length) (by rw [List.length_take]; omega)
theorem last_rng (x : ByteArray) (i : Nat) : -1 ≤ Lib.lastOcc x.data.toList [10] i ∧ Lib.lastOcc x.data.toList [10] i < i := by
  rcases Lib.lastOcc_spec x.data.toList [10] i with ⟨h, _⟩ | ⟨j, h1, h2, _⟩
  · omega
  · omega
theorem sBehind_l (x : ByteArray) (hx : x.size ≤ 20000) (l c : Int) (l0 : 1 ≤ l) (l1 : l ≤ 1000000000000) (c0 : 1 ≤ c) (c1 : c ≤ 1000000000000) (d : Nat) : ∀ (k i : Nat), d < k → x.size - i = d → i ≤ x.size →
    spec_PlaceBehind.l0 k (plM x l c i).1 (plM x l c i).2 x (i : Int) = some (plM x l c x.size) := by
  induction d with
  | zero =>
    intro k i hk hd hi
    obtain ⟨k, rfl⟩ : ∃ m, k = m + 1 := ⟨k - 1, by omega⟩
    obtain rfl : i = x.size := by omega
    simp only [spec_PlaceBehind.l0]
    rw [if_neg (by omega)]
  | succ d ih =>
    intro k i hk hd hi
    obtain ⟨k, rfl⟩ : ∃ m, k = m + 1 := ⟨k - 1, by omega⟩
    have hlt : i < x.size := by omega
    have ih := ih k (i + 1) (by omega) (by omega) (by omega)
    have q1 := count_le x i
    have q2 := last_rng x i
    have q3 := count_step x i hlt
    have q4 := occ_bt x i hlt
    simp only [spec_PlaceBehind.l0]
    rw [if_pos (by omega), if_pos (by omega), nat_next (by omega)]
    by_cases hb : bt x i = 10
    · rw [if_pos hb]
      rw [decide_eq_true hb] at q4
      rw [if_pos hb] at q3
      have e : plM x l c (i + 1) = (wrap64 ((plM x l c i).1 + 1), 1) := by
        unfold plM
        rw [q3, if_neg (by omega), Lib.lastOcc_hit _ _ _ q4]
        by_cases hc : (x.data.toList.take i).count 10 = 0
        · rw [if_pos hc, w64 (by omega) (by omega), hc]
          congr 1
          omega
        · rw [if_neg hc, w64 (by simp only; omega) (by simp only; omega)]
          simp only
          congr 1
          · omega
          · omega
      rw [e] at ih
      exact ih
    · rw [if_neg hb]
      rw [decide_eq_false hb] at q4
      rw [if_neg hb] at q3
      have e : plM x l c (i + 1) = ((plM x l c i).1, wrap64 ((plM x l c i).2 + 1)) := by
        unfold plM
        rw [q3, Lib.lastOcc_miss _ _ _ q4]
        by_cases hc : (x.data.toList.take i).count 10 = 0
        · rw [if_pos (by omega), if_pos hc, w64 (by simp only; omega) (by simp only; omega)]
          simp only
          congr 1
          omega
        · rw [if_neg (by omega), if_neg hc, w64 (by simp only; omega) (by simp only; omega)]
          simp only
          congr 1
          omega
      rw [e] at ih
      exact ih
theorem iBehind (x : ByteArray) (hx : x.size ≤ 20000) (l c : Int) (l0 : 1 ≤ l) (l1 : l ≤ 1000000000000) (c0 : 1 ≤ c) (c1 : c ≤ 1000000000000) : impl_behind.f l c x = some (plM x l c x.size) := by
  have q1 := count_le x x.size
  have q2 := last_rng x x.size
  have et : x.data.toList.take x.size = x.data.toList := List.take_of_length_le (Nat.le_refl _)
  unfold impl_behind.f plM
  rw [et] at q1 ⊢
  unfold Lib.countByte
  rw [if_pos (by omega)]
  by_cases hc : x.data.toList.count 10 = 0
  · rw [if_pos (by omega), if_pos hc, w64 (by omega) (by omega)]
  · rw [if_neg (by omega), if_neg hc, w64 (by omega) (by omega)]
    have hl : 1 ≤ x.size := by omega
    have e : Lib.lastIndex x.data.toList [10] = Lib.lastOcc x.data.toList [10] x.size := by
      unfold Lib.lastIndex
      have z : x.data.toList.length = x.size := rfl
      rw [if_pos (by rw [z]; exact hl), z]
      congr 1
      simp
      omega
    rw [e, w64 (by omega) (by omega)]

theorem sPlaceBehind (x : ByteArray) (hx : x.size ≤ 20000) (k : Nat) (hk : 20010 ≤ k) : spec_PlaceBehind.f k 1 1 x = some (plM x 1 1 x.size) := by
  obtain ⟨k, rfl⟩ : ∃ m, k = m + 1 := ⟨k - 1, by omega⟩
  unfold spec_PlaceBehind.f
  rw [sIn]
  simp only [Option.bind_some, decide_eq_true_eq, spec_PlaceBehind.j0]
  rw [if_pos (by omega), if_pos (by omega), if_neg (by omega)]
  have e := sBehind_l x hx 1 1 (by omega) (by omega) (by omega) (by omega) x.size k 0 (by omega) (by omega) (by omega)
  have e0 : plM x 1 1 0 = (1, 1) := by unfold plM; simp
  rw [e0] at e
  exact e
theorem FnExactPlaceOf : laws_FnExactPlaceOf.Pure := by
  intro x p _ _
  refine ⟨20020, ?_⟩
  unfold laws_FnExactPlaceOf.f
  by_cases hw : (x.size : Int) > 1048576
  · rw [if_pos hw]
  rw [if_neg hw]
  unfold spec_PlaceOf.f impl_PlaceOf.f impl_length.f
  by_cases h1 : (x.size : Int) > 20000
  · rw [if_pos h1, if_pos h1]
    simp
  · simp only [Option.bind_some]
    rw [if_neg h1, if_neg h1, sIn, iWithin]
    simp only [Option.bind_some, decide_eq_true_eq]
    by_cases h2 : 0 ≤ p ∧ p ≤ (x.size : Int)
    · have z : (x.extract 0 p.toNat).size ≤ 20000 := by rw [ByteArray.size_extract]; omega
      rw [if_pos h2, if_pos h2, if_pos h2.1, if_pos h2.1, if_pos h2.2, if_pos h2.2, sPlaceBehind _ z _ (by omega), iBehind _ z 1 1 (by omega) (by omega) (by omega) (by omega)]
      simp
    · rw [if_neg h2, if_neg h2]
      simp
end Go.Proofs.Ytledhlgfiekmgaa.Pure
