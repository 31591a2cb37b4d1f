/- A place comes back from its line and column, its line has it, and the lines with their line feeds are the text: whatever the code. -/
import Derived.Test.YtabpfejdppfcdaaPFnPlacesx3
import Derived.Test.YtabpfejdppfcdaaKit
import Derived.Test.YtabpfejdppfcdaaKitNums
import Derived.Test.YtabpfejdppfcdaaKitTot
import Derived.Test.YtabpfejdppfcdaaKitLines
import Derived.Test.YtabpfejdppfcdaaKitHash
namespace Go.Proofs.Ytabpfejdppfcdaa.Pure
open Go.RowKit Go.Proofs.Ytabpfejdppfcdaa.PFnPlaces Go.Proofs.YtabpfejdppfcdaaW.PrintWords Go.Proofs.YtabpfejdppfcdaaW.PrintLast Go.Proofs.YtabpfejdppfcdaaW.PrintMore Go.Proofs.Ytabpfejdppfcdaa.Kit
set_option linter.unusedVariables false
theorem sIn (a b c : Int) : spec_l1In.f a b c = some (decide (b ≤ a ∧ a ≤ c)) := by
  unfold spec_l1In.f
  by_cases h : a ≥ b
  · rw [if_pos h]; congr 1; simp; omega
  · rw [if_neg h]; congr 1; simp; omega
theorem iWithin (a b c : Int) : impl_within.f a b c = some (decide (b ≤ a ∧ a ≤ c)) := by
  unfold impl_within.f
  by_cases h : a ≥ b
  · rw [if_pos h]; congr 1; simp; omega
  · rw [if_neg h]; congr 1; simp; omega
theorem bt_el (x : ByteArray) (k : Nat) (h : k < x.size) : bt x k = ((x.data.toList[k]'h).toNat : Int) := by
  unfold bt
  rw [dif_pos (by rw [Int.toNat_natCast]; exact h)]
  simp [ByteArray.getElem_eq_getElem_data]
theorem ten_iff (u : UInt8) : ((u.toNat : Int) = 10) ↔ u = 10 := by
  constructor
  · intro h
    apply UInt8.toNat_inj.1
    have : u.toNat = 10 := by omega
    rw [this]
    rfl
  · rintro rfl
    rfl
theorem occ_bt (x : ByteArray) (k : Nat) (h : k < x.size) : Lib.occAt x.data.toList [10] k = decide (bt x k = 10) := by
  unfold Lib.occAt
  rw [List.drop_eq_getElem_cons (i := k) (l := x.data.toList) h, bt_el x k h]
  simp only [List.isPrefixOf, Bool.and_true]
  rw [Bool.eq_iff_iff, beq_iff_eq, decide_eq_true_eq, ten_iff]
  exact eq_comm
theorem count_step (x : ByteArray) (k : Nat) (h : k < x.size) : (x.data.toList.take (k + 1)).count 10 = (x.data.toList.take k).count 10 + (if bt x k = 10 then 1 else 0) := by
  rw [← List.take_append_getElem (i := k) (l := x.data.toList) h, List.count_append, bt_el x k h]
  congr 1
  by_cases g : x.data.toList[k]'h = 10
  · rw [if_pos ((ten_iff _).2 g), g]
    rfl
  · rw [if_neg (fun q => g ((ten_iff _).1 q)), List.count_singleton, if_neg (by rw [beq_iff_eq]; exact g)]
/-- where the place is behind i bytes -/
def plM (x : ByteArray) (l c : Int) (i : Nat) : Int × Int :=
  if (x.data.toList.take i).count 10 = 0 then (l, c + i) else (l + ((x.data.toList.take i).count 10 : Nat), i - Lib.lastOcc x.data.toList [10] i)
theorem count_le (x : ByteArray) (i : Nat) : (x.data.toList.take i).count 10 ≤ i := Nat.le_trans (List.count_le_length) (by rw [List.length_take]; omega)
theorem last_rng (x : ByteArray) (i : Nat) : -1 ≤ Lib.lastOcc x.data.toList [10] i ∧ Lib.lastOcc x.data.toList [10] i < i := by
  rcases Lib.lastOcc_spec x.data.toList [10] i with ⟨h, _⟩ | ⟨j, h1, h2, _⟩
  · omega
  · omega
theorem sBehind_l (x : ByteArray) (hx : x.size ≤ 20000) (l c : Int) (l0 : 1 ≤ l) (l1 : l ≤ 1000000000000) (c0 : 1 ≤ c) (c1 : c ≤ 1000000000000) (d : Nat) : ∀ (k i : Nat), d < k → x.size - i = d → i ≤ x.size →
    spec_PlaceBehind.l0 k (plM x l c i).1 (plM x l c i).2 x (i : Int) = some (plM x l c x.size) := by
  induction d with
  | zero =>
    intro k i hk hd hi
    obtain ⟨k, rfl⟩ : ∃ m, k = m + 1 := ⟨k - 1, by omega⟩
    obtain rfl : i = x.size := by omega
    simp only [spec_PlaceBehind.l0]
    rw [if_neg (by omega)]
  | succ d ih =>
    intro k i hk hd hi
    obtain ⟨k, rfl⟩ : ∃ m, k = m + 1 := ⟨k - 1, by omega⟩
    have hlt : i < x.size := by omega
    have ih := ih k (i + 1) (by omega) (by omega) (by omega)
    have q1 := count_le x i
    have q2 := last_rng x i
    have q3 := count_step x i hlt
    have q4 := occ_bt x i hlt
    simp only [spec_PlaceBehind.l0]
    rw [if_pos (by omega), if_pos (by omega), nat_next (by omega)]
    by_cases hb : bt x i = 10
    · rw [if_pos hb]
      rw [decide_eq_true hb] at q4
      rw [if_pos hb] at q3
      have e : plM x l c (i + 1) = (wrap64 ((plM x l c i).1 + 1), 1) := by
        unfold plM
        rw [q3, if_neg (by omega), Lib.lastOcc_hit _ _ _ q4]
        by_cases hc : (x.data.toList.take i).count 10 = 0
        · rw [if_pos hc, w64 (by omega) (by omega), hc]
          congr 1
          omega
        · rw [if_neg hc, w64 (by simp only; omega) (by simp only; omega)]
          simp only
          congr 1
          · omega
          · omega
      rw [e] at ih
      exact ih
    · rw [if_neg hb]
      rw [decide_eq_false hb] at q4
      rw [if_neg hb] at q3
      have e : plM x l c (i + 1) = ((plM x l c i).1, wrap64 ((plM x l c i).2 + 1)) := by
        unfold plM
        rw [q3, Lib.lastOcc_miss _ _ _ q4]
        by_cases hc : (x.data.toList.take i).count 10 = 0
        · rw [if_pos (by omega), if_pos hc, w64 (by simp only; omega) (by simp only; omega)]
          simp only
          congr 1
          omega
        · rw [if_neg (by omega), if_neg hc, w64 (by simp only; omega) (by simp only; omega)]
          simp only
          congr 1
          omega
      rw [e] at ih
      exact ih
theorem iBehind (x : ByteArray) (hx : x.size ≤ 20000) (l c : Int) (l0 : 1 ≤ l) (l1 : l ≤ 1000000000000) (c0 : 1 ≤ c) (c1 : c ≤ 1000000000000) : impl_behind.f l c x = some (plM x l c x.size) := by
  have q1 := count_le x x.size
  have q2 := last_rng x x.size
  have et : x.data.toList.take x.size = x.data.toList := List.take_of_length_le (Nat.le_refl _)
  unfold impl_behind.f plM
  rw [et] at q1 ⊢
  unfold Lib.countByte
  rw [if_pos (by omega)]
  by_cases hc : x.data.toList.count 10 = 0
  · rw [if_pos (by omega), if_pos hc, w64 (by omega) (by omega)]
  · rw [if_neg (by omega), if_neg hc, w64 (by omega) (by omega)]
    have hl : 1 ≤ x.size := by omega
    have e : Lib.lastIndex x.data.toList [10] = Lib.lastOcc x.data.toList [10] x.size := by
      unfold Lib.lastIndex
      have z : x.data.toList.length = x.size := rfl
      rw [if_pos (by rw [z]; exact hl), z]
      congr 1
      simp
      omega
    rw [e, w64 (by omega) (by omega)]
theorem sPlaceBehind (x : ByteArray) (hx : x.size ≤ 20000) (k : Nat) (hk : 20010 ≤ k) : spec_PlaceBehind.f k 1 1 x = some (plM x 1 1 x.size) := by
  obtain ⟨k, rfl⟩ : ∃ m, k = m + 1 := ⟨k - 1, by omega⟩
  unfold spec_PlaceBehind.f
  rw [sIn]
  simp only [Option.bind_some, decide_eq_true_eq, spec_PlaceBehind.j0]
  rw [if_pos (by omega), if_pos (by omega), if_neg (by omega)]
  have e := sBehind_l x hx 1 1 (by omega) (by omega) (by omega) (by omega) x.size k 0 (by omega) (by omega) (by omega)
  have e0 : plM x 1 1 0 = (1, 1) := by unfold plM; simp
  rw [e0] at e
  exact e
theorem plM_step (x : ByteArray) (l c : Int) (i : Nat) (hlt : i < x.size) : plM x l c (i + 1) = if bt x i = 10 then ((plM x l c i).1 + 1, 1) else ((plM x l c i).1, (plM x l c i).2 + 1) := by
  have q3 := count_step x i hlt
  have q4 := occ_bt x i hlt
  by_cases hb : bt x i = 10
  · rw [if_pos hb]
    rw [decide_eq_true hb] at q4
    rw [if_pos hb] at q3
    unfold plM
    rw [q3, if_neg (by omega), Lib.lastOcc_hit _ _ _ q4]
    by_cases hc : (x.data.toList.take i).count 10 = 0
    · rw [if_pos hc, hc]
      refine Prod.ext ?_ ?_ <;> simp only <;> omega
    · rw [if_neg hc]
      refine Prod.ext ?_ ?_ <;> simp only <;> omega
  · rw [if_neg hb]
    rw [decide_eq_false hb] at q4
    rw [if_neg hb] at q3
    unfold plM
    rw [q3, Lib.lastOcc_miss _ _ _ q4]
    by_cases hc : (x.data.toList.take i).count 10 = 0
    · rw [if_pos (by omega), if_pos hc]
      refine Prod.ext ?_ ?_ <;> simp only <;> omega
    · rw [if_neg (by omega), if_neg hc]
      refine Prod.ext ?_ ?_ <;> simp only <;> omega
theorem plM_zero (x : ByteArray) (l c : Int) : plM x l c 0 = (l, c) := by unfold plM; simp
theorem plM_pos (x : ByteArray) (l c : Int) (hl : 1 ≤ l) (hc : 1 ≤ c) : ∀ i, i ≤ x.size → 1 ≤ (plM x l c i).1 ∧ 1 ≤ (plM x l c i).2 ∧ (plM x l c i).1 ≤ l + i ∧ (plM x l c i).2 ≤ c + i
  | 0, _ => by rw [plM_zero]; simp only; omega
  | i + 1, h => by
    have ih := plM_pos x l c hl hc i (by omega)
    rw [plM_step x l c i (by omega)]
    split <;> simp only <;> omega
theorem bt_head {x : ByteArray} {p i : Nat} (h : i < p) (hp : p ≤ x.size) : bt (x.extract 0 p) i = bt x i := by
  rw [nums_bt, nums_bt, nums_take]
  unfold rd
  rw [List.getD_eq_getElem?_getD, List.getD_eq_getElem?_getD, List.getElem?_take, Int.toNat_natCast, if_pos h]
theorem head_size {x : ByteArray} {p : Nat} (hp : p ≤ x.size) : (x.extract 0 p).size = p := by
  rw [ByteArray.size_extract]; omega
theorem plM_head (x : ByteArray) (l c : Int) (p : Nat) (hp : p ≤ x.size) : ∀ i, i ≤ p → plM (x.extract 0 p) l c i = plM x l c i
  | 0, _ => by rw [plM_zero, plM_zero]
  | i + 1, h => by
    rw [plM_step _ l c i (by rw [head_size hp]; omega), plM_step x l c i (by omega), plM_head x l c p hp i (by omega), bt_head (by omega) hp]
theorem plM_tail (x : ByteArray) (l c : Int) (p : Nat) (hp : p ≤ x.size) : ∀ i, p + i ≤ x.size → plM (x.extract p x.size) (plM x l c p).1 (plM x l c p).2 i = plM x l c (p + i)
  | 0, _ => by rw [plM_zero]; rfl
  | i + 1, h => by
    rw [plM_step _ _ _ i (by rw [part_size]; omega), ← Nat.add_assoc, plM_step x l c (p + i) (by omega), plM_tail x l c p hp i (by omega), bt_part (by omega), show ((p : Int) + (i : Int)) = ((p + i : Nat) : Int) by omega]
theorem LsOk.zero : LsOk [0] 0 := ⟨by simp, by simp, fun j hj => by
    have : j = 0 := by simp at hj; omega
    subst this; simp, fun j hj => by simp at hj⟩

theorem iLineStarts_l (t : ByteArray) (ht : t.size ≤ 1048576) (d : Nat) : ∀ (k : Nat) (acc : List Int) (i : Int), d < k → 0 ≤ i → (t.size : Int) - i = d → LsOk acc i →
    impl_lineStarts.l0 k t acc (t.size : Int) i = some (lsLoop t d i acc) := by
  induction d with
  | zero =>
    intro k acc i hk h0 hd _
    obtain ⟨k, rfl⟩ : ∃ m, k = m + 1 := ⟨k - 1, by omega⟩
    simp only [impl_lineStarts.l0]
    rw [if_neg (by omega)]
    rfl
  | succ d ih =>
    intro k acc i hk h0 hd ha
    obtain ⟨k, rfl⟩ : ∃ m, k = m + 1 := ⟨k - 1, by omega⟩
    have hl := ha.len
    simp only [impl_lineStarts.l0]
    rw [if_pos (by omega), if_pos h0, if_pos (by omega), w64 (by omega) (by omega)]
    by_cases hb : bt t i = 10
    · rw [if_pos hb, if_pos (by omega), ih k _ _ (by omega) (by omega) (by omega) ha.snoc]
      simp only [lsLoop]; rw [if_pos hb]
    · rw [if_neg hb, ih k _ _ (by omega) (by omega) (by omega) (ha.more (by omega))]
      simp only [lsLoop]; rw [if_neg hb]

theorem iLineStarts (t : ByteArray) (ht : t.size ≤ 1048576) (k : Nat) (hk : t.size < k) : impl_LineStarts.f k t = some (if t.size > 20000 then [] else lsM t) := by
  unfold impl_LineStarts.f impl_lineStarts.f
  by_cases h : t.size > 20000
  · rw [if_pos (by omega), if_pos h]
  · rw [if_neg (by omega), if_neg h, iLineStarts_l t ht t.size k _ 0 hk (by omega) (by omega) LsOk.zero]
    rfl
/-- where a line lies: its first byte, and behind its last -/
def lineFrom (t : ByteArray) (a : Int) : Int := rd (lsM t) (a - 1)
def lineTo (t : ByteArray) (a : Int) : Int := if a < ((lsM t).length : Int) then rd (lsM t) a - 1 else t.size
/-- is there such a line? -/
def isLine (t : ByteArray) (a : Int) : Prop := t.size ≤ 20000 ∧ 1 ≤ a ∧ a ≤ ((lsM t).length : Int)
instance (t : ByteArray) (a : Int) : Decidable (isLine t a) := by unfold isLine; infer_instance

theorem line_rng (t : ByteArray) (a : Int) (h : isLine t a) : 0 ≤ lineFrom t a ∧ lineFrom t a ≤ lineTo t a ∧ lineTo t a ≤ t.size := by
  obtain ⟨_, h1, h2⟩ := h
  have r := lsM_rng t (j := a - 1) (by omega) (by omega)
  unfold lineFrom lineTo
  split
  · rename_i h3
    have i := lsM_inc t (j := a - 1) (by omega) (by omega)
    have r2 := lsM_rng t (j := a) (by omega) (by omega)
    rw [Int.sub_add_cancel] at i
    omega
  · omega

theorem iLineSpan (t : ByteArray) (ht : t.size ≤ 1048576) (a : Int) (ha : -9223372036854775808 ≤ a ∧ a ≤ 9223372036854775807) (k : Nat) (hk : t.size < k) :
    impl_lineSpan.f k t a = some (if isLine t a then (lineFrom t a, lineTo t a, true) else (0, 0, false)) := by
  have hlen := lsM_len t
  unfold impl_lineSpan.f impl_size_int64.f impl_length.f
  rw [iLineStarts t ht k hk]
  simp only [Option.bind_some, iWithin]
  by_cases h : t.size > 20000
  · rw [if_pos h, if_neg (by simp; omega), if_neg (by unfold isLine; omega)]
  · rw [if_neg h]
    by_cases g : isLine t a
    · have r := line_rng t a g
      rw [if_pos g]
      unfold isLine at g
      unfold lineFrom lineTo at r
      unfold lineFrom lineTo
      rw [if_pos (by simp; omega), w64 (x := a - 1) (by omega) (by omega)]
      by_cases g3 : a < ((lsM t).length : Int)
      · have r2 := lsM_rng t (j := a) (by omega) (by omega)
        rw [if_pos g3, if_neg (by omega), if_pos (by omega), if_pos (by omega), if_pos (by omega), if_pos (by omega), w64 (x := rd (lsM t) a - 1) (by omega) (by omega)]
      · rw [if_pos (show a = ((lsM t).length : Int) by omega), if_pos (by omega), if_pos (by omega)]
        simp only [if_neg g3]
    · rw [if_neg g]
      unfold isLine at g
      rw [if_neg (by simp; omega)]
/-- the starts that the first i bytes tell -/
def lsAt (t : ByteArray) : Nat → List Int
  | 0 => [0]
  | i + 1 => if bt t i = 10 then lsAt t i ++ [((i : Int) + 1)] else lsAt t i
theorem lsLoop_at (t : ByteArray) : ∀ (d i : Nat), lsLoop t d (i : Int) (lsAt t i) = lsAt t (i + d)
  | 0, i => rfl
  | d + 1, i => by
    have ih := lsLoop_at t d (i + 1)
    unfold lsLoop
    rw [show i + (d + 1) = i + 1 + d by omega, ← ih]
    congr 1
theorem lsM_at (t : ByteArray) : lsM t = lsAt t t.size := by
  have := lsLoop_at t t.size 0
  rw [Nat.zero_add] at this
  exact this
theorem lsAt_pos (t : ByteArray) : ∀ i, 0 < (lsAt t i).length
  | 0 => by simp [lsAt]
  | i + 1 => by
    have := lsAt_pos t i
    simp only [lsAt]
    split
    · rw [List.length_append]; omega
    · exact this
/-- what was told stays, and what comes is later -/
theorem lsAt_more (t : ByteArray) (i : Nat) : ∀ d, (lsAt t i).length ≤ (lsAt t (i + d)).length ∧ (∀ j, j < (lsAt t i).length → (lsAt t (i + d)).getD j 0 = (lsAt t i).getD j 0) ∧ (∀ j, (lsAt t i).length ≤ j → j < (lsAt t (i + d)).length → (i : Int) + 1 ≤ (lsAt t (i + d)).getD j 0)
  | 0 => ⟨Nat.le_refl _, fun j hj => rfl, fun j h1 h2 => by simp only [Nat.add_zero] at h2; omega⟩
  | d + 1 => by
    obtain ⟨h1, h2, h3⟩ := lsAt_more t i d
    rw [show i + (d + 1) = i + d + 1 by omega]
    simp only [lsAt]
    split
    · refine ⟨by rw [List.length_append]; omega, fun j hj => ?_, fun j g1 g2 => ?_⟩
      · rw [List.getD_eq_getElem?_getD, List.getElem?_append_left (by omega), ← List.getD_eq_getElem?_getD]
        exact h2 j hj
      · rw [List.length_append, List.length_singleton] at g2
        by_cases e : j < (lsAt t (i + d)).length
        · rw [List.getD_eq_getElem?_getD, List.getElem?_append_left e, ← List.getD_eq_getElem?_getD]
          exact h3 j g1 e
        · rw [List.getD_eq_getElem?_getD, List.getElem?_append_right (by omega), show j - (lsAt t (i + d)).length = 0 by omega]
          simp only [List.getElem?_cons_zero, Option.getD_some]
          omega
    · exact ⟨h1, h2, h3⟩
/-- a line feed stands ahead of each start but the first -/
theorem lsAt_feed (t : ByteArray) : ∀ (i j : Nat), 0 < j → j < (lsAt t i).length → 1 ≤ (lsAt t i).getD j 0 ∧ (lsAt t i).getD j 0 ≤ i ∧ bt t ((lsAt t i).getD j 0 - 1) = 10
  | 0, j, h0, h1 => by simp [lsAt] at h1; omega
  | i + 1, j, h0, h1 => by
    simp only [lsAt] at h1 ⊢
    split
    · rename_i hb
      rw [if_pos hb, List.length_append, List.length_singleton] at h1
      by_cases e : j < (lsAt t i).length
      · have := lsAt_feed t i j h0 e
        rw [List.getD_eq_getElem?_getD, List.getElem?_append_left e, ← List.getD_eq_getElem?_getD]
        exact ⟨this.1, by omega, this.2.2⟩
      · rw [List.getD_eq_getElem?_getD, List.getElem?_append_right (by omega), show j - (lsAt t i).length = 0 by omega]
        simp only [List.getElem?_cons_zero, Option.getD_some]
        exact ⟨by omega, by omega, by rw [show (i : Int) + 1 - 1 = i by omega]; exact hb⟩
    · rename_i hb
      rw [if_neg hb] at h1
      have := lsAt_feed t i j h0 h1
      exact ⟨this.1, by omega, this.2.2⟩
theorem lsAt_last (t : ByteArray) (i : Nat) (hi : i ≤ t.size) : plM t 1 1 i = (((lsAt t i).length : Int), (i : Int) - (lsAt t i).getD ((lsAt t i).length - 1) 0 + 1) ∧ 0 ≤ (lsAt t i).getD ((lsAt t i).length - 1) 0 ∧ (lsAt t i).getD ((lsAt t i).length - 1) 0 ≤ i := by
  induction i with
  | zero =>
    have e : lsAt t 0 = [0] := rfl
    rw [plM_zero, e]
    refine ⟨rfl, ?_, ?_⟩ <;> simp
  | succ i ih =>
    obtain ⟨h1, h2, h3⟩ := ih (by omega)
    rw [plM_step t 1 1 i (by omega), h1]
    simp only [lsAt]
    split
    · rw [List.length_append, List.length_singleton, Nat.add_sub_cancel, List.getD_eq_getElem?_getD, List.getElem?_append_right (Nat.le_refl _), Nat.sub_self]
      simp only [List.getElem?_cons_zero, Option.getD_some]
      refine ⟨Prod.ext ?_ ?_, ?_, ?_⟩ <;> (try simp only) <;> omega
    · refine ⟨Prod.ext ?_ ?_, ?_, ?_⟩ <;> (try simp only) <;> omega
theorem next_ok {b : List Int} {p : Int} (hb : Bytes b) (hp : At b p) : Tot (spec_l1Rd_next.f b p) (fun r => 0 ≤ r.1 ∧ r.1 ≤ 255 ∧ At b r.2) := by
  have hl := hb.len
  have h0 := hp.1
  have h1 := hp.2
  unfold spec_l1Rd_next.f
  by_cases h : p ≥ (b.length : Int)
  · rw [if_pos h]
    exact Tot.pure ⟨by simp, by simp, hp⟩
  · rw [if_neg h]
    have e : wrap64 (wrap64 (p + 1) - 1) = p := by
      rw [w64 (x := p + 1) (by omega) (by omega), w64 (by omega) (by omega)]
      omega
    rw [e, if_pos h0, if_pos (by omega)]
    have := hb.lo p
    have := hb.hi p
    rw [w64 (x := rd b p) (by omega) (by omega), w64 (x := p + 1) (by omega) (by omega)]
    exact Tot.pure ⟨hb.lo p, hb.hi p, by simp only; omega, by simp only; omega⟩
theorem below_ok {b : List Int} {p : Int} (n : Int) (hb : Bytes b) (hp : At b p) : Tot (spec_l1Rd_below.f b p n) (fun r => 0 ≤ r.1 ∧ (r.1 < n ∨ r.1 = 0) ∧ At b r.2) := by
  unfold spec_l1Rd_below.f
  by_cases h : n ≤ 1
  · rw [if_pos h]
    exact Tot.pure ⟨by simp, by simp, hp⟩
  · rw [if_neg h]
    by_cases h2 : n ≤ 256
    · rw [if_pos h2]
      refine (next_ok hb hp).bind fun v hv => ?_
      rw [if_neg (by omega)]
      obtain ⟨v0, v1, v2⟩ := hv
      have := Int.emod_nonneg v.1 (show n ≠ 0 by omega)
      have := Int.emod_lt_of_pos v.1 (show 0 < n by omega)
      exact Tot.pure ⟨by rw [tmod_pos v0]; omega, by rw [tmod_pos v0]; omega, v2⟩
    · rw [if_neg h2]
      refine (next_ok hb hp).bind fun v hv => ?_
      obtain ⟨v0, v1, v2⟩ := hv
      refine (next_ok hb v2).bind fun u hu => ?_
      obtain ⟨u0, u1, u2⟩ := hu
      rw [if_neg (by omega), w64 (x := v.1 * 256) (by omega) (by omega), w64 (x := v.1 * 256 + u.1) (by omega) (by omega)]
      have := Int.emod_nonneg (v.1 * 256 + u.1) (show n ≠ 0 by omega)
      have := Int.emod_lt_of_pos (v.1 * 256 + u.1) (show 0 < n by omega)
      exact Tot.pure ⟨by rw [tmod_pos (by omega)]; omega, by rw [tmod_pos (by omega)]; omega, u2⟩
theorem once_ok {b : List Int} {p : Int} (n : Int) (hb : Bytes b) (hp : At b p) : Tot (spec_l1Rd_once.f b p n) (fun r => At b r.2) := by
  unfold spec_l1Rd_once.f
  refine (below_ok n hb hp).bind fun v hv => ?_
  exact Tot.pure hv.2.2
theorem word_l {b : List Int} (hb : Bytes b) (d : Nat) : ∀ (k : Nat) (x i p : Int), d < k → 0 ≤ i → 8 - i = d → At b p → Tot (spec_l1Rd_word.l0 k x i b p) (fun r => At b r.2) := by
  induction d with
  | zero =>
    intro k x i p hk h0 hd hp
    obtain ⟨k, rfl⟩ : ∃ m, k = m + 1 := ⟨k - 1, by omega⟩
    simp only [spec_l1Rd_word.l0]
    rw [if_neg (by omega)]
    exact Tot.pure hp
  | succ d ih =>
    intro k x i p hk h0 hd hp
    obtain ⟨k, rfl⟩ : ∃ m, k = m + 1 := ⟨k - 1, by omega⟩
    simp only [spec_l1Rd_word.l0]
    rw [if_pos (by omega)]
    refine (next_ok hb hp).bind fun v hv => ?_
    rw [w64 (x := i + 1) (by omega) (by omega)]
    exact ih k _ (i + 1) _ (by omega) (by omega) (by omega) hv.2.2
theorem word_ok {b : List Int} {p : Int} {k : Nat} (hk : 10 ≤ k) (hb : Bytes b) (hp : At b p) : Tot (spec_l1Rd_word.f k b p) (fun r => At b r.2) := by
  unfold spec_l1Rd_word.f
  exact word_l hb 8 k 0 0 p (by omega) (by omega) (by omega) hp
theorem near_ok {b : List Int} {p : Int} {k : Nat} (lo hi : Int) (h : -4611686018427387904 ≤ lo) (h' : hi ≤ 4611686018427387902) (l' : lo ≤ 4611686018427387904) (g' : -4611686018427387904 ≤ hi) (hk : 10 ≤ k) (hb : Bytes b) (hp : At b p) : Tot (spec_l1Rd_near.f k b p lo hi) (fun r => i64 r.1 ∧ At b r.2) := by
  unfold spec_l1Rd_near.f
  refine (below_ok 8 hb hp).bind fun v hv => ?_
  refine Tot.ite (fun _ => Tot.pure ⟨⟨by simp only; omega, by simp only; omega⟩, hv.2.2⟩) (fun _ => ?_)
  refine Tot.ite (fun _ => Tot.pure ⟨⟨by simp only; omega, by simp only; omega⟩, hv.2.2⟩) (fun _ => ?_)
  refine Tot.ite (fun _ => Tot.pure ⟨⟨by simp only; omega, by simp only; omega⟩, hv.2.2⟩) (fun h3 => ?_)
  refine (word_ok hk hb hv.2.2).bind fun u hu => ?_
  rw [w64 (x := hi - lo) (by omega) (by omega), w64 (x := hi - lo + 1) (by omega) (by omega)]
  have e : IntKind.u64.wrap (hi - lo + 1) = hi - lo + 1 := by
    simp only [IntKind.wrap, IntKind.signed, IntKind.bits]
    first | omega | (simp; omega)
  rw [e, if_neg (by omega)]
  exact Tot.pure ⟨i64_wrap _, hu⟩
theorem off_ok {b : List Int} {p : Int} {k : Nat} (lo hi : Int) (h : -4611686018427387904 ≤ lo) (h' : hi ≤ 4611686018427387902) (l' : lo ≤ 4611686018427387904) (g' : -4611686018427387904 ≤ hi) (hk : 10 ≤ k) (hb : Bytes b) (hp : At b p) : Tot (spec_l1Rd_off.f k b p lo hi) (fun r => i64 r.1 ∧ At b r.2) := by
  unfold spec_l1Rd_off.f
  refine (once_ok 24 hb hp).bind fun v hv => ?_
  refine Tot.ite (fun _ => ?_) (fun _ => ?_)
  · simp only [Option.bind_some]
    refine (below_ok 4 hb hv).bind fun u hu => ?_
    obtain ⟨u0, u1, u2⟩ := hu
    refine Tot.yes u0 (Tot.yes (by simp only [List.length_cons, List.length_nil]; omega) (Tot.pure ⟨?_, u2⟩))
    have : u.1 = 0 ∨ u.1 = 1 ∨ u.1 = 2 ∨ u.1 = 3 := by omega
    rcases this with e | e | e | e <;> simp only [e, rd] <;> simp [i64] <;> first | done | exact i64_wrap _
  · refine (near_ok lo hi h h' l' g' hk hb hv).bind fun u hu => ?_
    exact Tot.pure hu
theorem size_ok {b : List Int} {p : Int} (per most : Int) (h0 : 1 ≤ per) (h1 : 1 ≤ most) (h2 : most ≤ 100000) (hb : Bytes b) (hp : At b p) : Tot (spec_l1Rd_size.f b p per most) (fun r => 1 ≤ r.1 ∧ r.1 ≤ most ∧ At b r.2) := by
  have hl := hb.len
  have e0 : 0 ≤ (b.length : Int) / per := Int.ediv_nonneg (by omega) (by omega)
  have e1 : (b.length : Int) / per ≤ b.length := Int.ediv_le_self _ (by omega)
  unfold spec_l1Rd_size.f
  rw [if_neg (by omega), w64 (x := (b.length : Int) / per) (by omega) (by omega), w64 (x := 1 + (b.length : Int) / per) (by omega) (by omega)]
  refine Tot.ite (fun h => ?_) (fun h => ?_)
  · refine (below_ok most hb hp).bind fun v hv => ?_
    obtain ⟨v0, v1, v2⟩ := hv
    rw [w64 (by omega) (by omega)]
    exact Tot.pure ⟨by simp only; omega, by simp only; omega, v2⟩
  · refine (below_ok (1 + (b.length : Int) / per) hb hp).bind fun v hv => ?_
    obtain ⟨v0, v1, v2⟩ := hv
    rw [w64 (by omega) (by omega)]
    exact Tot.pure ⟨by simp only; omega, by simp only; omega, v2⟩
theorem source_l1 {b : List Int} (hb : Bytes b) (d : Nat) : ∀ (k : Nat) (s : ByteArray) (p : Int), d < k → 20001 ≤ s.size + 100 * d → s.size ≤ 20101 → At b p → Tot (spec_l1Rd_source.l1 k s b p) (fun r => r.1.size ≤ 20101 ∧ At b r.2) := by
  induction d with
  | zero =>
    intro k s p hk h0 h1 hp
    obtain ⟨k, rfl⟩ : ∃ m, k = m + 1 := ⟨k - 1, by omega⟩
    simp only [spec_l1Rd_source.l1]
    refine (below_ok 2 hb hp).bind fun v hv => ?_
    obtain ⟨v0, v1, v2⟩ := hv
    rw [w64 (by omega) (by omega), if_neg (by omega)]
    exact Tot.pure ⟨h1, v2⟩
  | succ d ih =>
    intro k s p hk h0 h1 hp
    obtain ⟨k, rfl⟩ : ∃ m, k = m + 1 := ⟨k - 1, by omega⟩
    simp only [spec_l1Rd_source.l1]
    refine (below_ok 2 hb hp).bind fun v hv => ?_
    obtain ⟨v0, v1, v2⟩ := hv
    rw [w64 (by omega) (by omega)]
    refine Tot.ite (fun h => Tot.yes (by omega) ?_) (fun _ => Tot.pure ⟨h1, v2⟩)
    have e : ∀ t : ByteArray, t.size = 100 → (s ++ t).size = s.size + 100 := fun t ht => by rw [ByteArray.size_append, ht]
    exact ih k _ _ (by omega) (by rw [e _ rfl]; omega) (by rw [e _ rfl]; omega) v2
theorem source_l0 {b : List Int} (hb : Bytes b) (d : Nat) : ∀ (k : Nat) (s : ByteArray) (n p : Int), d + 300 < k → n = d → n ≤ 8 → s.size ≤ 5 * (8 - d) → At b p → Tot (spec_l1Rd_source.l0 k s n b p) (fun r => r.1.size ≤ 20101 ∧ At b r.2) := by
  induction d with
  | zero =>
    intro k s n p hk hn h1 hs hp
    obtain ⟨k, rfl⟩ : ∃ m, k = m + 1 := ⟨k - 1, by omega⟩
    simp only [spec_l1Rd_source.l0]
    rw [if_neg (by omega)]
    refine (once_ok 60 hb hp).bind fun v hv => ?_
    refine Tot.ite (fun _ => ?_) (fun _ => Tot.pure ⟨by simp only; omega, hv⟩)
    exact source_l1 hb 201 k s _ (by omega) (by omega) (by omega) hv
  | succ d ih =>
    intro k s n p hk hn h1 hs hp
    obtain ⟨k, rfl⟩ : ∃ m, k = m + 1 := ⟨k - 1, by omega⟩
    simp only [spec_l1Rd_source.l0, Option.bind_some]
    rw [if_pos (by omega)]
    refine (below_ok 5 hb hp).bind fun v hv => ?_
    obtain ⟨v0, v1, v2⟩ := hv
    have hz : (rdOf ByteArray.empty [(⟨#[]⟩ : ByteArray), (⟨#[97]⟩ : ByteArray), (⟨#[98, 99, 32]⟩ : ByteArray), (⟨#[105, 102, 32, 120]⟩ : ByteArray), (⟨#[32, 32, 121]⟩ : ByteArray)] v.1).size ≤ 4 := by
      have : v.1 = 0 ∨ v.1 = 1 ∨ v.1 = 2 ∨ v.1 = 3 ∨ v.1 = 4 := by omega
      rcases this with e | e | e | e | e <;> rw [e] <;> decide
    generalize rdOf ByteArray.empty [(⟨#[]⟩ : ByteArray), (⟨#[97]⟩ : ByteArray), (⟨#[98, 99, 32]⟩ : ByteArray), (⟨#[105, 102, 32, 120]⟩ : ByteArray), (⟨#[32, 32, 121]⟩ : ByteArray)] v.1 = y at hz ⊢
    have e1 : (s ++ y).size = s.size + y.size := ByteArray.size_append
    refine Tot.yes v0 (Tot.yes (by simp only [List.length_cons, List.length_nil]; omega) (Tot.yes (by omega) ?_))
    refine (once_ok 4 hb v2).bind fun u hu => ?_
    rw [w64 (by omega) (by omega)]
    refine Tot.ite (fun _ => ?_) (fun _ => Tot.yes (by omega) ?_)
    · exact ih k _ (n - 1) _ (by omega) (by omega) (by omega) (by omega) hu
    · refine ih k _ (n - 1) _ (by omega) (by omega) (by omega) ?_ hu
      have e2 : (s ++ y ++ (⟨#[10]⟩ : ByteArray)).size = s.size + y.size + 1 := by rw [ByteArray.size_append, e1]; rfl
      omega
theorem source_ok {b : List Int} {p : Int} {k : Nat} (hk : 400 ≤ k) (hb : Bytes b) (hp : At b p) : Tot (spec_l1Rd_source.f k b p) (fun r => r.1.size ≤ 20101 ∧ At b r.2) := by
  unfold spec_l1Rd_source.f
  refine (size_ok 4 8 (by omega) (by omega) (by omega) hb hp).bind fun v hv => ?_
  obtain ⟨v0, v1, v2⟩ := hv
  exact source_l0 hb v.1.toNat k _ v.1 _ (by omega) (by omega) (by omega) (by simp [ByteArray.size]) v2
theorem drawPlaceOf_ok {b : List Int} {k : Nat} (hk : 1000 ≤ k) (hb : Bytes b) : Tot (spec_DrawPlaceOf.f k b) (fun r => r.1.size ≤ 20101 ∧ i64 r.2) := by
  have h0 : At b 0 := ⟨by omega, by omega⟩
  have eo : spec_l1Open.f b = some (b, 0) := by rw [spec_l1Open.f]
  rw [spec_DrawPlaceOf.f, eo]
  simp only [bsm]
  refine (source_ok (by omega) hb h0).bind fun v hv => ?_
  have hz := hv.1
  refine (off_ok 0 (v.1.size : Int) (by omega) (by omega) (by omega) (by omega) (by omega) hb hv.2).bind fun x hx => ?_
  exact Tot.pure ⟨hv.1, hx.1⟩
/-- the lines up to the i-th, put together -/
theorem join_line (t : ByteArray) (ht : t.size ≤ 20000) (i : Nat) (h1 : 1 ≤ i) (hi : i < (lsM t).length) :
    (t.extract 0 (lineTo t i).toNat ++ (⟨#[10]⟩ : ByteArray)) ++ t.extract (lineFrom t ((i : Int) + 1)).toNat (lineTo t ((i : Int) + 1)).toNat = t.extract 0 (lineTo t ((i : Int) + 1)).toNat := by
  have r := line_rng t ((i : Int) + 1) ⟨ht, by omega, by omega⟩
  have hf : lineFrom t ((i : Int) + 1) = (lsM t).getD i 0 := by
    unfold lineFrom rd
    rw [show (i : Int) + 1 - 1 = i by omega, Int.toNat_natCast]
  have hto : lineTo t (i : Int) = (lsM t).getD i 0 - 1 := by
    unfold lineTo rd
    rw [if_pos (by omega), Int.toNat_natCast]
  have fd := lsAt_feed t t.size i (by omega) (by rw [← lsM_at]; exact hi)
  rw [← lsM_at] at fd
  obtain ⟨f1, f2, f3⟩ := fd
  rw [hf] at r ⊢
  rw [hto]
  generalize (lsM t).getD i 0 = s at *
  generalize lineTo t ((i : Int) + 1) = e at *
  have key : nums ((t.extract 0 (s - 1).toNat ++ (⟨#[10]⟩ : ByteArray)) ++ t.extract s.toNat e.toNat) = nums (t.extract 0 e.toNat) := by
    have app : ∀ a b : ByteArray, nums (a ++ b) = nums a ++ nums b := fun a b => by
      unfold Kit.nums
      rw [ByteArray.data_append, Array.toList_append, List.map_append]
    have ext : ∀ a b : Nat, nums (t.extract a b) = ((nums t).drop a).take (b - a) := fun a b => by
      unfold Kit.nums
      rw [ByteArray.data_extract, Array.toList_extract, List.extract_eq_take_drop]
      simp [List.map_take, List.map_drop]
    rw [app, app, nums_take, nums_take, ext]
    have ten : nums (⟨#[10]⟩ : ByteArray) = [10] := rfl
    have hn : (nums t).length = t.size := nums_len t
    have at1 : [(10 : Int)] = ((nums t).drop (s - 1).toNat).take 1 := by
      rw [List.drop_eq_getElem_cons (by omega), List.take_succ_cons, List.take_zero]
      congr 1
      rw [nums_bt, rd_get (by omega)] at f3
      exact f3.symm
    rw [ten, at1, ← List.take_add, show (s - 1).toNat + 1 = s.toNat by omega, ← List.take_add, show s.toNat + (e.toNat - s.toNat) = e.toNat by omega]
  exact str_inj (nums_inj.2 key)
theorem lines_l (t : ByteArray) (ht : t.size ≤ 20000) (d : Nat) : ∀ (k i : Nat), d + t.size + 10 < k → (lsM t).length - i = d → i ≤ (lsM t).length → laws_FnPlaces.l0 k t (lsM t) (if i = 0 then (⟨#[]⟩ : ByteArray) else t.extract 0 (lineTo t i).toNat) ((i : Int) + 1) = some true := by
  have hlen := lsM_len t
  induction d with
  | zero =>
    intro k i hk hd hi
    obtain ⟨k, rfl⟩ : ∃ m, k = m + 1 := ⟨k - 1, by omega⟩
    obtain rfl : i = (lsM t).length := by omega
    simp only [laws_FnPlaces.l0]
    rw [if_neg (by omega), if_neg (by omega)]
    have e1 : lineTo t ((lsM t).length : Int) = t.size := by unfold lineTo; rw [if_neg (by omega)]
    have e2 : t.extract 0 t.size = t := str_inj (nums_inj.2 (by rw [nums_take, List.take_of_length_le (by rw [nums_len]; exact Nat.le_refl _)]))
    rw [e1, Int.toNat_natCast, e2]
    simp
  | succ d ih =>
    intro k i hk hd hi
    obtain ⟨k, rfl⟩ : ∃ m, k = m + 1 := ⟨k - 1, by omega⟩
    have g : isLine t ((i : Int) + 1) := ⟨ht, by omega, by omega⟩
    have r := line_rng t ((i : Int) + 1) g
    have ilo : impl_LineOf.f k t ((i : Int) + 1) = some (t.extract (lineFrom t ((i : Int) + 1)).toNat (lineTo t ((i : Int) + 1)).toNat, true) := by
      rw [impl_LineOf.f, iLineSpan t (by omega) _ (by omega) k (by omega), if_pos g]
      simp only [bsm, if_true]
      rw [if_pos (by omega), if_pos (by omega), if_pos (by omega)]
    have ihn := ih k (i + 1) (by omega) (by omega) (by omega)
    rw [if_neg (by omega), show (((i + 1 : Nat) : Int)) = (i : Int) + 1 by omega] at ihn
    simp only [laws_FnPlaces.l0]
    rw [if_pos (by omega), ilo]
    simp only [bsm, if_true]
    rw [w64 (x := (i : Int) + 1 + 1) (by omega) (by omega)]
    have sz : (t.extract (lineFrom t ((i : Int) + 1)).toNat (lineTo t ((i : Int) + 1)).toNat).size ≤ t.size := by rw [ByteArray.size_extract]; omega
    by_cases h0 : i = 0
    · subst h0
      rw [if_neg (by omega), if_pos rfl, if_pos (by have z0 : (⟨#[]⟩ : ByteArray).size = 0 := rfl
                                                    omega)]
      have f0 : lineFrom t ((0 : Nat) + 1 : Int) = 0 := by
        unfold lineFrom
        have m := (lsAt_more t 0 t.size).2.1 0 (by simp [lsAt])
        rw [Nat.zero_add, ← lsM_at] at m
        exact m
      rw [f0]
      have e3 : (⟨#[]⟩ : ByteArray) ++ t.extract (0 : Int).toNat (lineTo t ((0 : Nat) + 1 : Int)).toNat = t.extract 0 (lineTo t ((0 : Nat) + 1 : Int)).toNat := by
        apply ByteArray.ext
        rw [ByteArray.data_append]
        simp
      rw [e3]
      exact ihn
    · have sz2 : (t.extract 0 (lineTo t (i : Int)).toNat).size ≤ t.size := by rw [ByteArray.size_extract]; omega
      rw [if_pos (by omega), if_neg h0, if_pos (by omega)]
      have e4 : (t.extract 0 (lineTo t (i : Int)).toNat ++ (⟨#[10]⟩ : ByteArray)).size = (t.extract 0 (lineTo t (i : Int)).toNat).size + 1 := by rw [ByteArray.size_append]; rfl
      rw [if_pos (by omega), join_line t ht i (by omega) (by omega)]
      exact ihn
theorem FnPlaces : laws_FnPlaces.Pure := by
  intro code g0 _ g2
  suffices ∀ k, 200000 ≤ k → laws_FnPlaces.f k code = some true from ⟨200000, this _ (Nat.le_refl _)⟩
  intro k hk
  have eb : laws_big.f code = some (decide ((code.length : Int) > 1048576)) := by rw [laws_big.f]
  rw [laws_FnPlaces.f, eb]
  simp only [bsm, decide_eq_true_eq]
  by_cases hbig : (code.length : Int) > 1048576
  · rw [if_pos hbig]
  rw [if_neg hbig]
  have hb := Bytes.of hbig g2
  obtain ⟨⟨t, p⟩, e, hx, hp⟩ := drawPlaceOf_ok (k := k) (by omega) hb
  simp only at hx hp
  rw [e]
  simp only [bsm]
  have lines : ∀ k, 100000 ≤ k → laws_FnPlaces.j1 k t false = some true := by
    intro k hk
    obtain ⟨k, rfl⟩ : ∃ m, k = m + 1 := ⟨k - 1, by omega⟩
    simp only [laws_FnPlaces.j1, Bool.false_eq_true, if_false]
    rw [iLineStarts t (by omega) k (by omega)]
    simp only [bsm]
    by_cases hs : t.size > 20000
    · rw [if_pos hs, if_pos (by omega)]
      simp
    · rw [if_neg hs, if_neg (by omega)]
      have hlen := lsM_len t
      have := lines_l t (by omega) (lsM t).length k 0 (by omega) (by omega) (by omega)
      rw [if_pos rfl] at this
      exact this
  obtain ⟨k, rfl⟩ : ∃ m, k = m + 1 := ⟨k - 1, by omega⟩
  by_cases h1 : (t.size : Int) > 20000
  · rw [spec_PlaceOf.f, impl_PlaceOf.f, if_pos h1, if_pos h1]
    simp only [bsm, if_true, bne_self_eq_false]
    simp only [laws_FnPlaces.j0, Bool.false_eq_true, if_false]
    rw [if_neg (by omega)]
    exact lines k (by omega)
  · rw [spec_PlaceOf.f, impl_PlaceOf.f, if_neg h1, if_neg h1, sIn, impl_length.f]
    simp only [bsm, iWithin, decide_eq_true_eq]
    by_cases h2 : 0 ≤ p ∧ p ≤ (t.size : Int)
    · have z : (t.extract 0 p.toNat).size = p.toNat := head_size (by omega)
      rw [if_pos h2, if_pos h2, if_pos h2.1, if_pos h2.1, if_pos h2.2, if_pos h2.2, sPlaceBehind _ (by omega) _ (by omega), iBehind _ (by omega) 1 1 (by omega) (by omega) (by omega) (by omega)]
      simp only [bsm, if_true, bne_self_eq_false]
      rw [z, plM_head t 1 1 p.toNat (by omega) p.toNat (Nat.le_refl _)]
      obtain ⟨q1, q2, q3⟩ := lsAt_last t p.toNat (by omega)
      rw [q1]
      simp only
      have pos := lsAt_pos t p.toNat
      obtain ⟨m1, m2, m3⟩ := lsAt_more t p.toNat (t.size - p.toNat)
      rw [show p.toNat + (t.size - p.toNat) = t.size by omega, ← lsM_at] at m1 m2 m3
      have hlen := lsM_len t
      have hlast := m2 ((lsAt t p.toNat).length - 1) (by omega)
      have hrd : rd (lsM t) (((lsAt t p.toNat).length : Int) - 1) = (lsAt t p.toNat).getD ((lsAt t p.toNat).length - 1) 0 := by
        unfold rd
        rw [show (((lsAt t p.toNat).length : Int) - 1).toNat = (lsAt t p.toNat).length - 1 by omega]
        exact hlast
      have hg : isLine t ((lsAt t p.toNat).length : Int) := ⟨by omega, by omega, by omega⟩
      have hfrom : lineFrom t ((lsAt t p.toNat).length : Int) = (lsAt t p.toNat).getD ((lsAt t p.toNat).length - 1) 0 := hrd
      have hto : p ≤ lineTo t ((lsAt t p.toNat).length : Int) := by
        unfold lineTo
        split
        · rename_i h
          have := m3 (lsAt t p.toNat).length (Nat.le_refl _) (by omega)
          unfold rd
          rw [Int.toNat_natCast]
          omega
        · exact h2.2
      have rr := line_rng t _ hg
      generalize (lsAt t p.toNat).getD ((lsAt t p.toNat).length - 1) 0 = s at *
      generalize (lsAt t p.toNat).length = n at *
      simp only [laws_FnPlaces.j0, Bool.false_eq_true, if_false]
      rw [if_pos (by omega), impl_OffsetOf.f, iLineSpan t (by omega) _ (by omega) k (by omega), if_pos hg, hfrom]
      simp only [bsm, if_true, iWithin, decide_eq_true_eq]
      rw [hfrom] at rr
      rw [w64 (x := lineTo t (n : Int) - s) (by omega) (by omega), w64 (x := lineTo t (n : Int) - s + 1) (by omega) (by omega), if_pos (by omega)]
      simp only [bsm]
      rw [w64 (x := s + ((p.toNat : Int) - s + 1)) (by omega) (by omega), w64 (x := s + ((p.toNat : Int) - s + 1) - 1) (by omega) (by omega), if_pos (by omega), iLineStarts t (by omega) k (by omega), if_neg (by omega)]
      simp only [bsm]
      rw [w64 (x := (n : Int) - 1) (by omega) (by omega), if_pos (by omega), if_pos (by omega), hrd, w64 (x := s + ((p.toNat : Int) - s + 1)) (by omega) (by omega), w64 (x := s + ((p.toNat : Int) - s + 1) - 1) (by omega) (by omega)]
      have ez : (s + ((p.toNat : Int) - s + 1) - 1 != p) = false := by rw [show s + ((p.toNat : Int) - s + 1) - 1 = p by omega]; exact bne_self_eq_false p
      rw [ez]
      exact lines k (by omega)
    · rw [if_neg h2, if_neg h2]
      simp only [bsm, if_true, bne_self_eq_false]
      simp only [laws_FnPlaces.j0, Bool.false_eq_true, if_false]
      rw [if_neg (by omega)]
      exact lines k (by omega)
end Go.Proofs.Ytabpfejdppfcdaa.Pure
