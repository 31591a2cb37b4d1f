/- The program's HashOf and the reference's come to one number: whatever the word, the seed and the size. -/
import Derived.Test.YtnmlkaoaandemaaPFnExactHashOfx1
import Derived.Test.YtnmlkaoaandemaaKit
namespace Go.Proofs.Ytnmlkaoaandemaa.Pure
open Go.RowKit Go.Proofs.Ytnmlkaoaandemaa.PFnExactHashOf Go.Proofs.YtnmlkaoaandemaaW.PrintWords Go.Proofs.YtnmlkaoaandemaaW.PrintLast Go.Proofs.YtnmlkaoaandemaaW.PrintMore Go.Proofs.Ytnmlkaoaandemaa.Kit

def hashLoop (t : ByteArray) : Nat → Int → Int → Int
  | 0, _, h => h
  | d + 1, i, h => hashLoop t d (i + 1) ((h * 31 + bt t i) % 1000003)

theorem hashLoop_rng (t : ByteArray) : ∀ (d : Nat) (i h : Int), 0 ≤ h → h ≤ 1000003 → 0 ≤ hashLoop t d i h ∧ hashLoop t d i h ≤ 1000003
  | 0, _, _, h0, h1 => ⟨h0, h1⟩
  | d + 1, i, h, h0, h1 => hashLoop_rng t d (i + 1) _ (by omega) (by omega)

theorem sHash_l (t : ByteArray) (ht : t.size ≤ 60) (z : Int) (hz : 1 ≤ z) (d : Nat) : ∀ (k : Nat) (h i : Int), d < k → 0 ≤ i → (t.size : Int) - i = d → 0 ≤ h → h ≤ 1000003 →
    spec_HashOf.l0 k t z h i = some (hashLoop t d i h % z) := by
  induction d with
  | zero =>
    intro k h i hk h0 hd g0 g1
    obtain ⟨k, rfl⟩ : ∃ m, k = m + 1 := ⟨k - 1, by omega⟩
    simp only [spec_HashOf.l0]
    rw [if_neg (by omega), if_neg (by omega), tmod_pos g0]
    rfl
  | succ d ih =>
    intro k h i hk h0 hd g0 g1
    obtain ⟨k, rfl⟩ : ∃ m, k = m + 1 := ⟨k - 1, by omega⟩
    have := bt_lo t i
    have := bt_hi t i
    simp only [spec_HashOf.l0]
    rw [if_pos (by omega), if_pos h0, w64 (x := h * 31) (by omega) (by omega), w64 (x := bt t i) (by omega) (by omega), w64 (x := h * 31 + bt t i) (by omega) (by omega), w64 (x := i + 1) (by omega) (by omega), tmod_pos (by omega),
      ih k _ _ (by omega) (by omega) (by omega) (by omega) (by omega)]
    rfl

theorem iHash_l (t : ByteArray) (ht : t.size ≤ 60) (z : Int) (hz : 1 ≤ z) (d : Nat) : ∀ (k : Nat) (h i : Int), d < k → 0 ≤ i → (t.size : Int) - i = d → 0 ≤ h → h ≤ 1000003 →
    impl_hashOf.l0 k t h z (t.size : Int) i = some (hashLoop t d i h % z) := by
  induction d with
  | zero =>
    intro k h i hk h0 hd g0 g1
    obtain ⟨k, rfl⟩ : ∃ m, k = m + 1 := ⟨k - 1, by omega⟩
    simp only [impl_hashOf.l0]
    rw [if_neg (by omega), if_neg (by omega), tmod_pos g0]
    rfl
  | succ d ih =>
    intro k h i hk h0 hd g0 g1
    obtain ⟨k, rfl⟩ : ∃ m, k = m + 1 := ⟨k - 1, by omega⟩
    have := bt_lo t i
    have := bt_hi t i
    simp only [impl_hashOf.l0]
    rw [if_pos (by omega), if_pos h0, if_pos (by omega), w64 (x := h * 31) (by omega) (by omega), w64 (x := bt t i) (by omega) (by omega), w64 (x := h * 31 + bt t i) (by omega) (by omega), w64 (x := i + 1) (by omega) (by omega), tmod_pos (by omega),
      ih k _ _ (by omega) (by omega) (by omega) (by omega) (by omega)]
    rfl

/-- what HashOf tells -/
def hashM (t : ByteArray) (a z : Int) : Int := if t.size > 60 ∨ ¬ (0 ≤ a ∧ a ≤ 5000) ∨ ¬ (1 ≤ z ∧ z ≤ 1024) then -1 else hashLoop t t.size 0 a % z

theorem sHash (t : ByteArray) (a z : Int) (k : Nat) (hk : 62 < k) : spec_HashOf.f k t a z = some (hashM t a z) := by
  obtain ⟨k, rfl⟩ : ∃ m, k = m + 1 := ⟨k - 1, by omega⟩
  unfold spec_HashOf.f spec_l1In.f
  by_cases h1 : t.size > 60
  · rw [if_pos (by omega), show hashM t a z = -1 from if_pos (Or.inl h1)]
    simp [spec_HashOf.j0]
  · rw [if_neg (by omega)]
    by_cases h2 : 0 ≤ a ∧ a ≤ 5000
    · by_cases h3 : 1 ≤ z ∧ z ≤ 1024
      · have e2 : (if a ≥ 0 then some (decide (a ≤ 5000)) else some false) = some true := by rw [if_pos (by omega)]; simp [h2.2]
        have e3 : (if z ≥ 1 then some (decide (z ≤ 1024)) else some false) = some true := by rw [if_pos (by omega)]; simp [h3.2]
        rw [e2, e3]
        simp only [Option.bind_some, if_true, Bool.not_true, spec_HashOf.j0]
        rw [if_neg (by simp), show hashM t a z = hashLoop t t.size 0 a % z from if_neg (by omega)]
        exact sHash_l t (by omega) z (by omega) t.size k a 0 (by omega) (by omega) (by omega) (by omega) (by omega)
      · have e2 : (if a ≥ 0 then some (decide (a ≤ 5000)) else some false) = some true := by rw [if_pos (by omega)]; simp [h2.2]
        have e3 : (if z ≥ 1 then some (decide (z ≤ 1024)) else some false) = some false := by
          by_cases g : z ≥ 1
          · rw [if_pos g]; simp; omega
          · rw [if_neg g]
        have e4 : hashM t a z = -1 := if_pos (Or.inr (Or.inr h3))
        rw [e2, e3, e4]
        simp [spec_HashOf.j0]
    · have e2 : (if a ≥ 0 then some (decide (a ≤ 5000)) else some false) = some false := by
        by_cases g : a ≥ 0
        · rw [if_pos g]; simp; omega
        · rw [if_neg g]
      have e4 : hashM t a z = -1 := if_pos (Or.inr (Or.inl h2))
      rw [e2, e4]
      simp [spec_HashOf.j0]

theorem iHash (t : ByteArray) (a z : Int) (k : Nat) (hk : 62 < k) : impl_HashOf.f k t a z = some (hashM t a z) := by
  unfold impl_HashOf.f impl_within.f impl_hashOf.f
  by_cases h1 : t.size > 60
  · rw [if_pos (by omega), show hashM t a z = -1 from if_pos (Or.inl h1)]
  · rw [if_neg (by omega)]
    by_cases h2 : 0 ≤ a ∧ a ≤ 5000
    · by_cases h3 : 1 ≤ z ∧ z ≤ 1024
      · have e2 : (if a ≥ 0 then some (decide (a ≤ 5000)) else some false) = some true := by rw [if_pos (by omega)]; simp [h2.2]
        have e3 : (if z ≥ 1 then some (decide (z ≤ 1024)) else some false) = some true := by rw [if_pos (by omega)]; simp [h3.2]
        rw [e2, e3]
        simp only [Option.bind_some, if_true]
        rw [show hashM t a z = hashLoop t t.size 0 a % z from if_neg (by omega), iHash_l t (by omega) z (by omega) t.size k a 0 (by omega) (by omega) (by omega) (by omega) (by omega)]
        rfl
      · have e2 : (if a ≥ 0 then some (decide (a ≤ 5000)) else some false) = some true := by rw [if_pos (by omega)]; simp [h2.2]
        have e3 : (if z ≥ 1 then some (decide (z ≤ 1024)) else some false) = some false := by
          by_cases g : z ≥ 1
          · rw [if_pos g]; simp; omega
          · rw [if_neg g]
        have e4 : hashM t a z = -1 := if_pos (Or.inr (Or.inr h3))
        rw [e2, e3, e4]
        simp
    · have e2 : (if a ≥ 0 then some (decide (a ≤ 5000)) else some false) = some false := by
        by_cases g : a ≥ 0
        · rw [if_pos g]; simp; omega
        · rw [if_neg g]
      have e4 : hashM t a z = -1 := if_pos (Or.inr (Or.inl h2))
      rw [e2, e4]
      simp

theorem FnExactHashOf : laws_FnExactHashOf.Pure := by
  intro t a z _ _ _
  refine ⟨63, ?_⟩
  unfold laws_FnExactHashOf.f
  split
  · rfl
  · rw [sHash t a z 63 (by omega), iHash t a z 63 (by omega)]
    simp
end Go.Proofs.Ytnmlkaoaandemaa.Pure
