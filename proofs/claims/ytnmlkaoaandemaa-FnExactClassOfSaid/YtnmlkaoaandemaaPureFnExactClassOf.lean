/- The program's ClassOf and the reference's come to one class: whatever the text. -/
import Derived.Test.YtnmlkaoaandemaaPFnExactClassOfx2
import Derived.Test.YtnmlkaoaandemaaKit
import Derived.Test.YtnmlkaoaandemaaKitClass
namespace Go.Proofs.Ytnmlkaoaandemaa.Pure
open Go.RowKit Go.Proofs.Ytnmlkaoaandemaa.PFnExactClassOf Go.Proofs.YtnmlkaoaandemaaW.PrintWords Go.Proofs.YtnmlkaoaandemaaW.PrintLast Go.Proofs.YtnmlkaoaandemaaW.PrintMore Go.Proofs.Ytnmlkaoaandemaa.Kit
set_option linter.unusedVariables false
theorem eqSpanS_l (l : List S55) (hl : (l.length : Int) ≤ 1099511627776) (d : Nat) : ∀ (k : Nat) (i : Nat), d < k → l.length - i = d → i ≤ l.length → laws_eqSpanS.l0 k l l (i : Int) = some true := by
  induction d with
  | zero =>
    intro k i hk hd hi
    obtain ⟨k, rfl⟩ : ∃ m, k = m + 1 := ⟨k - 1, by omega⟩
    simp only [laws_eqSpanS.l0]
    rw [if_neg (by omega)]
  | succ d ih =>
    intro k i hk hd hi
    obtain ⟨k, rfl⟩ : ∃ m, k = m + 1 := ⟨k - 1, by omega⟩
    simp only [laws_eqSpanS.l0, laws_eqSpan.f, if_true, Option.bind_some]
    rw [if_pos (by omega), if_pos (by omega), if_pos (by omega), nat_next (by omega)]
    exact ih k (i + 1) (by omega) (by omega) (by omega)
theorem eqSpanS_same (l : List S55) (hl : (l.length : Int) ≤ 1099511627776) (k : Nat) (hk : l.length < k) : laws_eqSpanS.f k l l = some true := by
  unfold laws_eqSpanS.f
  rw [if_pos rfl]
  exact eqSpanS_l l hl l.length k 0 hk (by omega) (by omega)
theorem rdT_set (l : List S55) (i : Nat) (v : S55) (h : i < l.length) : rd_T55 (l.set i v) (i : Int) = v := by
  unfold rd_T55
  rw [Int.toNat_natCast, List.getD_eq_getElem?_getD, List.getElem?_set_self h]
  rfl
theorem rdT_other (l : List S55) (i j : Nat) (v : S55) (h : i ≠ j) : rd_T55 (l.set i v) (j : Int) = rd_T55 l (j : Int) := by
  unfold rd_T55
  rw [Int.toNat_natCast, List.getD_eq_getElem?_getD, List.getD_eq_getElem?_getD, List.getElem?_set_ne h]
/-- each number of a row is its own -/
def marked (y : List S55) (i : Nat) : Prop := ∀ j : Nat, j < i → rd_T55 y (j : Int) = ⟨1 + 2 * (j : Int), 2 + 2 * (j : Int)⟩
theorem mark_l (n : Nat) (hn : n ≤ 1000000000) (d : Nat) : ∀ (k : Nat) (x : List S55) (i : Nat), d < k → n - i = d → i ≤ n → x.length = n → marked x i →
    ∃ y, laws_markSpanS.l0 k x (1 + 2 * (i : Int)) (i : Int) = some (1 + 2 * (n : Int), y) ∧ y.length = n ∧ marked y n := by
  induction d with
  | zero =>
    intro k x i hk hd hi hx hm
    obtain ⟨k, rfl⟩ : ∃ m, k = m + 1 := ⟨k - 1, by omega⟩
    obtain rfl : i = n := by omega
    simp only [laws_markSpanS.l0]
    rw [if_neg (by omega)]
    exact ⟨x, rfl, hx, hm⟩
  | succ d ih =>
    intro k x i hk hd hi hx hm
    obtain ⟨k, rfl⟩ : ∃ m, k = m + 1 := ⟨k - 1, by omega⟩
    simp only [laws_markSpanS.l0, Option.bind_some, Int.toNat_natCast]
    rw [if_pos (by omega), if_pos (by omega), nat_next (by omega), rdT_set x i _ (by omega), w64 (x := 1 + 2 * (i : Int) + 1) (by omega) (by omega), w64 (by omega) (by omega), show 1 + 2 * (i : Int) + 1 + 1 = 1 + 2 * ((i + 1 : Nat) : Int) by omega]
    refine ih k _ (i + 1) (by omega) (by omega) (by omega) (by simpa using hx) (fun j hj => ?_)
    by_cases e : i = j
    · subst e
      rw [rdT_set _ _ _ (by simp; omega), show 1 + 2 * (i : Int) + 1 = 2 + 2 * (i : Int) by omega]
    · rw [rdT_other _ _ _ _ e, rdT_other _ _ _ _ e]
      exact hm j (by omega)
theorem markS (x : List S55) (hn : x.length ≤ 1000000000) (k : Nat) (hk : x.length < k) : ∃ y, laws_markSpanS.f k x 1 = some (1 + 2 * (x.length : Int), y) ∧ y.length = x.length ∧ marked y x.length :=
  mark_l x.length hn x.length k x 0 hk (by omega) (by omega) rfl (fun j hj => by omega)
theorem held_l (y : List S55) (n : Nat) (hn : n ≤ 1000000000) (hy : y.length = n) (hm : marked y n) (d : Nat) : ∀ (k : Nat) (i : Nat), d < k → n - i = d → i ≤ n →
    laws_heldSpanS.l0 k y (1 + 2 * (i : Int)) (i : Int) = some (1 + 2 * (n : Int)) := by
  induction d with
  | zero =>
    intro k i hk hd hi
    obtain ⟨k, rfl⟩ : ∃ m, k = m + 1 := ⟨k - 1, by omega⟩
    obtain rfl : i = n := by omega
    simp only [laws_heldSpanS.l0]
    rw [if_neg (by omega)]
  | succ d ih =>
    intro k i hk hd hi
    obtain ⟨k, rfl⟩ : ∃ m, k = m + 1 := ⟨k - 1, by omega⟩
    simp only [laws_heldSpanS.l0]
    rw [if_pos (by omega), if_pos (by omega), hm i (by omega), if_pos rfl, w64 (x := 1 + 2 * (i : Int) + 1) (by omega) (by omega), if_pos (by simp only; omega), nat_next (by omega), w64 (by omega) (by omega), show 1 + 2 * (i : Int) + 1 + 1 = 1 + 2 * ((i + 1 : Nat) : Int) by omega]
    exact ih k (i + 1) (by omega) (by omega) (by omega)
theorem heldS (y : List S55) (n : Nat) (hn : n ≤ 1000000000) (hy : y.length = n) (hm : marked y n) (k : Nat) (hk : n < k) : laws_heldSpanS.f k y 1 = some (1 + 2 * (n : Int)) :=
  held_l y n hn hy hm n k 0 hk (by omega) (by omega)
theorem class_l (m : List Bool) (hm : m.length = 256) (d : Nat) : ∀ (k : Nat) (acc : List S55) (b : Nat), d < k → 256 - b = d → b ≤ 256 → acc.length ≤ b → ∃ r, spec_l1Class.l0 k m acc (b : Int) = some r ∧ r.length ≤ 256 := by
  induction d with
  | zero =>
    intro k acc b hk hd hb ha
    obtain ⟨k, rfl⟩ : ∃ m, k = m + 1 := ⟨k - 1, by omega⟩
    simp only [spec_l1Class.l0]
    rw [if_neg (by omega)]
    exact ⟨acc, rfl, by omega⟩
  | succ d ih =>
    intro k acc b hk hd hb ha
    obtain ⟨k, rfl⟩ : ∃ m, k = m + 1 := ⟨k - 1, by omega⟩
    simp only [spec_l1Class.l0]
    rw [if_pos (by omega), if_pos (by omega), if_pos (by omega), nat_next (by omega)]
    have app : ∃ r, (if acc.length < 8796093022208 then spec_l1Class.l0 k m (acc ++ [(⟨(b : Int), (b : Int)⟩ : S55)]) ((b + 1 : Nat) : Int) else none) = some r ∧ r.length ≤ 256 := by
      rw [if_pos (by omega)]
      exact ih k _ (b + 1) (by omega) (by omega) (by omega) (by simp; omega)
    by_cases h : rdOf false m (b : Int) = true
    · rw [if_pos h]
      by_cases h0 : (acc.length : Int) > 0
      · rw [if_pos h0, w64 (x := (acc.length : Int) - 1) (by omega) (by omega), if_pos (by omega), if_pos (by omega)]
        by_cases h1 : (rd_T55 acc ((acc.length : Int) - 1)).f1 = wrap64 ((b : Int) - 1)
        · rw [if_pos h1]
          exact ih k _ (b + 1) (by omega) (by omega) (by omega) (by rw [List.length_set]; omega)
        · rw [if_neg h1]
          exact app
      · rw [if_neg h0]
        exact app
    · rw [if_neg h]
      exact ih k _ (b + 1) (by omega) (by omega) (by omega) (by omega)
theorem classS (m : List Bool) (hm : m.length = 256) (k : Nat) (hk : 300 ≤ k) : ∃ r, spec_l1Class.f k m = some r ∧ r.length ≤ 256 := by
  unfold spec_l1Class.f
  exact class_l m hm 256 k [] 0 (by omega) (by omega) (by omega) (by simp)

theorem classOf_l (a : ByteArray) (ha : a.size ≤ 1048576) (d : Nat) : ∀ (k : Nat) (m : List Bool) (i : Nat), d + 400 < k → a.size - i = d → i ≤ a.size → m.length = 256 → ∃ r, spec_ClassOf.l0 k a m (i : Int) = some r ∧ r.length ≤ 256 := by
  induction d with
  | zero =>
    intro k m i hk hd hi hm
    obtain ⟨k, rfl⟩ : ∃ m, k = m + 1 := ⟨k - 1, by omega⟩
    obtain ⟨r, e, hr⟩ := classS m hm k (by omega)
    simp only [spec_ClassOf.l0]
    rw [if_neg (by omega), e]
    exact ⟨r, rfl, hr⟩
  | succ d ih =>
    intro k m i hk hd hi hm
    obtain ⟨k, rfl⟩ : ∃ m, k = m + 1 := ⟨k - 1, by omega⟩
    have b0 := bt_lo a i
    have b1 := bt_hi a i
    simp only [spec_ClassOf.l0]
    rw [if_pos (by omega), if_pos (by omega), if_pos b0, if_pos (by omega), nat_next (by omega)]
    exact ih k _ (i + 1) (by omega) (by omega) (by omega) (by rw [List.length_set]; exact hm)
theorem FnExactClassOf : laws_FnExactClassOf.Pure := by
  intro a hz
  suffices q : ∀ k, 2000000 ≤ k → laws_FnExactClassOf.f k a = some true from ⟨2000000, q _ (Nat.le_refl _)⟩
  intro k hk
  unfold laws_FnExactClassOf.f
  by_cases hw : (a.size : Int) > 1048576
  · rw [if_pos hw]
  rw [if_neg hw]
  obtain ⟨r, e, hr⟩ : ∃ r, spec_ClassOf.f k a = some r ∧ r.length ≤ 256 := by
    unfold spec_ClassOf.f
    rw [if_pos (by omega)]
    exact classOf_l a (by omega) a.size k _ 0 (by omega) (by omega) (by omega) List.length_replicate
  unfold impl_ClassOf.f
  rw [e]
  simp only [Option.bind_some]
  rw [eqSpanS_same r (by omega) k (by omega)]
  simp only [Option.bind_some, if_true]
  obtain ⟨y, e2, hy, hm⟩ := markS r (by omega) k (by omega)
  rw [e2]
  simp only [Option.bind_some]
  rw [heldS y r.length (by omega) hy hm k (by omega)]
  simp only [Option.bind_some, if_true]
  rw [if_neg (by omega), if_neg (by omega)]
end Go.Proofs.Ytnmlkaoaandemaa.Pure
