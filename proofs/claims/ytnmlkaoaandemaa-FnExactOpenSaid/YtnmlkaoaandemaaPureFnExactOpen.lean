/- The program's Open and the reference's come to one stream, and the law's marks on it are held. -/
import Derived.Test.YtnmlkaoaandemaaPFnExactOpenx2
import Derived.Test.YtnmlkaoaandemaaKit
namespace Go.Proofs.Ytnmlkaoaandemaa.Pure
open Go.RowKit Go.Proofs.Ytnmlkaoaandemaa.PFnExactOpen Go.Proofs.YtnmlkaoaandemaaW.PrintWords Go.Proofs.YtnmlkaoaandemaaW.PrintLast Go.Proofs.YtnmlkaoaandemaaW.PrintMore Go.Proofs.Ytnmlkaoaandemaa.Kit
/-- two lists of numbers that are one are told alike -/
theorem eqInt64S_l (l : List Int) (hl : (l.length : Int) ≤ 1099511627776) (d : Nat) : ∀ (k : Nat) (i : Int), d < k → 0 ≤ i → (l.length : Int) - i = d → laws_eqInt64S.l0 k l l i = some true := by
  induction d with
  | zero =>
    intro k i hk h0 hd
    obtain ⟨k, rfl⟩ : ∃ m, k = m + 1 := ⟨k - 1, by omega⟩
    simp only [laws_eqInt64S.l0]
    rw [if_neg (by omega)]
  | succ d ih =>
    intro k i hk h0 hd
    obtain ⟨k, rfl⟩ : ∃ m, k = m + 1 := ⟨k - 1, by omega⟩
    simp only [laws_eqInt64S.l0]
    rw [if_pos (by omega), if_pos h0, if_pos (by omega), w64 (by omega) (by omega)]
    exact ih k _ (by omega) (by omega) (by omega)
theorem eqInt64S_same (l : List Int) (hl : (l.length : Int) ≤ 1099511627776) (k : Nat) (hk : l.length < k) : laws_eqInt64S.f k l l = some true := by
  unfold laws_eqInt64S.f
  simp only [if_true]
  exact eqInt64S_l l hl l.length k 0 hk (by omega) (by omega)

/-- what is marked is held: the marks of a list, told by its length alone -/
theorem markInt64S_l (d : Nat) : ∀ (k : Nat) (l : List Int) (m i : Int), d < k → 0 ≤ i → (l.length : Int) - i = d → (l.length : Int) ≤ 1099511627776 → 0 ≤ m → m ≤ 4398046511104 → m + d ≤ 4398046511104 →
    ∃ l', laws_markInt64S.l0 k l m i = some (m + d, l') ∧ l'.length = l.length ∧ (∀ j : Nat, (j : Int) < i → l'.getD j 0 = l.getD j 0) ∧ (∀ j : Nat, i ≤ (j : Int) → j < l.length → l'.getD j 0 = m + ((j : Int) - i)) := by
  induction d with
  | zero =>
    intro k l m i hk h0 hd hl hm hm' hmd
    obtain ⟨k, rfl⟩ : ∃ m, k = m + 1 := ⟨k - 1, by omega⟩
    refine ⟨l, ?_, rfl, fun j _ => rfl, fun j hj hj' => by omega⟩
    simp only [laws_markInt64S.l0]
    rw [if_neg (by omega)]
    simp
  | succ d ih =>
    intro k l m i hk h0 hd hl hm hm' hmd
    obtain ⟨k, rfl⟩ : ∃ m, k = m + 1 := ⟨k - 1, by omega⟩
    obtain ⟨l', e, e1, e2, e3⟩ := ih k (l.set i.toNat m) (m + 1) (i + 1) (by omega) (by omega) (by simp; omega) (by simp; omega) (by omega) (by omega) (by omega)
    refine ⟨l', ?_, by simpa using e1, fun j hj => ?_, fun j hj hj' => ?_⟩
    · simp only [laws_markInt64S.l0]
      rw [if_pos (by omega), if_pos h0, w64 (x := m + 1) (by omega) (by omega), w64 (by omega) (by omega), e]
      congr 2
      omega
    · rw [e2 j (by omega), List.getD_eq_getElem?_getD, List.getD_eq_getElem?_getD, List.getElem?_set_ne (by omega)]
    · by_cases hji : (j : Int) = i
      · rw [e2 j (by omega)]
        have : i.toNat = j := by omega
        rw [this, List.getD_eq_getElem?_getD, List.getElem?_set_self hj']
        simp; omega
      · rw [e3 j (by omega) (by simpa using hj')]
        omega
theorem heldInt64S_l (l : List Int) (hl : (l.length : Int) ≤ 1099511627776) (d : Nat) : ∀ (k : Nat) (m i : Int), d < k → 0 ≤ i → (l.length : Int) - i = d → 0 ≤ m → m + d ≤ 4398046511104 →
    (∀ j : Nat, i ≤ (j : Int) → j < l.length → l.getD j 0 = m + ((j : Int) - i)) → laws_heldInt64S.l0 k l m i = some (m + d) := by
  induction d with
  | zero =>
    intro k m i hk h0 hd hm hmd _
    obtain ⟨k, rfl⟩ : ∃ m, k = m + 1 := ⟨k - 1, by omega⟩
    simp only [laws_heldInt64S.l0]
    rw [if_neg (by omega)]
    simp
  | succ d ih =>
    intro k m i hk h0 hd hm hmd hj
    obtain ⟨k, rfl⟩ : ∃ m, k = m + 1 := ⟨k - 1, by omega⟩
    have hi := hj i.toNat (by omega) (by omega)
    simp only [laws_heldInt64S.l0]
    rw [if_pos (by omega), if_pos h0, if_pos (by unfold rd; omega), w64 (x := m + 1) (by omega) (by omega), w64 (by omega) (by omega), ih k _ _ (by omega) (by omega) (by omega) (by omega) (by omega) (fun j h h' => by rw [hj j (by omega) h']; omega)]
    congr 1
    omega
/-- the marks of a list, and that they are held -/
theorem markInt64S_held (l : List Int) (hl : (l.length : Int) ≤ 1099511627776) (m : Int) (hm : 0 ≤ m) (hm' : m ≤ 1099511627776) : ∃ l', ∀ k, l.length < k →
    laws_markInt64S.f k l m = some (m + l.length, l') ∧ laws_heldInt64S.f k l' m = some (m + l.length) := by
  obtain ⟨l', e, e1, _, e3⟩ := markInt64S_l l.length (l.length + 1) l m 0 (by omega) (by omega) (by omega) hl hm (by omega) (by omega)
  refine ⟨l', fun k hk => ⟨?_, ?_⟩⟩
  · obtain ⟨l2, f, _⟩ := markInt64S_l l.length k l m 0 hk (by omega) (by omega) hl hm (by omega) (by omega)
    have : laws_markInt64S.l0 k l m 0 = some (m + l.length, l') := at_rounds (g := fun k => laws_markInt64S.l0 k l m 0) (fun k => laws_markInt64S.mono_l k _ _ _) (by omega : l.length + 1 ≤ k) e
    exact this
  · unfold laws_heldInt64S.f
    exact heldInt64S_l l' (by omega) l.length k m 0 hk (by omega) (by omega) hm (by omega) (fun j h h' => e3 j h (by omega))

theorem FnExactOpen : laws_FnExactOpen.Pure := by
  obtain ⟨l', hm⟩ := markInt64S_held [0] (by simp) 1 (by omega) (by omega)
  obtain ⟨h1, h2⟩ := hm 5 (by simp)
  have he := eqInt64S_same [0] (by simp) 5 (by simp)
  refine ⟨5, ?_⟩
  unfold laws_FnExactOpen.f spec_Open.f impl_Open.f laws_eqStream.f laws_markStream.f laws_heldStream.f
  simp only [Option.bind_some, he, h1, h2, if_true]
  simp
end Go.Proofs.Ytnmlkaoaandemaa.Pure
