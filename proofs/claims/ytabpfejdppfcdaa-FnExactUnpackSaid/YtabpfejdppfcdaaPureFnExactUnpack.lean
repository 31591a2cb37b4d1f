/- The program's Unpack and the reference's come to the same table: whatever the packed rows. -/
import Derived.Test.YtabpfejdppfcdaaPFnExactUnpackx11
import Derived.Test.YtabpfejdppfcdaaKit
import Derived.Test.YtabpfejdppfcdaaKitTab
namespace Go.Proofs.Ytabpfejdppfcdaa.Pure
open Go.RowKit Go.Proofs.Ytabpfejdppfcdaa.PFnExactUnpack Go.Proofs.YtabpfejdppfcdaaW.PrintWords Go.Proofs.YtabpfejdppfcdaaW.PrintLast Go.Proofs.YtabpfejdppfcdaaW.PrintMore Go.Proofs.Ytabpfejdppfcdaa.Kit
set_option linter.unusedVariables false
theorem sIn (a b c : Int) : spec_l1In.f a b c = some (decide (b ≤ a ∧ a ≤ c)) := by
  unfold spec_l1In.f
  by_cases h : a ≥ b
  · rw [if_pos h]; congr 1; simp; omega
  · rw [if_neg h]; congr 1; simp; omega
theorem iWithin (a b c : Int) : impl_within.f a b c = some (decide (b ≤ a ∧ a ≤ c)) := by
  unfold impl_within.f
  by_cases h : a ≥ b
  · rw [if_pos h]; congr 1; simp; omega
  · rw [if_neg h]; congr 1; simp; omega
/-- two lists of numbers that are one are told alike -/
theorem eqInt64S_l (l : List Int) (hl : (l.length : Int) ≤ 1099511627776) (d : Nat) : ∀ (k : Nat) (i : Int), d < k → 0 ≤ i → (l.length : Int) - i = d → laws_eqInt64S.l0 k l l i = some true := by
  induction d with
  | zero =>
    intro k i hk h0 hd
    obtain ⟨k, rfl⟩ : ∃ m, k = m + 1 := ⟨k - 1, by omega⟩
    simp only [laws_eqInt64S.l0]
    rw [if_neg (by omega)]
  | succ d ih =>
    intro k i hk h0 hd
    obtain ⟨k, rfl⟩ : ∃ m, k = m + 1 := ⟨k - 1, by omega⟩
    simp only [laws_eqInt64S.l0]
    rw [if_pos (by omega), if_pos h0, if_pos (by omega), w64 (by omega) (by omega)]
    exact ih k _ (by omega) (by omega) (by omega)
theorem eqInt64S_same (l : List Int) (hl : (l.length : Int) ≤ 1099511627776) (k : Nat) (hk : l.length < k) : laws_eqInt64S.f k l l = some true := by
  unfold laws_eqInt64S.f
  simp only [if_true]
  exact eqInt64S_l l hl l.length k 0 hk (by omega) (by omega)

/-- what is marked is held: the marks of a list, told by its length alone -/
theorem markInt64S_l (d : Nat) : ∀ (k : Nat) (l : List Int) (m i : Int), d < k → 0 ≤ i → (l.length : Int) - i = d → (l.length : Int) ≤ 1099511627776 → 0 ≤ m → m ≤ 4398046511104 → m + d ≤ 4398046511104 →
    ∃ l', laws_markInt64S.l0 k l m i = some (m + d, l') ∧ l'.length = l.length ∧ (∀ j : Nat, (j : Int) < i → l'.getD j 0 = l.getD j 0) ∧ (∀ j : Nat, i ≤ (j : Int) → j < l.length → l'.getD j 0 = m + ((j : Int) - i)) := by
  induction d with
  | zero =>
    intro k l m i hk h0 hd hl hm hm' hmd
    obtain ⟨k, rfl⟩ : ∃ m, k = m + 1 := ⟨k - 1, by omega⟩
    refine ⟨l, ?_, rfl, fun j _ => rfl, fun j hj hj' => by omega⟩
    simp only [laws_markInt64S.l0]
    rw [if_neg (by omega)]
    simp
  | succ d ih =>
    intro k l m i hk h0 hd hl hm hm' hmd
    obtain ⟨k, rfl⟩ : ∃ m, k = m + 1 := ⟨k - 1, by omega⟩
    obtain ⟨l', e, e1, e2, e3⟩ := ih k (l.set i.toNat m) (m + 1) (i + 1) (by omega) (by omega) (by simp; omega) (by simp; omega) (by omega) (by omega) (by omega)
    refine ⟨l', ?_, by simpa using e1, fun j hj => ?_, fun j hj hj' => ?_⟩
    · simp only [laws_markInt64S.l0]
      rw [if_pos (by omega), if_pos h0, w64 (x := m + 1) (by omega) (by omega), w64 (by omega) (by omega), e]
      congr 2
      omega
    · rw [e2 j (by omega), List.getD_eq_getElem?_getD, List.getD_eq_getElem?_getD, List.getElem?_set_ne (by omega)]
    · by_cases hji : (j : Int) = i
      · rw [e2 j (by omega)]
        have : i.toNat = j := by omega
        rw [this, List.getD_eq_getElem?_getD, List.getElem?_set_self hj']
        simp; omega
      · rw [e3 j (by omega) (by simpa using hj')]
        omega
theorem heldInt64S_l (l : List Int) (hl : (l.length : Int) ≤ 1099511627776) (d : Nat) : ∀ (k : Nat) (m i : Int), d < k → 0 ≤ i → (l.length : Int) - i = d → 0 ≤ m → m + d ≤ 4398046511104 →
    (∀ j : Nat, i ≤ (j : Int) → j < l.length → l.getD j 0 = m + ((j : Int) - i)) → laws_heldInt64S.l0 k l m i = some (m + d) := by
  induction d with
  | zero =>
    intro k m i hk h0 hd hm hmd _
    obtain ⟨k, rfl⟩ : ∃ m, k = m + 1 := ⟨k - 1, by omega⟩
    simp only [laws_heldInt64S.l0]
    rw [if_neg (by omega)]
    simp
  | succ d ih =>
    intro k m i hk h0 hd hm hmd hj
    obtain ⟨k, rfl⟩ : ∃ m, k = m + 1 := ⟨k - 1, by omega⟩
    have hi := hj i.toNat (by omega) (by omega)
    simp only [laws_heldInt64S.l0]
    rw [if_pos (by omega), if_pos h0, if_pos (by unfold rd; omega), w64 (x := m + 1) (by omega) (by omega), w64 (by omega) (by omega), ih k _ _ (by omega) (by omega) (by omega) (by omega) (by omega) (fun j h h' => by rw [hj j (by omega) h']; omega)]
    congr 1
    omega
/-- the marks of a list, and that they are held -/
theorem markInt64S_held (l : List Int) (hl : (l.length : Int) ≤ 1099511627776) (m : Int) (hm : 0 ≤ m) (hm' : m ≤ 2199023255552) : ∃ l', ∀ k, l.length < k →
    laws_markInt64S.f k l m = some (m + l.length, l') ∧ laws_heldInt64S.f k l' m = some (m + l.length) := by
  obtain ⟨l', e, e1, _, e3⟩ := markInt64S_l l.length (l.length + 1) l m 0 (by omega) (by omega) (by omega) hl hm (by omega) (by omega)
  refine ⟨l', fun k hk => ⟨?_, ?_⟩⟩
  · obtain ⟨l2, f, _⟩ := markInt64S_l l.length k l m 0 hk (by omega) (by omega) hl hm (by omega) (by omega)
    have : laws_markInt64S.l0 k l m 0 = some (m + l.length, l') := at_rounds (g := fun k => laws_markInt64S.l0 k l m 0) (fun k => laws_markInt64S.mono_l k _ _ _) (by omega : l.length + 1 ≤ k) e
    exact this
  · unfold laws_heldInt64S.f
    exact heldInt64S_l l' (by omega) l.length k m 0 hk (by omega) (by omega) hm (by omega) (fun j h h' => e3 j h (by omega))
def gd_Int64S (x : List Int) : Prop := x.length ≤ maxLen ∧ ∀ y ∈ x, (Lit.int .i64 y).wf = true
def bd_Int64S (x : List Int) : Prop := x.length ≤ 1048576
def bi_Int64S (x : List Int) : Prop := x.length ≤ 1048576
theorem szL_Int64S (k : Nat) (hk : 1048578 ≤ k) (l : List Int) (g : l.length ≤ maxLen ∧ ∀ y ∈ l, (Lit.int .i64 y).wf = true) (n : Int) (hn : 0 ≤ n ∧ n ≤ 1048576) : ∃ r, laws_szInt64S.f l n = some r ∧ -1 ≤ r ∧ r ≤ n ∧ (0 ≤ r → l.length ≤ 1048576) := by
  have hl := g.1
  unfold maxLen at hl
  unfold laws_szInt64S.f
  rw [w64 (by omega) (by omega)]
  by_cases h : n - (l.length : Int) < 0
  · rw [if_pos h]; exact ⟨-1, rfl, by omega, by omega, fun h => by omega⟩
  · rw [if_neg h]; exact ⟨_, rfl, by omega, by omega, fun _ => by omega⟩
theorem szL_Packed (k : Nat) (hk : 1048578 ≤ k) (f0 : List Int) (f1 : List Int) (f2 : List Int) (f3 : List Int) (f4 : List Int) (f5 : List Int) (g : (f0.length ≤ maxLen ∧ ∀ y ∈ f0, (Lit.int .i64 y).wf = true) ∧ (f1.length ≤ maxLen ∧ ∀ y ∈ f1, (Lit.int .i64 y).wf = true) ∧ (f2.length ≤ maxLen ∧ ∀ y ∈ f2, (Lit.int .i64 y).wf = true) ∧ (f3.length ≤ maxLen ∧ ∀ y ∈ f3, (Lit.int .i64 y).wf = true) ∧ (f4.length ≤ maxLen ∧ ∀ y ∈ f4, (Lit.int .i64 y).wf = true) ∧ (f5.length ≤ maxLen ∧ ∀ y ∈ f5, (Lit.int .i64 y).wf = true)) (n : Int) (hn : 0 ≤ n ∧ n ≤ 1048576) : ∃ r, laws_szPacked.f f0 f1 f2 f3 f4 f5 n = some r ∧ -1 ≤ r ∧ r ≤ n ∧ (0 ≤ r → (f0.length ≤ 1048576) ∧ (f1.length ≤ 1048576) ∧ (f2.length ≤ 1048576) ∧ (f3.length ≤ 1048576) ∧ (f4.length ≤ 1048576) ∧ (f5.length ≤ 1048576)) := by
  unfold laws_szPacked.f
  obtain ⟨r1, e1, a1, b1, d1⟩ := szL_Int64S k (by omega) f0 g.1 n (by omega)
  rw [e1]
  simp only [Option.bind_some]
  by_cases c1 : r1 < 0
  · rw [if_pos c1]; exact ⟨-1, rfl, by omega, by omega, fun h => by omega⟩
  rw [if_neg c1]
  obtain ⟨r2, e2, a2, b2, d2⟩ := szL_Int64S k (by omega) f1 g.2.1 r1 (by omega)
  rw [e2]
  simp only [Option.bind_some]
  by_cases c2 : r2 < 0
  · rw [if_pos c2]; exact ⟨-1, rfl, by omega, by omega, fun h => by omega⟩
  rw [if_neg c2]
  obtain ⟨r3, e3, a3, b3, d3⟩ := szL_Int64S k (by omega) f2 g.2.2.1 r2 (by omega)
  rw [e3]
  simp only [Option.bind_some]
  by_cases c3 : r3 < 0
  · rw [if_pos c3]; exact ⟨-1, rfl, by omega, by omega, fun h => by omega⟩
  rw [if_neg c3]
  obtain ⟨r4, e4, a4, b4, d4⟩ := szL_Int64S k (by omega) f3 g.2.2.2.1 r3 (by omega)
  rw [e4]
  simp only [Option.bind_some]
  by_cases c4 : r4 < 0
  · rw [if_pos c4]; exact ⟨-1, rfl, by omega, by omega, fun h => by omega⟩
  rw [if_neg c4]
  obtain ⟨r5, e5, a5, b5, d5⟩ := szL_Int64S k (by omega) f4 g.2.2.2.2.1 r4 (by omega)
  rw [e5]
  simp only [Option.bind_some]
  by_cases c5 : r5 < 0
  · rw [if_pos c5]; exact ⟨-1, rfl, by omega, by omega, fun h => by omega⟩
  rw [if_neg c5]
  obtain ⟨r6, e6, a6, b6, d6⟩ := szL_Int64S k (by omega) f5 g.2.2.2.2.2 r5 (by omega)
  rw [e6]
  simp only [Option.bind_some]
  by_cases c6 : r6 < 0
  · rw [if_pos c6]; exact ⟨-1, rfl, by omega, by omega, fun h => by omega⟩
  rw [if_neg c6]
  exact ⟨r6, rfl, by omega, by omega, fun _ => ⟨(d1 (by omega)), (d2 (by omega)), (d3 (by omega)), (d4 (by omega)), (d5 (by omega)), (d6 (by omega))⟩⟩
theorem toL_Int64S_l (l : List Int) (hl : l.length ≤ 1048576) (d : Nat) : ∀ (k : Nat) (acc : List Int) (i : Int), d + 0 < k → 0 ≤ i → (l.length : Int) - i = d → acc.length = l.length →
    laws_toInt64S.l0 k l acc i = some (acc.take i.toNat ++ (l).drop i.toNat) := by
  induction d with
  | zero =>
    intro k acc i hk h0 hd ha
    obtain ⟨k, rfl⟩ : ∃ m, k = m + 1 := ⟨k - 1, by omega⟩
    simp only [laws_toInt64S.l0]
    rw [if_neg (by omega), List.take_of_length_le (by omega), List.drop_eq_nil_of_le (by first | omega | (rw [List.length_map]; omega)), List.append_nil]
  | succ d ih =>
    intro k acc i hk h0 hd ha
    obtain ⟨k, rfl⟩ : ∃ m, k = m + 1 := ⟨k - 1, by omega⟩
    have hi : i.toNat < l.length := by omega
    have e : rd l i = l[i.toNat] := by
      unfold rd
      rw [List.getD_eq_getElem?_getD, List.getElem?_eq_getElem hi]
      rfl
    simp only [laws_toInt64S.l0, e]
    rw [if_pos (by omega), if_pos h0, if_pos (by omega), w64 (by omega) (by omega), ih k _ _ (by omega) (by omega) (by omega) (by simpa using ha)]
    have e1 : (i + 1).toNat = i.toNat + 1 := by omega
    rw [e1, List.take_succ_eq_append_getElem (by simp; omega), List.take_set_of_le (Nat.le_refl _), List.getElem_set_self, List.append_assoc, List.singleton_append]
    congr 2
    rw [List.drop_eq_getElem_cons (i := i.toNat) hi]
theorem toL_Int64S (k : Nat) (hk : 1048578 ≤ k) (l : List Int) (g : l.length ≤ 1048576) : laws_toInt64S.f k l = some (l) := by
  have hl : l.length ≤ 1048576 := g
  unfold laws_toInt64S.f
  rw [if_pos (by omega), if_pos (by omega), toL_Int64S_l l hl l.length k _ 0 (by omega) (by omega) (by omega) (by simp)]
  simp
theorem toL_Packed (k : Nat) (hk : 1048578 ≤ k) (f0 : List Int) (f1 : List Int) (f2 : List Int) (f3 : List Int) (f4 : List Int) (f5 : List Int) (g : (f0.length ≤ 1048576) ∧ (f1.length ≤ 1048576) ∧ (f2.length ≤ 1048576) ∧ (f3.length ≤ 1048576) ∧ (f4.length ≤ 1048576) ∧ (f5.length ≤ 1048576)) : laws_toPacked.f k f0 f1 f2 f3 f4 f5 = some (f0, f1, f2, f3, f4, f5) := by
  unfold laws_toPacked.f
  rw [toL_Int64S k (by omega) f0 (g.1)]
  simp only [Option.bind_some]
  rw [toL_Int64S k (by omega) f1 (g.2.1)]
  simp only [Option.bind_some]
  rw [toL_Int64S k (by omega) f2 (g.2.2.1)]
  simp only [Option.bind_some]
  rw [toL_Int64S k (by omega) f3 (g.2.2.2.1)]
  simp only [Option.bind_some]
  rw [toL_Int64S k (by omega) f4 (g.2.2.2.2.1)]
  simp only [Option.bind_some]
  rw [toL_Int64S k (by omega) f5 (g.2.2.2.2.2)]
  simp only [Option.bind_some]
  all_goals (first | rfl | simp)
theorem eqL_Int64S_l (l : List Int) (hl : l.length ≤ 1048576) (d : Nat) : ∀ (k : Nat) (i : Int), d + 0 < k → 0 ≤ i → (l.length : Int) - i = d → laws_eqInt64S.l0 k l l i = some true := by
  induction d with
  | zero =>
    intro k i hk h0 hd
    obtain ⟨k, rfl⟩ : ∃ m, k = m + 1 := ⟨k - 1, by omega⟩
    simp only [laws_eqInt64S.l0]
    rw [if_neg (by omega)]
  | succ d ih =>
    intro k i hk h0 hd
    obtain ⟨k, rfl⟩ : ∃ m, k = m + 1 := ⟨k - 1, by omega⟩
    have hi : i.toNat < l.length := by omega
    simp only [laws_eqInt64S.l0]
    rw [if_pos (by omega), if_pos h0, if_pos (by omega)]
    simp only [if_true]
    rw [w64 (by omega) (by omega)]
    exact ih k _ (by omega) (by omega) (by omega)
theorem eqL_Int64S (k : Nat) (hk : 1048578 ≤ k) (l : List Int) (g : l.length ≤ 1048576) : laws_eqInt64S.f k l l = some true := by
  have hl : l.length ≤ 1048576 := g
  unfold laws_eqInt64S.f
  simp only [if_true]
  exact eqL_Int64S_l l hl l.length k 0 (by omega) (by omega) (by omega)
theorem eqL_Packed (k : Nat) (hk : 1048578 ≤ k) (f0 : List Int) (f1 : List Int) (f2 : List Int) (f3 : List Int) (f4 : List Int) (f5 : List Int) (g : (f0.length ≤ 1048576) ∧ (f1.length ≤ 1048576) ∧ (f2.length ≤ 1048576) ∧ (f3.length ≤ 1048576) ∧ (f4.length ≤ 1048576) ∧ (f5.length ≤ 1048576)) : laws_eqPacked.f k f0 f1 f2 f3 f4 f5 f0 f1 f2 f3 f4 f5 = some true := by
  unfold laws_eqPacked.f
  simp [eqL_Int64S k (by omega) f0 (g.1), eqL_Int64S k (by omega) f1 (g.2.1), eqL_Int64S k (by omega) f2 (g.2.2.1), eqL_Int64S k (by omega) f3 (g.2.2.2.1), eqL_Int64S k (by omega) f4 (g.2.2.2.2.1), eqL_Int64S k (by omega) f5 (g.2.2.2.2.2)]
theorem sBlocks_l (l : List Int) (hl : l.length = 256) (d : Nat) : ∀ (k i : Nat) (n : Int), d < k → 256 - i = d → i ≤ 256 → 0 ≤ n → n ≤ i → spec_l7Blocks.l0 k l n (i : Int) = some ((blkLoop l d i n).getD (-1)) := by
  induction d with
  | zero =>
    intro k i n hk hd hi h0 h1
    obtain ⟨k, rfl⟩ : ∃ m, k = m + 1 := ⟨k - 1, by omega⟩
    simp only [spec_l7Blocks.l0]
    rw [if_neg (by omega)]
    rfl
  | succ d ih =>
    intro k i n hk hd hi h0 h1
    obtain ⟨k, rfl⟩ : ∃ m, k = m + 1 := ⟨k - 1, by omega⟩
    simp only [spec_l7Blocks.l0, sIn, Option.bind_some, decide_eq_true_eq]
    rw [if_pos (by omega), if_pos (by omega), if_pos (by omega)]
    unfold blkLoop
    by_cases hc : 0 ≤ rd l (i : Int) ∧ rd l (i : Int) ≤ n
    · rw [if_pos hc, if_pos hc, w64 (x := rd l (i : Int) + 1) (by omega) (by omega), nat_next (by omega)]
      exact ih k (i + 1) _ (by omega) (by omega) (by omega) (by have := le_mx_left n (rd l (i : Int) + 1); omega) (mx_le (by omega) (by omega))
    · rw [if_neg hc, if_neg hc]
      rfl
theorem sBlocks (l : List Int) (k : Nat) (hk : 300 ≤ k) : spec_l7Blocks.f k l = some ((blocksM l).getD (-1)) := by
  unfold spec_l7Blocks.f blocksM
  by_cases h : l.length = 256
  · rw [if_pos (by omega), if_pos h]
    exact sBlocks_l l h 256 k 0 0 (by omega) (by omega) (by omega) (by omega) (by omega)
  · rw [if_neg (by omega), if_neg h]
    rfl
theorem iBlocks_l (l : List Int) (hl : l.length ≤ 1048576) (d : Nat) : ∀ (k i : Nat) (n : Int), d < k → l.length - i = d → i ≤ l.length → 0 ≤ n → n ≤ i →
    impl_blocksOk.l0 k l (n - 1) l (l.length : Int) (i : Int) = some (match blkLoop l d i n with | some m => (m, ((l.length : Int) == 256)) | none => (0, false)) := by
  induction d with
  | zero =>
    intro k i n hk hd hi h0 h1
    obtain ⟨k, rfl⟩ : ∃ m, k = m + 1 := ⟨k - 1, by omega⟩
    simp only [impl_blocksOk.l0]
    rw [if_neg (by omega), w64 (by omega) (by omega), Int.sub_add_cancel]
    rfl
  | succ d ih =>
    intro k i n hk hd hi h0 h1
    obtain ⟨k, rfl⟩ : ∃ m, k = m + 1 := ⟨k - 1, by omega⟩
    simp only [impl_blocksOk.l0, iWithin, Option.bind_some, decide_eq_true_eq]
    rw [if_pos (by omega), if_pos (by omega), if_pos (by omega), w64 (x := n - 1 + 1) (by omega) (by omega), Int.sub_add_cancel]
    unfold blkLoop
    by_cases hc : 0 ≤ rd l (i : Int) ∧ rd l (i : Int) ≤ n
    · rw [if_pos hc, if_pos hc, nat_next (by omega)]
      have e : mx (n - 1) (rd l (i : Int)) = mx n (rd l (i : Int) + 1) - 1 := by unfold mx; split <;> split <;> omega
      rw [e]
      exact ih k (i + 1) _ (by omega) (by omega) (by omega) (by have := le_mx_left n (rd l (i : Int) + 1); omega) (mx_le (by omega) (by omega))
    · rw [if_neg hc, if_neg hc]
/-- what the program's blocksOk tells -/
theorem iBlocks (l : List Int) (hl : l.length ≤ 1048576) (k : Nat) (hk : 1048578 ≤ k) : ∃ r, impl_blocksOk.f k l = some r ∧ r.2 = (blocksM l).isSome ∧ ∀ m, blocksM l = some m → r.1 = m := by
  unfold impl_blocksOk.f
  have e : impl_blocksOk.l0 k l (-1) l (l.length : Int) 0 = _ := iBlocks_l l hl l.length k 0 0 (by omega) (by omega) (by omega) (by omega) (by omega)
  refine ⟨_, e, ?_, ?_⟩
  · unfold blocksM
    by_cases h : l.length = 256
    · rw [if_pos h, h]
      cases blkLoop l 256 0 0 <;> rfl
    · rw [if_neg h]
      cases blkLoop l l.length 0 0
      · rfl
      · show ((l.length : Int) == 256) = false
        rw [beq_eq_false_iff_ne]
        omega
  · intro m hm
    unfold blocksM at hm
    by_cases h : l.length = 256
    · rw [if_pos h] at hm
      rw [h, hm]
    · rw [if_neg h] at hm
      exact absurd hm (by simp)
open Classical in
theorem areIn (l : List Int) (a b : Int) : impl_areWithin.f l a b = some (decide (inR l a b)) := by
  unfold impl_areWithin.f
  exact congrArg some (decide_eq_decide.2 (inR_mem l a b))

/-- the reference's rounds: a state's numbers; a cell's -/
def stP (n : Int) (base dflt acc : List Int) (i : Nat) : Prop := (0 ≤ rd base (i : Int) ∧ rd base (i : Int) ≤ 200000) ∧ (0 ≤ rd dflt (i : Int) ∧ rd dflt (i : Int) ≤ n - 1) ∧ (-1 ≤ rd acc (i : Int) ∧ rd acc (i : Int) ≤ 39)
def ceP (n : Int) (chk val : List Int) (i : Nat) : Prop := (-1 ≤ rd chk (i : Int) ∧ rd chk (i : Int) ≤ n - 1) ∧ (0 ≤ rd val (i : Int) ∧ rd val (i : Int) ≤ n - 1) ∧ (rd chk (i : Int) = -1 → rd val (i : Int) = 0)

open Classical in
theorem sPacked_l1 (n : Int) (hn : 1 ≤ n ∧ n ≤ 1000) (b base dflt chk val acc : List Int) (hv : chk.length = val.length) (hl : chk.length ≤ 200000) (d : Nat) : ∀ (k i : Nat), d < k → chk.length - i = d → i ≤ chk.length →
    spec_PackedOk.l1 k n (i : Int) b base dflt chk val acc = some (decide (fromN (ceP n chk val) chk.length i ∧ True)) := by
  induction d with
  | zero =>
    intro k i hk hd hi
    obtain ⟨k, rfl⟩ : ∃ m, k = m + 1 := ⟨k - 1, by omega⟩
    simp only [spec_PackedOk.l1]
    rw [if_neg (by omega), decide_eq_true ⟨fromN_end (by omega), trivial⟩]
  | succ d ih =>
    intro k i hk hd hi
    obtain ⟨k, rfl⟩ : ∃ m, k = m + 1 := ⟨k - 1, by omega⟩
    have hlt : i < chk.length := by omega
    simp only [spec_PackedOk.l1, sIn, Option.bind_some, decide_eq_true_eq]
    rw [if_pos (by omega), if_pos (by omega), w64 (x := n - 1) (by omega) (by omega), nat_next (by omega)]
    by_cases h1 : -1 ≤ rd chk (i : Int) ∧ rd chk (i : Int) ≤ n - 1
    · rw [if_pos h1, if_pos (by omega)]
      by_cases h2 : 0 ≤ rd val (i : Int) ∧ rd val (i : Int) ≤ n - 1
      · rw [if_pos h2]
        by_cases h3 : rd chk (i : Int) = -1
        · rw [if_pos h3]
          by_cases h4 : rd val (i : Int) = 0
          · rw [if_pos h4, ih k (i + 1) (by omega) (by omega) (by omega)]; exact congrArg some (decide_eq_decide.2 (fromN_go hlt ⟨h1, h2, fun _ => h4⟩))
          · rw [if_neg h4, decide_eq_false (fromN_no hlt (fun g => h4 (g.2.2 h3)))]
        · rw [if_neg h3, ih k (i + 1) (by omega) (by omega) (by omega)]; exact congrArg some (decide_eq_decide.2 (fromN_go hlt ⟨h1, h2, fun e => absurd e h3⟩))
      · rw [if_neg h2, decide_eq_false (fromN_no hlt (fun g => h2 g.2.1))]
    · rw [if_neg h1, decide_eq_false (fromN_no hlt (fun g => h1 g.1))]
open Classical in
theorem sPacked_l0 (n : Int) (hn : 1 ≤ n ∧ n ≤ 1000) (b base dflt chk val acc : List Int) (hb : (base.length : Int) = n) (hd' : (dflt.length : Int) = n) (ha : (acc.length : Int) = n) (d : Nat) : ∀ (k i : Nat), d + 200010 < k → base.length - i = d → i ≤ base.length →
    spec_PackedOk.l0 k n (i : Int) b base dflt chk val acc = some (decide (fromN (stP n base dflt acc) base.length i ∧ ((chk.length = val.length ∧ chk.length ≤ 200000) ∧ fromN (ceP n chk val) chk.length 0))) := by
  induction d with
  | zero =>
    intro k i hk hd hi
    obtain ⟨k, rfl⟩ : ∃ m, k = m + 2 := ⟨k - 2, by omega⟩
    simp only [spec_PackedOk.l0]
    rw [if_neg (by omega)]
    by_cases h1 : chk.length = val.length
    · rw [if_pos (by omega)]
      by_cases h2 : chk.length ≤ 200000
      · rw [decide_eq_false (by omega)]
        simp only [spec_PackedOk.j2]
        rw [if_neg (by simp)]
        have e : spec_PackedOk.l1 k n 0 b base dflt chk val acc = some (decide (fromN (ceP n chk val) chk.length 0 ∧ True)) := sPacked_l1 n hn b base dflt chk val acc h1 h2 chk.length k 0 (by omega) (by omega) (by omega)
        rw [e]
        exact congrArg some (decide_eq_decide.2 ⟨fun h => ⟨fromN_end (by omega), ⟨h1, h2⟩, h.1⟩, fun h => ⟨h.2.2, trivial⟩⟩)
      · rw [decide_eq_true (by omega)]
        simp only [spec_PackedOk.j2]
        rw [if_pos trivial, decide_eq_false (fun g => h2 g.2.1.2)]
    · rw [if_neg (by omega)]
      simp only [spec_PackedOk.j2]
      rw [if_pos trivial, decide_eq_false (fun g => h1 g.2.1.1)]
  | succ d ih =>
    intro k i hk hd hi
    obtain ⟨k, rfl⟩ : ∃ m, k = m + 1 := ⟨k - 1, by omega⟩
    have hlt : i < base.length := by omega
    simp only [spec_PackedOk.l0, sIn, Option.bind_some, decide_eq_true_eq]
    rw [if_pos (by omega), if_pos (by omega), if_pos (by omega), w64 (x := n - 1) (by omega) (by omega), nat_next (by omega)]
    by_cases h1 : 0 ≤ rd base (i : Int) ∧ rd base (i : Int) ≤ 200000
    · rw [if_pos h1, if_pos (by omega)]
      by_cases h2 : 0 ≤ rd dflt (i : Int) ∧ rd dflt (i : Int) ≤ n - 1
      · rw [if_pos h2, if_pos (by omega)]
        by_cases h3 : -1 ≤ rd acc (i : Int) ∧ rd acc (i : Int) ≤ 39
        · rw [if_pos h3, ih k (i + 1) (by omega) (by omega) (by omega)]; exact congrArg some (decide_eq_decide.2 (fromN_go hlt ⟨h1, h2, h3⟩))
        · rw [if_neg h3, decide_eq_false (fromN_no hlt (fun g => h3 g.2.2))]
      · rw [if_neg h2, decide_eq_false (fromN_no hlt (fun g => h2 g.2.1))]
    · rw [if_neg h1, decide_eq_false (fromN_no hlt (fun g => h1 g.1))]
theorem packed_rounds (b base dflt chk val acc : List Int) (h0 : (blocksM b).isSome = true) (h1 : 1 ≤ base.length ∧ base.length ≤ 1000 ∧ dflt.length = base.length ∧ acc.length = base.length) :
    (fromN (stP base.length base dflt acc) base.length 0 ∧ ((chk.length = val.length ∧ chk.length ≤ 200000) ∧ fromN (ceP base.length chk val) chk.length 0)) ↔ packedOk b base dflt chk val acc := by
  constructor
  · rintro ⟨hs, hc, hv⟩
    refine ⟨h0, h1, ⟨fun i hi => (hs i (by omega) hi).1, fun i hi => (hs i (by omega) (by omega)).2.1, fun i hi => (hs i (by omega) (by omega)).2.2⟩, hc, fun i hi => (hv i (by omega) hi).1, fun i hi => (hv i (by omega) (by omega)).2.1, fun i hi => (hv i (by omega) hi).2.2⟩
  · rintro ⟨_, _, ⟨g1, g2, g3⟩, hc, g4, g5, g6⟩
    exact ⟨fun i _ hi => ⟨g1 i hi, g2 i (by omega), g3 i (by omega)⟩, hc, fun i _ hi => ⟨g4 i hi, g5 i (by omega), g6 i hi⟩⟩
open Classical in
theorem sPackedOk (b base dflt chk val acc : List Int) (k : Nat) (hk : 300000 ≤ k) : spec_PackedOk.f k b base dflt chk val acc = some (decide (packedOk b base dflt chk val acc)) := by
  obtain ⟨k, rfl⟩ : ∃ m, k = m + 1 := ⟨k - 1, by omega⟩
  unfold spec_PackedOk.f
  rw [sBlocks b _ (by omega)]
  simp only [Option.bind_some]
  have no : ¬ packedOk b base dflt chk val acc → spec_PackedOk.j0 (k + 1) (base.length : Int) true b base dflt chk val acc = some (decide (packedOk b base dflt chk val acc)) := by
    intro h
    rw [decide_eq_false h]
    simp [spec_PackedOk.j0]
  cases hb : blocksM b with
  | none =>
    rw [if_pos (by simp)]
    exact no (fun g => by have := g.1; rw [hb] at this; exact absurd this (by simp))
  | some m =>
    have hm := blocksM_some hb
    rw [if_neg (by simp; omega)]
    by_cases h1 : (base.length : Int) < 1
    · rw [if_pos h1]
      exact no (fun g => by have := g.2.1; omega)
    · rw [if_neg h1]
      by_cases h2 : (base.length : Int) > 1000
      · rw [if_pos h2]
        exact no (fun g => by have := g.2.1; omega)
      · rw [if_neg h2]
        by_cases h3 : (dflt.length : Int) = (base.length : Int)
        · rw [if_pos h3]
          by_cases h4 : (acc.length : Int) = (base.length : Int)
          · have e4 : ((acc.length : Int) != (base.length : Int)) = false := bne_eq_false_iff_eq.2 h4
            rw [e4]
            simp only [spec_PackedOk.j0]
            rw [if_neg (by simp)]
            have e : spec_PackedOk.l0 k (base.length : Int) 0 b base dflt chk val acc = _ := sPacked_l0 (base.length : Int) (by omega) b base dflt chk val acc rfl h3 h4 base.length k 0 (by omega) (by omega) (by omega)
            rw [e]
            exact congrArg some (decide_eq_decide.2 (packed_rounds b base dflt chk val acc (by rw [hb]; rfl) (by omega)))
          · have e4 : ((acc.length : Int) != (base.length : Int)) = true := bne_iff_ne.2 h4
            rw [e4]
            exact no (fun g => by have := g.2.1; omega)
        · rw [if_neg h3]
          exact no (fun g => by have := g.2.1; omega)

open Classical in
theorem iPacked_l0 (b base dflt chk val acc : List Int) (hv : chk.length = val.length) (hl : chk.length ≤ 200000) (d : Nat) : ∀ (k i : Nat), d < k → chk.length - i = d → i ≤ chk.length →
    impl_PackedOk.l0 k chk (chk.length : Int) (i : Int) b base dflt chk val acc = some (decide (fromN (fun i => rd chk (i : Int) = -1 → rd val (i : Int) = 0) chk.length i ∧ True)) := by
  induction d with
  | zero =>
    intro k i hk hd hi
    obtain ⟨k, rfl⟩ : ∃ m, k = m + 1 := ⟨k - 1, by omega⟩
    simp only [impl_PackedOk.l0]
    rw [if_neg (by omega), decide_eq_true ⟨fromN_end (by omega), trivial⟩]
  | succ d ih =>
    intro k i hk hd hi
    obtain ⟨k, rfl⟩ : ∃ m, k = m + 1 := ⟨k - 1, by omega⟩
    have hlt : i < chk.length := by omega
    simp only [impl_PackedOk.l0]
    rw [if_pos (by omega), if_pos (by omega), if_pos (by omega), nat_next (by omega)]
    by_cases h3 : rd chk (i : Int) = -1
    · rw [if_pos h3, if_pos (by omega)]
      by_cases h4 : rd val (i : Int) = 0
      · rw [if_pos h4, ih k (i + 1) (by omega) (by omega) (by omega)]; exact congrArg some (decide_eq_decide.2 (fromN_go hlt (fun _ => h4)))
      · rw [if_neg h4, decide_eq_false (fromN_no hlt (fun g => h4 (g h3)))]
    · rw [if_neg h3, ih k (i + 1) (by omega) (by omega) (by omega)]; exact congrArg some (decide_eq_decide.2 (fromN_go hlt (fun e => absurd e h3)))
open Classical in
theorem iPackedOk (b base dflt chk val acc : List Int) (hbl : b.length ≤ 1048576) (k : Nat) (hk : 1300000 ≤ k) : impl_PackedOk.f k b base dflt chk val acc = some (decide (packedOk b base dflt chk val acc)) := by
  obtain ⟨k, rfl⟩ : ∃ m, k = m + 3 := ⟨k - 3, by omega⟩
  obtain ⟨r, er, r2, r1⟩ := iBlocks b hbl (k + 3) (by omega)
  unfold impl_PackedOk.f impl_size_int64.f
  rw [er]
  simp only [Option.bind_some, iWithin, decide_eq_true_eq, r2]
  have no : ∀ (x : Int), ¬ packedOk b base dflt chk val acc → impl_PackedOk.j0 (k + 3) x true b base dflt chk val acc = some (decide (packedOk b base dflt chk val acc)) := by
    intro x h
    rw [decide_eq_false h]
    simp [impl_PackedOk.j0]
  have no1 : ∀ (x : Int), ¬ packedOk b base dflt chk val acc → impl_PackedOk.j1 (k + 2) x true b base dflt chk val acc = some (decide (packedOk b base dflt chk val acc)) := by
    intro x h
    rw [decide_eq_false h]
    simp [impl_PackedOk.j1]
  have no2 : ¬ packedOk b base dflt chk val acc → impl_PackedOk.j2 (k + 1) true b base dflt chk val acc = some (decide (packedOk b base dflt chk val acc)) := by
    intro h
    rw [decide_eq_false h]
    simp [impl_PackedOk.j2]
  by_cases hb : (blocksM b).isSome = true
  · rw [if_pos hb]
    by_cases h1 : 1 ≤ (base.length : Int) ∧ (base.length : Int) ≤ 1000
    · rw [if_pos h1]
      by_cases h3 : (dflt.length : Int) = (base.length : Int)
      · rw [if_pos h3]
        by_cases h4 : (acc.length : Int) = (base.length : Int)
        · have e4 : ((acc.length : Int) != (base.length : Int)) = false := bne_eq_false_iff_eq.2 h4
          rw [e4]
          simp only [impl_PackedOk.j0, areIn, Option.bind_some, decide_eq_true_eq]
          rw [if_neg (by simp), w64 (x := (base.length : Int) - 1) (by omega) (by omega)]
          by_cases g1 : inR base 0 200000
          · rw [if_pos g1]
            by_cases g2 : inR dflt 0 ((base.length : Int) - 1)
            · rw [if_pos g2]
              by_cases g3 : inR acc (-1) 39
              · rw [decide_eq_true g3]
                simp only [impl_PackedOk.j1, areIn, Option.bind_some, decide_eq_true_eq, Bool.not_true]
                rw [if_neg (by simp), w64 (x := (base.length : Int) - 1) (by omega) (by omega)]
                by_cases c1 : (chk.length : Int) = (val.length : Int)
                · rw [if_pos c1]
                  by_cases c2 : (chk.length : Int) > 200000
                  · rw [if_pos c2]
                    exact no2 (fun g => by have := g.2.2.2.1; omega)
                  · rw [if_neg c2]
                    by_cases g4 : inR chk (-1) ((base.length : Int) - 1)
                    · rw [if_pos g4]
                      by_cases g5 : inR val 0 ((base.length : Int) - 1)
                      · rw [decide_eq_true g5]
                        simp only [impl_PackedOk.j2, Bool.not_true]
                        rw [if_neg (by simp)]
                        have e : impl_PackedOk.l0 k chk (chk.length : Int) 0 b base dflt chk val acc = _ := iPacked_l0 b base dflt chk val acc (by omega) (by omega) chk.length k 0 (by omega) (by omega) (by omega)
                        rw [e]
                        refine congrArg some (decide_eq_decide.2 ⟨fun h => ⟨hb, by omega, ⟨g1, g2, g3⟩, by omega, g4, g5, fun i hi => h.1 i (by omega) hi⟩, fun h => ⟨fun i _ hi => h.2.2.2.2.2.2 i hi, trivial⟩⟩)
                      · rw [decide_eq_false g5]
                        exact no2 (fun g => g5 g.2.2.2.2.2.1)
                    · rw [if_neg g4]
                      exact no2 (fun g => g4 g.2.2.2.2.1)
                · rw [if_neg c1]
                  exact no2 (fun g => by have := g.2.2.2.1; omega)
              · rw [decide_eq_false g3]
                exact no1 _ (fun g => g3 g.2.2.1.2.2)
            · rw [if_neg g2]
              exact no1 _ (fun g => g2 g.2.2.1.2.1)
          · rw [if_neg g1]
            exact no1 _ (fun g => g1 g.2.2.1.1)
        · have e4 : ((acc.length : Int) != (base.length : Int)) = true := bne_iff_ne.2 h4
          rw [e4]
          exact no _ (fun g => by have := g.2.1; omega)
      · rw [if_neg h3]
        exact no _ (fun g => by have := g.2.1; omega)
    · rw [if_neg h1]
      exact no _ (fun g => by have := g.2.1; omega)
  · rw [if_neg hb]
    exact no _ (fun g => hb g.1)
theorem inR_at {l : List Int} {a b : Int} (h : inR l a b) {i : Int} (h0 : 0 ≤ i) (h1 : i < l.length) : a ≤ rd l i ∧ rd l i ≤ b := by
  have := h i.toNat (by omega)
  rwa [Int.toNat_of_nonneg h0] at this
/-- a step in packed rows -/
def nextM (base dflt chk val : List Int) (a c : Int) : Int := if rd base a + c < chk.length ∧ rd chk (rd base a + c) = a then rd val (rd base a + c) else rd dflt a
theorem sStep {b base dflt chk val acc : List Int} (h : packedOk b base dflt chk val acc) {a c : Int} (a0 : 0 ≤ a) (a1 : a < base.length) (c0 : 0 ≤ c) (c1 : c < 256) :
    spec_l10Next.f b base dflt chk val acc a c = some (nextM base dflt chk val a c) := by
  have hb := inR_at h.2.2.1.1 a0 a1
  have hl := h.2.1.2.2.1
  have hv := h.2.2.2.1.1
  unfold spec_l10Next.f nextM
  rw [w64 (by omega) (by omega), if_pos a0, if_pos a1]
  by_cases h1 : rd base a + c < chk.length
  · rw [if_pos h1, if_pos (by omega)]
    by_cases h2 : rd chk (rd base a + c) = a
    · rw [if_pos h2, if_pos (by omega), if_pos ⟨h1, h2⟩]
    · rw [if_neg h2, if_pos (by omega), if_neg (fun g => h2 g.2)]
  · rw [if_neg h1, if_pos (by omega), if_neg (fun g => h1 g.1)]
theorem iStep {b base dflt chk val acc : List Int} (h : packedOk b base dflt chk val acc) {a c : Int} (a0 : 0 ≤ a) (a1 : a < base.length) (c0 : 0 ≤ c) (c1 : c < 256) :
    impl_Packed_next.f b base dflt chk val acc a c = some (nextM base dflt chk val a c) := by
  have hb := inR_at h.2.2.1.1 a0 a1
  have hl := h.2.1.2.2.1
  have hv := h.2.2.2.1.1
  unfold impl_Packed_next.f nextM impl_size_int64.f
  simp only [Option.bind_some]
  rw [w64 (by omega) (by omega), if_pos a0, if_pos a1]
  by_cases h1 : rd base a + c < chk.length
  · rw [if_pos h1, if_pos (by omega), if_pos h1]
    by_cases h2 : rd chk (rd base a + c) = a
    · rw [if_pos h2, if_pos (by omega), if_pos ⟨h1, h2⟩]
    · rw [if_neg h2, if_pos (by omega), if_neg (fun g => h2 g.2)]
  · rw [if_neg h1, if_pos (by omega), if_neg (fun g => h1 g.1)]
/-- where the marks of a row of rows begin -/
def offI (x : List (List Int)) (m : Int) : Nat → Int
  | 0 => m
  | i + 1 => offI x m i + ((x.getD i []).length : Int)
theorem rowI {x : List (List Int)} (h : ∀ row ∈ x, row.length ≤ 1048576) (i : Nat) : (x.getD i []).length ≤ 1048576 := by
  rw [List.getD_eq_getElem?_getD]
  by_cases hi : i < x.length
  · rw [List.getElem?_eq_getElem hi]; exact h _ (List.getElem_mem hi)
  · rw [List.getElem?_eq_none (by omega)]; simp
theorem offI_rng {x : List (List Int)} (h : ∀ row ∈ x, row.length ≤ 1048576) (m : Int) : ∀ i, m ≤ offI x m i ∧ offI x m i ≤ m + 1048576 * (i : Int)
  | 0 => by simp [offI]
  | i + 1 => by have := offI_rng h m i; have := rowI h i; simp only [offI]; omega
def markedI (c : Int) (y : List Int) : Prop := ∀ j : Nat, (0 : Int) ≤ (j : Int) → j < y.length → y.getD j 0 = c + ((j : Int) - 0)
theorem getD_set_ri (l : List (List Int)) (a : Nat) (v : List Int) (j : Nat) (h : a < l.length) : (l.set a v).getD j [] = if a = j then v else l.getD j [] := by
  rw [List.getD_eq_getElem?_getD, List.getD_eq_getElem?_getD, List.getElem?_set]
  by_cases e : a = j
  · subst e; simp [h]
  · simp [e]
theorem markISS_l (x : List (List Int)) (hx : x.length ≤ 1048576) (h4 : ∀ row ∈ x, row.length ≤ 1048576) (m : Int) (m0 : 0 ≤ m ∧ m ≤ 1099511627776) (d : Nat) : ∀ (k i : Nat) (y : List (List Int)), d + 1048580 < k → x.length - i = d → i ≤ x.length → y.length = x.length → (∀ j, (y.getD j []).length = (x.getD j []).length) → (∀ j, j < i → markedI (offI x m j) (y.getD j [])) →
    ∃ y', laws_markInt64SS.l0 k y (offI x m i) (i : Int) = some (offI x m x.length, y') ∧ y'.length = x.length ∧ (∀ j, (y'.getD j []).length = (x.getD j []).length) ∧ (∀ j, j < x.length → markedI (offI x m j) (y'.getD j [])) := by
  induction d with
  | zero =>
    intro k i y hk hd hi hy hl hm
    obtain ⟨k, rfl⟩ : ∃ m, k = m + 1 := ⟨k - 1, by omega⟩
    obtain rfl : i = x.length := by omega
    exact ⟨y, by rw [laws_markInt64SS.l0, if_neg (by omega)], hy, hl, hm⟩
  | succ d ih =>
    intro k i y hk hd hi hy hl hm
    obtain ⟨k, rfl⟩ : ∃ m, k = m + 1 := ⟨k - 1, by omega⟩
    have o := offI_rng h4 m i
    have r4 := rowI h4 i
    have hli := hl i
    obtain ⟨z, e, z1, _, z2⟩ := markInt64S_l (y.getD i []).length k (y.getD i []) (offI x m i) 0 (by omega) (by omega) (by omega) (by omega) (by omega) (by omega) (by omega)
    have e' : laws_markInt64S.f k (y.getD i []) (offI x m i) = some (offI x m (i + 1), z) := by
      unfold laws_markInt64S.f
      rw [e, hli]
      rfl
    rw [laws_markInt64SS.l0, if_pos (by omega), if_pos (by omega), Int.toNat_natCast, e', Option.bind_some, nat_next (by omega)]
    refine ih k (i + 1) (y.set i z) (by omega) (by omega) (by omega) (by rw [List.length_set]; exact hy) (fun j => ?_) (fun j hj => ?_)
    · rw [getD_set_ri _ _ _ _ (by omega)]
      split
      · rename_i q; subst q; rw [z1, hli]
      · exact hl j
    · rw [getD_set_ri _ _ _ _ (by omega)]
      split
      · rename_i q; subst q; intro j' h0 h1; exact z2 j' h0 (by omega)
      · exact hm j (by omega)
theorem rdLI (y : List (List Int)) (i : Nat) : rd_L1 y (i : Int) = y.getD i [] := by
  unfold rd_L1
  rw [Int.toNat_natCast]
theorem heldISS_l (x y : List (List Int)) (hx : x.length ≤ 1048576) (h4 : ∀ row ∈ x, row.length ≤ 1048576) (m : Int) (m0 : 0 ≤ m ∧ m ≤ 1099511627776) (hy : y.length = x.length) (hl : ∀ j, (y.getD j []).length = (x.getD j []).length) (hm : ∀ j, j < x.length → markedI (offI x m j) (y.getD j [])) (d : Nat) : ∀ (k i : Nat), d + 1048580 < k → x.length - i = d → i ≤ x.length →
    laws_heldInt64SS.l0 k y (offI x m i) (i : Int) = some (offI x m x.length) := by
  induction d with
  | zero =>
    intro k i hk hd hi
    obtain ⟨k, rfl⟩ : ∃ m, k = m + 1 := ⟨k - 1, by omega⟩
    obtain rfl : i = x.length := by omega
    rw [laws_heldInt64SS.l0, if_neg (by omega)]
  | succ d ih =>
    intro k i hk hd hi
    obtain ⟨k, rfl⟩ : ∃ m, k = m + 1 := ⟨k - 1, by omega⟩
    have o := offI_rng h4 m i
    have o2 := offI_rng h4 m (i + 1)
    have r4 := rowI h4 i
    have hli := hl i
    have e' : laws_heldInt64S.f k (y.getD i []) (offI x m i) = some (offI x m (i + 1)) := by
      unfold laws_heldInt64S.f
      rw [heldInt64S_l (y.getD i []) (by omega) (y.getD i []).length k (offI x m i) 0 (by omega) (by omega) (by omega) (by omega) (by omega) (fun j h h' => hm i (by omega) j h h'), hli]
      rfl
    rw [laws_heldInt64SS.l0, if_pos (by omega), if_pos (by omega), rdLI, e', Option.bind_some, if_neg (by omega), nat_next (by omega)]
    exact ih k (i + 1) (by omega) (by omega) (by omega)
/-- the marks of rows of rows, and that they are held -/
theorem markISS_held (x : List (List Int)) (hx : x.length ≤ 1048576) (h4 : ∀ row ∈ x, row.length ≤ 1048576) (m : Int) (m0 : 0 ≤ m ∧ m ≤ 1099511627776) (k : Nat) (hk : 2097200 ≤ k) :
    ∃ m' y, laws_markInt64SS.f k x m = some (m', y) ∧ laws_heldInt64SS.f k y m = some m' ∧ m ≤ m' ∧ m' ≤ m + 1099511627776 := by
  obtain ⟨y, m1, m2, m3, m4⟩ := markISS_l x hx h4 m m0 x.length k 0 x (by omega) (by omega) (by omega) rfl (fun _ => rfl) (fun j hj => by omega)
  have hh := heldISS_l x y hx h4 m m0 m2 m3 m4 x.length k 0 (by omega) (by omega) (by omega)
  have o := offI_rng h4 m x.length
  exact ⟨_, y, m1, hh, by omega, by omega⟩
/-- two rows of rows that are one are told alike -/
theorem eqISS_l (x : List (List Int)) (hx : x.length ≤ 1048576) (h4 : ∀ row ∈ x, row.length ≤ 1048576) (d : Nat) : ∀ (k i : Nat), d + 1048580 < k → x.length - i = d → i ≤ x.length → laws_eqInt64SS.l0 k x x (i : Int) = some true := by
  induction d with
  | zero =>
    intro k i hk hd hi
    obtain ⟨k, rfl⟩ : ∃ m, k = m + 1 := ⟨k - 1, by omega⟩
    rw [laws_eqInt64SS.l0, if_neg (by omega)]
  | succ d ih =>
    intro k i hk hd hi
    obtain ⟨k, rfl⟩ : ∃ m, k = m + 1 := ⟨k - 1, by omega⟩
    have r4 := rowI h4 i
    rw [laws_eqInt64SS.l0, if_pos (by omega), if_pos (by omega), if_pos (by omega), rdLI, eqInt64S_same _ (by omega) k (by omega), Option.bind_some, if_pos rfl, nat_next (by omega)]
    exact ih k (i + 1) (by omega) (by omega) (by omega)
theorem eqISS (x : List (List Int)) (hx : x.length ≤ 1048576) (h4 : ∀ row ∈ x, row.length ≤ 1048576) (k : Nat) (hk : 2097200 ≤ k) : laws_eqInt64SS.f k x x = some true := by
  unfold laws_eqInt64SS.f
  rw [if_pos rfl]
  exact eqISS_l x hx h4 x.length k 0 (by omega) (by omega) (by omega)
/-- a table that came back: alike to itself, marked, and its marks held -/
theorem dfaMarks (b : List Int) (nx : List (List Int)) (acc : List Int) (hb : b.length ≤ 1048576) (hn : nx.length ≤ 1048576) (h4 : ∀ row ∈ nx, row.length ≤ 1048576) (ha : acc.length ≤ 1048576) (k : Nat) (hk : 3000000 ≤ k) :
    laws_eqDfa.f k b nx acc b nx acc = some true ∧ ∃ m y0 y1 y2, laws_markDfa.f k b nx acc 1 = some (m, y0, y1, y2) ∧ laws_heldDfa.f k y0 y1 y2 1 = some m ∧ 0 ≤ m := by
  constructor
  · unfold laws_eqDfa.f
    rw [eqInt64S_same b (by omega) k (by omega), Option.bind_some, if_pos rfl, eqISS nx hn h4 k (by omega), Option.bind_some, if_pos rfl, eqInt64S_same acc (by omega) k (by omega), Option.bind_some, if_pos rfl]
  · obtain ⟨y0, q0⟩ := markInt64S_held b (by omega) 1 (by omega) (by omega)
    obtain ⟨q1, q2⟩ := q0 k (by omega)
    obtain ⟨m1, y1, r1, r2, r3, r4⟩ := markISS_held nx hn h4 (1 + b.length) (by omega) k (by omega)
    obtain ⟨y2, s0⟩ := markInt64S_held acc (by omega) m1 (by omega) (by omega)
    obtain ⟨s1, s2⟩ := s0 k (by omega)
    refine ⟨m1 + acc.length, y0, y1, y2, ?_, ?_, by omega⟩
    · unfold laws_markDfa.f
      rw [q1, Option.bind_some, r1, Option.bind_some, s1, Option.bind_some]
    · unfold laws_heldDfa.f
      rw [q2, Option.bind_some, if_neg (by omega), r2, Option.bind_some, if_neg (by omega), s2, Option.bind_some, if_neg (by omega)]
theorem packMarks (b base dflt chk val acc : List Int) (h : b.length ≤ 1048576 ∧ base.length ≤ 1048576 ∧ dflt.length ≤ 1048576 ∧ chk.length ≤ 1048576 ∧ val.length ≤ 1048576 ∧ acc.length ≤ 1048576) (k : Nat) (hk : 2000000 ≤ k) : ∃ m y0 y1 y2 y3 y4 y5, laws_markPacked.f k b base dflt chk val acc 1 = some (m, y0, y1, y2, y3, y4, y5) ∧ 0 ≤ m := by
  obtain ⟨m1, q1, _⟩ := markInt64S_l b.length k b 1 0 (by omega) (by omega) (by omega) (by omega) (by omega) (by omega) (by omega)
  obtain ⟨m2, q2, _⟩ := markInt64S_l base.length k base (1 + b.length) 0 (by omega) (by omega) (by omega) (by omega) (by omega) (by omega) (by omega)
  obtain ⟨m3, q3, _⟩ := markInt64S_l dflt.length k dflt (1 + b.length + base.length) 0 (by omega) (by omega) (by omega) (by omega) (by omega) (by omega) (by omega)
  obtain ⟨m4, q4, _⟩ := markInt64S_l chk.length k chk (1 + b.length + base.length + dflt.length) 0 (by omega) (by omega) (by omega) (by omega) (by omega) (by omega) (by omega)
  obtain ⟨m5, q5, _⟩ := markInt64S_l val.length k val (1 + b.length + base.length + dflt.length + chk.length) 0 (by omega) (by omega) (by omega) (by omega) (by omega) (by omega) (by omega)
  obtain ⟨m6, q6, _⟩ := markInt64S_l acc.length k acc (1 + b.length + base.length + dflt.length + chk.length + val.length) 0 (by omega) (by omega) (by omega) (by omega) (by omega) (by omega) (by omega)
  refine ⟨1 + b.length + base.length + dflt.length + chk.length + val.length + acc.length, m1, m2, m3, m4, m5, m6, ?_, by omega⟩
  · unfold laws_markPacked.f
    rw [show laws_markInt64S.f k b 1 = _ from q1, Option.bind_some, show laws_markInt64S.f k base (1 + b.length) = _ from q2, Option.bind_some, show laws_markInt64S.f k dflt (1 + b.length + base.length) = _ from q3, Option.bind_some, show laws_markInt64S.f k chk (1 + b.length + base.length + dflt.length) = _ from q4, Option.bind_some, show laws_markInt64S.f k val (1 + b.length + base.length + dflt.length + chk.length) = _ from q5, Option.bind_some, show laws_markInt64S.f k acc (1 + b.length + base.length + dflt.length + chk.length + val.length) = _ from q6, Option.bind_some]
/-- what a function tells of the numbers from j on -/
def tl (f : Nat → Int) : Nat → Nat → List Int
  | 0, _ => []
  | d + 1, j => f j :: tl f d (j + 1)
theorem tl_len (f : Nat → Int) : ∀ d j, (tl f d j).length = d
  | 0, _ => rfl
  | d + 1, j => by simp only [tl, List.length_cons, tl_len f d (j + 1)]
def rowsU (f : Nat → Nat → Int) (m : Nat) : Nat → Nat → List (List Int)
  | 0, _ => []
  | d + 1, s => tl (f s) m 0 :: rowsU f m d (s + 1)
theorem rowsU_len (f : Nat → Nat → Int) (m : Nat) : ∀ d s, (rowsU f m d s).length = d
  | 0, _ => rfl
  | d + 1, s => by simp only [rowsU, List.length_cons, rowsU_len f m d (s + 1)]
theorem rowsU_row (f : Nat → Nat → Int) (m : Nat) : ∀ d s, ∀ row ∈ rowsU f m d s, row.length = m
  | 0, _, row, h => by simp [rowsU] at h
  | d + 1, s, row, h => by
    rw [rowsU, List.mem_cons] at h
    rcases h with rfl | h
    · exact tl_len _ _ _
    · exact rowsU_row f m d (s + 1) row h
section
variable {b base dflt chk val acc : List Int} (hp : packedOk b base dflt chk val acc) (X0 X2 : List Int)
include hp
theorem sU1 (m : Nat) (hm : m ≤ 256) (s : Nat) (hs : s < base.length) (X1 : List (List Int)) (hX : X1.length ≤ s) (K : Nat) (R : Option (List Int × List (List Int) × List Int × Bool)) : ∀ (d k j : Nat) (x : List Int), K + d + 1 < k → m - j = d → j ≤ m → x.length ≤ j → (∀ k, K < k → spec_Unpack.l0 k (m : Int) ((s + 1 : Nat) : Int) b base dflt chk val acc X0 (X1 ++ [x ++ tl (fun j => nextM base dflt chk val (s : Int) (j : Int)) d j]) X2 = R) →
    spec_Unpack.l1 k (m : Int) (s : Int) x (j : Int) b base dflt chk val acc X0 X1 X2 = R := by
  have h1000 := hp.2.1.2.1
  intro d
  induction d with
  | zero =>
    intro k j x hk hd hj hx G
    obtain ⟨k, rfl⟩ : ∃ m, k = m + 1 := ⟨k - 1, by omega⟩
    rw [spec_Unpack.l1, if_neg (by omega), if_pos (by omega), nat_next (by omega)]
    have := G k (by omega)
    rw [tl, List.append_nil] at this
    exact this
  | succ d ih =>
    intro k j x hk hd hj hx G
    obtain ⟨k, rfl⟩ : ∃ m, k = m + 1 := ⟨k - 1, by omega⟩
    rw [spec_Unpack.l1, if_pos (by omega), sStep hp (by omega) (by omega) (by omega) (by omega), Option.bind_some, if_pos (by omega), nat_next (by omega)]
    refine ih k (j + 1) _ (by omega) (by omega) (by omega) (by rw [List.length_append, List.length_singleton]; omega) (fun k hk => ?_)
    have := G k hk
    rw [tl] at this
    rw [List.append_assoc]
    exact this
theorem sU0 (m : Nat) (hm : m ≤ 256) : ∀ (d k s : Nat) (X1 : List (List Int)), d * 300 + 10 < k → base.length - s = d → s ≤ base.length → X1.length = s → spec_Unpack.l0 k (m : Int) (s : Int) b base dflt chk val acc X0 X1 X2 = some (X0, X1 ++ rowsU (fun s j => nextM base dflt chk val (s : Int) (j : Int)) m d s, X2, true) := by
  intro d
  induction d with
  | zero =>
    intro k s X1 hk hd hs hX
    obtain ⟨k, rfl⟩ : ∃ m, k = m + 1 := ⟨k - 1, by omega⟩
    rw [spec_Unpack.l0, if_neg (by omega), rowsU, List.append_nil]
  | succ d ih =>
    intro k s X1 hk hd hs hX
    obtain ⟨k, rfl⟩ : ∃ m, k = m + 1 := ⟨k - 1, by omega⟩
    rw [spec_Unpack.l0, if_pos (by omega)]
    refine sU1 hp X0 X2 m hm s (by omega) X1 (by omega) (d * 300 + 10) _ m k 0 [] (by omega) (by omega) (by omega) (by simp) (fun k hk => ?_)
    rw [ih k (s + 1) _ hk (by omega) (by omega) (by rw [List.length_append, List.length_singleton]; omega), rowsU, List.nil_append, List.append_assoc]
    rfl
theorem iU1 (m : Nat) (hm : m ≤ 256) (s : Nat) (hs : s < base.length) (x4 n : Int) (X1 : List (List Int)) (hX : X1.length ≤ s) (K : Nat) (R : Option (List Int × List (List Int) × List Int × Bool)) : ∀ (d k j : Nat) (x : List Int), K + d + 1 < k → m - j = d → j ≤ m → x.length ≤ j → (∀ k, K < k → impl_Unpack.l0 k x4 n ((s + 1 : Nat) : Int) b base dflt chk val acc X0 (X1 ++ [x ++ tl (fun j => nextM base dflt chk val (s : Int) (j : Int)) d j]) X2 = R) →
    impl_Unpack.l1 k x4 (s : Int) x n (s : Int) (m : Int) (j : Int) b base dflt chk val acc X0 X1 X2 = R := by
  have h1000 := hp.2.1.2.1
  intro d
  induction d with
  | zero =>
    intro k j x hk hd hj hx G
    obtain ⟨k, rfl⟩ : ∃ m, k = m + 1 := ⟨k - 1, by omega⟩
    rw [impl_Unpack.l1, if_neg (by omega), if_pos (by omega), nat_next (by omega)]
    have := G k (by omega)
    rw [tl, List.append_nil] at this
    exact this
  | succ d ih =>
    intro k j x hk hd hj hx G
    obtain ⟨k, rfl⟩ : ∃ m, k = m + 1 := ⟨k - 1, by omega⟩
    rw [impl_Unpack.l1, if_pos (by omega), iStep hp (by omega) (by omega) (by omega) (by omega), Option.bind_some, if_pos (by omega), nat_next (by omega)]
    refine ih k (j + 1) _ (by omega) (by omega) (by omega) (by rw [List.length_append, List.length_singleton]; omega) (fun k hk => ?_)
    have := G k hk
    rw [tl] at this
    rw [List.append_assoc]
    exact this
theorem iU0 (m : Nat) (hm : m ≤ 256) : ∀ (d k s : Nat) (X1 : List (List Int)), d * 300 + 10 < k → base.length - s = d → s ≤ base.length → X1.length = s → impl_Unpack.l0 k (m : Int) (base.length : Int) (s : Int) b base dflt chk val acc X0 X1 X2 = some (X0, X1 ++ rowsU (fun s j => nextM base dflt chk val (s : Int) (j : Int)) m d s, X2, true) := by
  intro d
  induction d with
  | zero =>
    intro k s X1 hk hd hs hX
    obtain ⟨k, rfl⟩ : ∃ m, k = m + 1 := ⟨k - 1, by omega⟩
    rw [impl_Unpack.l0, if_neg (by omega), rowsU, List.append_nil]
  | succ d ih =>
    intro k s X1 hk hd hs hX
    obtain ⟨k, rfl⟩ : ∃ m, k = m + 1 := ⟨k - 1, by omega⟩
    rw [impl_Unpack.l0, if_pos (by omega)]
    refine iU1 hp X0 X2 m hm s (by omega) (m : Int) (base.length : Int) X1 (by omega) (d * 300 + 10) _ m k 0 [] (by omega) (by omega) (by omega) (by simp) (fun k hk => ?_)
    rw [ih k (s + 1) _ hk (by omega) (by omega) (by rw [List.length_append, List.length_singleton]; omega), rowsU, List.nil_append, List.append_assoc]
    rfl
end
open Classical in
theorem unpack_both (b base dflt chk val acc : List Int) (hbl : b.length ≤ 1048576) : ∃ o0 o1 o2 bb, o0.length ≤ 1048576 ∧ o1.length ≤ 1048576 ∧ (∀ row ∈ o1, row.length ≤ 1048576) ∧ o2.length ≤ 1048576 ∧ ∀ k, 4000000 ≤ k → spec_Unpack.f k b base dflt chk val acc = some (o0, o1, o2, bb) ∧ impl_Unpack.f k b base dflt chk val acc = some (o0, o1, o2, bb) := by
  by_cases hp : packedOk b base dflt chk val acc
  · obtain ⟨m, hm⟩ := Option.isSome_iff_exists.1 hp.1
    obtain ⟨m0, m1, m2, m3⟩ := blocksM_some hm
    have hn := hp.2.1
    obtain ⟨mm, rfl⟩ : ∃ n : Nat, m = n := ⟨m.toNat, by omega⟩
    have hr := rowsU_row (fun s j => nextM base dflt chk val (s : Int) (j : Int)) mm base.length 0
    refine ⟨b, rowsU (fun s j => nextM base dflt chk val (s : Int) (j : Int)) mm base.length 0, acc, true, by omega, by rw [rowsU_len]; omega, fun row h => by rw [hr row h]; omega, by omega, fun k hk => ⟨?_, ?_⟩⟩
    · unfold spec_Unpack.f
      rw [sPackedOk b base dflt chk val acc k (by omega), decide_eq_true hp, Option.bind_some, if_pos rfl, Option.bind_some, if_pos (by simp; omega), Option.bind_some, if_pos (by simp; omega), sBlocks b k (by omega), hm, Option.bind_some, List.nil_append, List.nil_append]
      have e := sU0 hp b acc mm (by omega) base.length k 0 [] (by omega) (by omega) (by omega) rfl
      rw [List.nil_append] at e
      exact e
    · unfold impl_Unpack.f
      obtain ⟨⟨q, ok⟩, er, _, r1⟩ := iBlocks b hbl k (by omega)
      have e0 := r1 _ hm
      simp only at e0
      subst e0
      rw [iPackedOk b base dflt chk val acc hbl k (by omega), decide_eq_true hp, Option.bind_some, if_pos rfl, er, Option.bind_some]
      have cl : ∀ l : List Int, 0 < l.length ∧ l.length ≤ 4294967296 → slices_Clone_int64_int64.f l = some l := fun l h => by unfold slices_Clone_int64_int64.f; rw [if_pos h]
      rw [cl b (by omega), Option.bind_some, cl acc (by omega), Option.bind_some]
      have e := iU0 hp b acc mm (by omega) base.length k 0 [] (by omega) (by omega) (by omega) rfl
      rw [List.nil_append] at e
      exact e
  · refine ⟨[], [], [], false, by simp, by simp, by simp, by simp, fun k hk => ⟨?_, ?_⟩⟩
    · unfold spec_Unpack.f
      rw [sPackedOk b base dflt chk val acc k (by omega), decide_eq_false hp]
      rfl
    · unfold impl_Unpack.f
      rw [iPackedOk b base dflt chk val acc hbl k (by omega), decide_eq_false hp]
      rfl
theorem FnExactUnpack (x : List Int × List Int × List Int × List Int × List Int × List Int) (g : gd_Int64S x.1 ∧ gd_Int64S x.2.1 ∧ gd_Int64S x.2.2.1 ∧ gd_Int64S x.2.2.2.1 ∧ gd_Int64S x.2.2.2.2.1 ∧ gd_Int64S x.2.2.2.2.2) :
    ∃ k, laws_FnExactUnpack.f k x.1 x.2.1 x.2.2.1 x.2.2.2.1 x.2.2.2.2.1 x.2.2.2.2.2 = some true := by
  obtain ⟨b, base, dflt, chk, val, acc⟩ := x
  suffices ∀ k, 10000000 ≤ k → laws_FnExactUnpack.f k b base dflt chk val acc = some true from ⟨10000000, this _ (Nat.le_refl _)⟩
  intro k hk
  obtain ⟨r, e, _, _, h⟩ := szL_Packed k (by omega) b base dflt chk val acc g 1048576 (by omega)
  unfold laws_FnExactUnpack.f
  first | rw [e] | (rw [show laws_szPacked.f b base dflt chk val acc 1048576 = some r from e])
  simp only [Option.bind_some]
  by_cases hr : r < 0
  · rw [if_pos hr]
  · have hb := h (by omega)
    have hb' : b.length ≤ 1048576 ∧ base.length ≤ 1048576 ∧ dflt.length ≤ 1048576 ∧ chk.length ≤ 1048576 ∧ val.length ≤ 1048576 ∧ acc.length ≤ 1048576 := hb
    rw [if_neg hr, if_pos]
    obtain ⟨o0, o1, o2, bb, l0, l1, l2, l3, ho⟩ := unpack_both b base dflt chk val acc hb'.1
    obtain ⟨e1, m2, z0, z1, z2, e2, e3, e4⟩ := dfaMarks o0 o1 o2 l0 l1 l2 l3 k (by omega)
    obtain ⟨m, y0, y1, y2, y3, y4, y5, e5, e6⟩ := packMarks b base dflt chk val acc hb' k (by omega)
    exact ⟨o0, o1, o2, bb, m, m2, y0, y1, y2, y3, y4, y5, z0, z1, z2, toL_Packed k (by omega) b base dflt chk val acc hb, (ho k (by omega)).1, (ho k (by omega)).2, e1, eqL_Packed k (by omega) b base dflt chk val acc hb, e5, e6, e2, e3, e4⟩
end Go.Proofs.Ytabpfejdppfcdaa.Pure
