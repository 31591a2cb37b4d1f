/- The program's DfaLongest and the reference's come to one answer: whatever the table, the text and the place. -/
import Derived.Test.YtledhlgfiekmgaaPFnExactDfaLongestx6
import Derived.Test.YtledhlgfiekmgaaKit
import Derived.Test.YtledhlgfiekmgaaKitTab
namespace Go.Proofs.Ytledhlgfiekmgaa.Pure
open Go.RowKit Go.Proofs.Ytledhlgfiekmgaa.PFnExactDfaLongest Go.Proofs.YtledhlgfiekmgaaW.PrintWords Go.Proofs.YtledhlgfiekmgaaW.PrintLast Go.Proofs.YtledhlgfiekmgaaW.PrintMore Go.Proofs.Ytledhlgfiekmgaa.Kit
set_option linter.unusedVariables false
theorem sIn (a b c : Int) : spec_l1In.f a b c = some (decide (b ≤ a ∧ a ≤ c)) := by
  unfold spec_l1In.f
  by_cases h : a ≥ b
  · rw [if_pos h]; congr 1; simp; omega
  · rw [if_neg h]; congr 1; simp; omega
theorem iWithin (a b c : Int) : impl_within.f a b c = some (decide (b ≤ a ∧ a ≤ c)) := by
  unfold impl_within.f
  by_cases h : a ≥ b
  · rw [if_pos h]; congr 1; simp; omega
  · rw [if_neg h]; congr 1; simp; omega
def gd_Int64S (x : List Int) : Prop := x.length ≤ maxLen ∧ ∀ y ∈ x, (Lit.int .i64 y).wf = true
def bd_Int64S (x : List Int) : Prop := x.length ≤ 1048576
def bi_Int64S (x : List Int) : Prop := x.length ≤ 1048576
def gd_Int64SS (x : List (List Int)) : Prop := x.length ≤ maxLen ∧ ∀ y ∈ x, gd_Int64S y
def bd_Int64SS (x : List (List Int)) : Prop := x.length ≤ 1048576 ∧ ∀ y ∈ x, bd_Int64S y
def bi_Int64SS (x : List (List Int)) : Prop := x.length ≤ 1048576 ∧ ∀ y ∈ x, bi_Int64S y
theorem szL_Int64S (k : Nat) (hk : 1048578 ≤ k) (l : List Int) (g : l.length ≤ maxLen ∧ ∀ y ∈ l, (Lit.int .i64 y).wf = true) (n : Int) (hn : 0 ≤ n ∧ n ≤ 1048576) : ∃ r, laws_szInt64S.f l n = some r ∧ -1 ≤ r ∧ r ≤ n ∧ (0 ≤ r → l.length ≤ 1048576) := by
  have hl := g.1
  unfold maxLen at hl
  unfold laws_szInt64S.f
  rw [w64 (by omega) (by omega)]
  by_cases h : n - (l.length : Int) < 0
  · rw [if_pos h]; exact ⟨-1, rfl, by omega, by omega, fun h => by omega⟩
  · rw [if_neg h]; exact ⟨_, rfl, by omega, by omega, fun _ => by omega⟩
theorem szL_Int64SS_l (l : List (List Int)) (g : ∀ y ∈ l, gd_Int64S y) (hl : l.length ≤ 1048576) (d : Nat) : ∀ (k : Nat) (x i : Int), d + 1048578 < k → 0 ≤ i → (l.length : Int) - i = d → 0 ≤ x → x ≤ 1048576 →
    ∃ r, laws_szInt64SS.l0 k l x i = some r ∧ -1 ≤ r ∧ r ≤ x ∧ (0 ≤ r → ∀ j : Nat, i ≤ (j : Int) → (h : j < l.length) → bd_Int64S l[j]) := by
  induction d with
  | zero =>
    intro k x i hk h0 hd g0 g1
    obtain ⟨k, rfl⟩ : ∃ m, k = m + 1 := ⟨k - 1, by omega⟩
    refine ⟨x, ?_, by omega, by omega, fun _ j h1 h2 => by omega⟩
    simp only [laws_szInt64SS.l0]
    rw [if_neg (by omega)]
  | succ d ih =>
    intro k x i hk h0 hd g0 g1
    obtain ⟨k, rfl⟩ : ∃ m, k = m + 1 := ⟨k - 1, by omega⟩
    have hi : i.toNat < l.length := by omega
    have e : rd_L1 l i = l[i.toNat] := by
      unfold rd_L1
      rw [List.getD_eq_getElem?_getD, List.getElem?_eq_getElem hi]
      rfl
    have hg := g l[i.toNat] (List.getElem_mem hi)
    obtain ⟨r, er, r1, r2, r3⟩ := szL_Int64S k (by omega) l[i.toNat] hg x ⟨g0, g1⟩
    simp only [laws_szInt64SS.l0, e]
    rw [if_pos (by omega), if_pos h0, er]
    simp only [Option.bind_some]
    by_cases hr : r < 0
    · rw [if_pos hr]; exact ⟨-1, rfl, by omega, by omega, fun h => by omega⟩
    · rw [if_neg hr, w64 (by omega) (by omega)]
      obtain ⟨q, eq, q1, q2, q3⟩ := ih k r (i + 1) (by omega) (by omega) (by omega) (by omega) (by omega)
      refine ⟨q, eq, q1, by omega, fun h j h1 h2 => ?_⟩
      by_cases hj : (j : Int) = i
      · have : j = i.toNat := by omega
        subst this; exact r3 (by omega)
      · exact q3 h j (by omega) h2
theorem szL_Int64SS (k : Nat) (hk : 2097156 ≤ k) (l : List (List Int)) (g : l.length ≤ maxLen ∧ ∀ y ∈ l, gd_Int64S y) (n : Int) (hn : 0 ≤ n ∧ n ≤ 1048576) : ∃ r, laws_szInt64SS.f k l n = some r ∧ -1 ≤ r ∧ r ≤ n ∧ (0 ≤ r → l.length ≤ 1048576 ∧ ∀ y ∈ l, bd_Int64S y) := by
  have hl := g.1
  unfold maxLen at hl
  unfold laws_szInt64SS.f
  rw [w64 (x := n - (l.length : Int)) (by omega) (by omega)]
  by_cases h : n - (l.length : Int) < 0
  · rw [if_pos h]; exact ⟨-1, rfl, by omega, by omega, fun h => by omega⟩
  · rw [if_neg h]
    obtain ⟨r, e, r1, r2, r3⟩ := szL_Int64SS_l l g.2 (by omega) l.length k (n - (l.length : Int)) 0 (by omega) (by omega) (by omega) (by omega) (by omega)
    exact ⟨r, e, r1, by omega, fun hr => ⟨by omega, fun y hy => by
      obtain ⟨j, hj, rfl⟩ := List.mem_iff_getElem.1 hy
      exact r3 hr j (by omega) hj⟩⟩
theorem szL_Dfa (k : Nat) (hk : 2097156 ≤ k) (f0 : List Int) (f1 : List (List Int)) (f2 : List Int) (g : (f0.length ≤ maxLen ∧ ∀ y ∈ f0, (Lit.int .i64 y).wf = true) ∧ (f1.length ≤ maxLen ∧ ∀ y ∈ f1, gd_Int64S y) ∧ (f2.length ≤ maxLen ∧ ∀ y ∈ f2, (Lit.int .i64 y).wf = true)) (n : Int) (hn : 0 ≤ n ∧ n ≤ 1048576) : ∃ r, laws_szDfa.f k f0 f1 f2 n = some r ∧ -1 ≤ r ∧ r ≤ n ∧ (0 ≤ r → (f0.length ≤ 1048576) ∧ (f1.length ≤ 1048576 ∧ ∀ y ∈ f1, bd_Int64S y) ∧ (f2.length ≤ 1048576)) := by
  unfold laws_szDfa.f
  obtain ⟨r1, e1, a1, b1, d1⟩ := szL_Int64S k (by omega) f0 g.1 n (by omega)
  rw [e1]
  simp only [Option.bind_some]
  by_cases c1 : r1 < 0
  · rw [if_pos c1]; exact ⟨-1, rfl, by omega, by omega, fun h => by omega⟩
  rw [if_neg c1]
  obtain ⟨r2, e2, a2, b2, d2⟩ := szL_Int64SS k (by omega) f1 g.2.1 r1 (by omega)
  rw [e2]
  simp only [Option.bind_some]
  by_cases c2 : r2 < 0
  · rw [if_pos c2]; exact ⟨-1, rfl, by omega, by omega, fun h => by omega⟩
  rw [if_neg c2]
  obtain ⟨r3, e3, a3, b3, d3⟩ := szL_Int64S k (by omega) f2 g.2.2 r2 (by omega)
  rw [e3]
  simp only [Option.bind_some]
  by_cases c3 : r3 < 0
  · rw [if_pos c3]; exact ⟨-1, rfl, by omega, by omega, fun h => by omega⟩
  rw [if_neg c3]
  exact ⟨r3, rfl, by omega, by omega, fun _ => ⟨(d1 (by omega)), (d2 (by omega)), (d3 (by omega))⟩⟩
theorem toL_Int64S_l (l : List Int) (hl : l.length ≤ 1048576) (d : Nat) : ∀ (k : Nat) (acc : List Int) (i : Int), d + 0 < k → 0 ≤ i → (l.length : Int) - i = d → acc.length = l.length →
    laws_toInt64S.l0 k l acc i = some (acc.take i.toNat ++ (l).drop i.toNat) := by
  induction d with
  | zero =>
    intro k acc i hk h0 hd ha
    obtain ⟨k, rfl⟩ : ∃ m, k = m + 1 := ⟨k - 1, by omega⟩
    simp only [laws_toInt64S.l0]
    rw [if_neg (by omega), List.take_of_length_le (by omega), List.drop_eq_nil_of_le (by first | omega | (rw [List.length_map]; omega)), List.append_nil]
  | succ d ih =>
    intro k acc i hk h0 hd ha
    obtain ⟨k, rfl⟩ : ∃ m, k = m + 1 := ⟨k - 1, by omega⟩
    have hi : i.toNat < l.length := by omega
    have e : rd l i = l[i.toNat] := by
      unfold rd
      rw [List.getD_eq_getElem?_getD, List.getElem?_eq_getElem hi]
      rfl
    simp only [laws_toInt64S.l0, e]
    rw [if_pos (by omega), if_pos h0, if_pos (by omega), w64 (by omega) (by omega), ih k _ _ (by omega) (by omega) (by omega) (by simpa using ha)]
    have e1 : (i + 1).toNat = i.toNat + 1 := by omega
    rw [e1, List.take_succ_eq_append_getElem (by simp; omega), List.take_set_of_le (Nat.le_refl _), List.getElem_set_self, List.append_assoc, List.singleton_append]
    congr 2
    rw [List.drop_eq_getElem_cons (i := i.toNat) hi]
theorem toL_Int64S (k : Nat) (hk : 1048578 ≤ k) (l : List Int) (g : l.length ≤ 1048576) : laws_toInt64S.f k l = some (l) := by
  have hl : l.length ≤ 1048576 := g
  unfold laws_toInt64S.f
  rw [if_pos (by omega), if_pos (by omega), toL_Int64S_l l hl l.length k _ 0 (by omega) (by omega) (by omega) (by simp)]
  simp
theorem toL_Int64SS_l (l : List (List Int)) (g : ∀ y ∈ l, bd_Int64S y) (hl : l.length ≤ 1048576) (d : Nat) : ∀ (k : Nat) (acc : List (List Int)) (i : Int), d + 1048578 < k → 0 ≤ i → (l.length : Int) - i = d → acc.length = l.length →
    laws_toInt64SS.l0 k l acc i = some (acc.take i.toNat ++ (l).drop i.toNat) := by
  induction d with
  | zero =>
    intro k acc i hk h0 hd ha
    obtain ⟨k, rfl⟩ : ∃ m, k = m + 1 := ⟨k - 1, by omega⟩
    simp only [laws_toInt64SS.l0]
    rw [if_neg (by omega), List.take_of_length_le (by omega), List.drop_eq_nil_of_le (by first | omega | (rw [List.length_map]; omega)), List.append_nil]
  | succ d ih =>
    intro k acc i hk h0 hd ha
    obtain ⟨k, rfl⟩ : ∃ m, k = m + 1 := ⟨k - 1, by omega⟩
    have hi : i.toNat < l.length := by omega
    have e : rd_L1 l i = l[i.toNat] := by
      unfold rd_L1
      rw [List.getD_eq_getElem?_getD, List.getElem?_eq_getElem hi]
      rfl
    have ee := toL_Int64S k (by omega) l[i.toNat] (g l[i.toNat] (List.getElem_mem hi))
    simp only [laws_toInt64SS.l0, e]
    rw [if_pos (by omega), if_pos h0]
    first | rw [ee] | skip
    try simp only [Option.bind_some]
    rw [if_pos (by omega)]
    try rw [ee]
    try simp only [Option.bind_some]
    try rw [if_pos (by omega)]
    rw [w64 (by omega) (by omega)]
    rw [ih k _ _ (by omega) (by omega) (by omega) (by simpa using ha)]
    have e1 : (i + 1).toNat = i.toNat + 1 := by omega
    rw [e1, List.take_succ_eq_append_getElem (by simp; omega), List.take_set_of_le (Nat.le_refl _), List.getElem_set_self, List.append_assoc, List.singleton_append]
    congr 2
    rw [List.drop_eq_getElem_cons (i := i.toNat) hi]
theorem toL_Int64SS (k : Nat) (hk : 2097156 ≤ k) (l : List (List Int)) (g : l.length ≤ 1048576 ∧ ∀ y ∈ l, bd_Int64S y) : laws_toInt64SS.f k l = some (l) := by
  have hl : l.length ≤ 1048576 := g.1
  unfold laws_toInt64SS.f
  rw [if_pos (by omega), if_pos (by omega), toL_Int64SS_l l g.2 hl l.length k _ 0 (by omega) (by omega) (by omega) (by simp)]
  simp
theorem toL_Dfa (k : Nat) (hk : 2097156 ≤ k) (f0 : List Int) (f1 : List (List Int)) (f2 : List Int) (g : (f0.length ≤ 1048576) ∧ (f1.length ≤ 1048576 ∧ ∀ y ∈ f1, bd_Int64S y) ∧ (f2.length ≤ 1048576)) : laws_toDfa.f k f0 f1 f2 = some (f0, f1, f2) := by
  unfold laws_toDfa.f
  rw [toL_Int64S k (by omega) f0 (g.1)]
  simp only [Option.bind_some]
  rw [toL_Int64SS k (by omega) f1 (g.2.1)]
  simp only [Option.bind_some]
  rw [toL_Int64S k (by omega) f2 (g.2.2)]
  simp only [Option.bind_some]
  all_goals (first | rfl | simp)
theorem eqL_Int64S_l (l : List Int) (hl : l.length ≤ 1048576) (d : Nat) : ∀ (k : Nat) (i : Int), d + 0 < k → 0 ≤ i → (l.length : Int) - i = d → laws_eqInt64S.l0 k l l i = some true := by
  induction d with
  | zero =>
    intro k i hk h0 hd
    obtain ⟨k, rfl⟩ : ∃ m, k = m + 1 := ⟨k - 1, by omega⟩
    simp only [laws_eqInt64S.l0]
    rw [if_neg (by omega)]
  | succ d ih =>
    intro k i hk h0 hd
    obtain ⟨k, rfl⟩ : ∃ m, k = m + 1 := ⟨k - 1, by omega⟩
    have hi : i.toNat < l.length := by omega
    simp only [laws_eqInt64S.l0]
    rw [if_pos (by omega), if_pos h0, if_pos (by omega)]
    simp only [if_true]
    rw [w64 (by omega) (by omega)]
    exact ih k _ (by omega) (by omega) (by omega)
theorem eqL_Int64S (k : Nat) (hk : 1048578 ≤ k) (l : List Int) (g : l.length ≤ 1048576) : laws_eqInt64S.f k l l = some true := by
  have hl : l.length ≤ 1048576 := g
  unfold laws_eqInt64S.f
  simp only [if_true]
  exact eqL_Int64S_l l hl l.length k 0 (by omega) (by omega) (by omega)
theorem eqL_Int64SS_l (l : List (List Int)) (g : ∀ y ∈ l, bi_Int64S y) (hl : l.length ≤ 1048576) (d : Nat) : ∀ (k : Nat) (i : Int), d + 1048578 < k → 0 ≤ i → (l.length : Int) - i = d → laws_eqInt64SS.l0 k l l i = some true := by
  induction d with
  | zero =>
    intro k i hk h0 hd
    obtain ⟨k, rfl⟩ : ∃ m, k = m + 1 := ⟨k - 1, by omega⟩
    simp only [laws_eqInt64SS.l0]
    rw [if_neg (by omega)]
  | succ d ih =>
    intro k i hk h0 hd
    obtain ⟨k, rfl⟩ : ∃ m, k = m + 1 := ⟨k - 1, by omega⟩
    have hi : i.toNat < l.length := by omega
    have e : rd_L1 l i = l[i.toNat] := by
      unfold rd_L1
      rw [List.getD_eq_getElem?_getD, List.getElem?_eq_getElem hi]
      rfl
    have ee := eqL_Int64S k (by omega) l[i.toNat] (g l[i.toNat] (List.getElem_mem hi))
    simp only [laws_eqInt64SS.l0, e]
    rw [if_pos (by omega), if_pos h0, if_pos (by omega), ee]
    simp only [Option.bind_some, if_true]
    rw [w64 (by omega) (by omega)]
    exact ih k _ (by omega) (by omega) (by omega)
theorem eqL_Int64SS (k : Nat) (hk : 2097156 ≤ k) (l : List (List Int)) (g : l.length ≤ 1048576 ∧ ∀ y ∈ l, bi_Int64S y) : laws_eqInt64SS.f k l l = some true := by
  have hl : l.length ≤ 1048576 := g.1
  unfold laws_eqInt64SS.f
  simp only [if_true]
  exact eqL_Int64SS_l l g.2 hl l.length k 0 (by omega) (by omega) (by omega)
theorem eqL_Dfa (k : Nat) (hk : 2097156 ≤ k) (f0 : List Int) (f1 : List (List Int)) (f2 : List Int) (g : (f0.length ≤ 1048576) ∧ (f1.length ≤ 1048576 ∧ ∀ y ∈ f1, bi_Int64S y) ∧ (f2.length ≤ 1048576)) : laws_eqDfa.f k f0 f1 f2 f0 f1 f2 = some true := by
  unfold laws_eqDfa.f
  simp [eqL_Int64S k (by omega) f0 (g.1), eqL_Int64SS k (by omega) f1 (g.2.1), eqL_Int64S k (by omega) f2 (g.2.2)]
theorem sBlocks_l (l : List Int) (hl : l.length = 256) (d : Nat) : ∀ (k i : Nat) (n : Int), d < k → 256 - i = d → i ≤ 256 → 0 ≤ n → n ≤ i → spec_l7Blocks.l0 k l n (i : Int) = some ((blkLoop l d i n).getD (-1)) := by
  induction d with
  | zero =>
    intro k i n hk hd hi h0 h1
    obtain ⟨k, rfl⟩ : ∃ m, k = m + 1 := ⟨k - 1, by omega⟩
    simp only [spec_l7Blocks.l0]
    rw [if_neg (by omega)]
    rfl
  | succ d ih =>
    intro k i n hk hd hi h0 h1
    obtain ⟨k, rfl⟩ : ∃ m, k = m + 1 := ⟨k - 1, by omega⟩
    simp only [spec_l7Blocks.l0, sIn, Option.bind_some, decide_eq_true_eq]
    rw [if_pos (by omega), if_pos (by omega), if_pos (by omega)]
    unfold blkLoop
    by_cases hc : 0 ≤ rd l (i : Int) ∧ rd l (i : Int) ≤ n
    · rw [if_pos hc, if_pos hc, w64 (x := rd l (i : Int) + 1) (by omega) (by omega), nat_next (by omega)]
      exact ih k (i + 1) _ (by omega) (by omega) (by omega) (by have := le_mx_left n (rd l (i : Int) + 1); omega) (mx_le (by omega) (by omega))
    · rw [if_neg hc, if_neg hc]
      rfl
theorem sBlocks (l : List Int) (k : Nat) (hk : 300 ≤ k) : spec_l7Blocks.f k l = some ((blocksM l).getD (-1)) := by
  unfold spec_l7Blocks.f blocksM
  by_cases h : l.length = 256
  · rw [if_pos (by omega), if_pos h]
    exact sBlocks_l l h 256 k 0 0 (by omega) (by omega) (by omega) (by omega) (by omega)
  · rw [if_neg (by omega), if_neg h]
    rfl
theorem iBlocks_l (l : List Int) (hl : l.length ≤ 1048576) (d : Nat) : ∀ (k i : Nat) (n : Int), d < k → l.length - i = d → i ≤ l.length → 0 ≤ n → n ≤ i →
    impl_blocksOk.l0 k l (n - 1) l (l.length : Int) (i : Int) = some (match blkLoop l d i n with | some m => (m, ((l.length : Int) == 256)) | none => (0, false)) := by
  induction d with
  | zero =>
    intro k i n hk hd hi h0 h1
    obtain ⟨k, rfl⟩ : ∃ m, k = m + 1 := ⟨k - 1, by omega⟩
    simp only [impl_blocksOk.l0]
    rw [if_neg (by omega), w64 (by omega) (by omega), Int.sub_add_cancel]
    rfl
  | succ d ih =>
    intro k i n hk hd hi h0 h1
    obtain ⟨k, rfl⟩ : ∃ m, k = m + 1 := ⟨k - 1, by omega⟩
    simp only [impl_blocksOk.l0, iWithin, Option.bind_some, decide_eq_true_eq]
    rw [if_pos (by omega), if_pos (by omega), if_pos (by omega), w64 (x := n - 1 + 1) (by omega) (by omega), Int.sub_add_cancel]
    unfold blkLoop
    by_cases hc : 0 ≤ rd l (i : Int) ∧ rd l (i : Int) ≤ n
    · rw [if_pos hc, if_pos hc, nat_next (by omega)]
      have e : mx (n - 1) (rd l (i : Int)) = mx n (rd l (i : Int) + 1) - 1 := by unfold mx; split <;> split <;> omega
      rw [e]
      exact ih k (i + 1) _ (by omega) (by omega) (by omega) (by have := le_mx_left n (rd l (i : Int) + 1); omega) (mx_le (by omega) (by omega))
    · rw [if_neg hc, if_neg hc]
/-- what the program's blocksOk tells -/
theorem iBlocks (l : List Int) (hl : l.length ≤ 1048576) (k : Nat) (hk : 1048578 ≤ k) : ∃ r, impl_blocksOk.f k l = some r ∧ r.2 = (blocksM l).isSome ∧ ∀ m, blocksM l = some m → r.1 = m := by
  unfold impl_blocksOk.f
  have e : impl_blocksOk.l0 k l (-1) l (l.length : Int) 0 = _ := iBlocks_l l hl l.length k 0 0 (by omega) (by omega) (by omega) (by omega) (by omega)
  refine ⟨_, e, ?_, ?_⟩
  · unfold blocksM
    by_cases h : l.length = 256
    · rw [if_pos h, h]
      cases blkLoop l 256 0 0 <;> rfl
    · rw [if_neg h]
      cases blkLoop l l.length 0 0
      · rfl
      · show ((l.length : Int) == 256) = false
        rw [beq_eq_false_iff_ne]
        omega
  · intro m hm
    unfold blocksM at hm
    by_cases h : l.length = 256
    · rw [if_pos h] at hm
      rw [h, hm]
    · rw [if_neg h] at hm
      exact absurd hm (by simp)
theorem rdL_row (nx : List (List Int)) (i : Int) : rd_L1 nx i = drow nx i.toNat := rfl
def cellP (nx : List (List Int)) (s : Nat) (j : Nat) : Prop := 0 ≤ rd (drow nx s) (j : Int) ∧ rd (drow nx s) (j : Int) ≤ (nx.length : Int) - 1
open Classical in
theorem sDfa_l1 (b : List Int) (nx : List (List Int)) (acc : List Int) (hn : 1 ≤ nx.length ∧ nx.length ≤ 1000) (m : Int) (s : Nat) (hs : s < nx.length) (hm : ((drow nx s).length : Int) = m) (m1 : m ≤ 256) (K : Nat) (Q : Prop)
    (H : ∀ k, K < k → spec_DfaOk.l0 k (nx.length : Int) m ((s + 1 : Nat) : Int) b nx acc = some (decide Q)) (d : Nat) : ∀ (k j : Nat), d + K + 1 < k → (drow nx s).length - j = d → j ≤ (drow nx s).length →
    spec_DfaOk.l1 k (nx.length : Int) m (s : Int) (j : Int) b nx acc = some (decide (fromN (cellP nx s) (drow nx s).length j ∧ Q)) := by
  induction d with
  | zero =>
    intro k j hk hd hj
    obtain ⟨k, rfl⟩ : ∃ m, k = m + 1 := ⟨k - 1, by omega⟩
    simp only [spec_DfaOk.l1]
    rw [if_neg (by omega), nat_next (by omega), H k (by omega)]
    exact congrArg some (decide_eq_decide.2 ⟨fun h => ⟨fromN_end (by omega), h⟩, fun h => h.2⟩)
  | succ d ih =>
    intro k j hk hd hj
    obtain ⟨k, rfl⟩ : ∃ m, k = m + 1 := ⟨k - 1, by omega⟩
    have hlt : j < (drow nx s).length := by omega
    have es : ((s : Nat) : Int).toNat = s := by omega
    simp only [spec_DfaOk.l1, sIn, Option.bind_some, decide_eq_true_eq, rdL_row, es]
    rw [if_pos (by omega), if_pos (by omega), if_pos (by omega), if_pos (by omega), if_pos (by omega), w64 (x := (nx.length : Int) - 1) (by omega) (by omega), nat_next (by omega)]
    by_cases h1 : 0 ≤ rd (drow nx s) (j : Int) ∧ rd (drow nx s) (j : Int) ≤ (nx.length : Int) - 1
    · rw [if_pos h1, ih k (j + 1) (by omega) (by omega) (by omega)]; exact congrArg some (decide_eq_decide.2 (fromN_go hlt h1))
    · rw [if_neg h1, decide_eq_false (fromN_no hlt h1)]
open Classical in
theorem sDfa_l0 (b : List Int) (nx : List (List Int)) (acc : List Int) (hn : 1 ≤ nx.length ∧ nx.length ≤ 1000) (ha : acc.length = nx.length) (m : Int) (m1 : m ≤ 256) (d : Nat) : ∀ (k s : Nat), d * 300 < k → nx.length - s = d → s ≤ nx.length →
    spec_DfaOk.l0 k (nx.length : Int) m (s : Int) b nx acc = some (decide (fromN (rowP nx m acc) nx.length s)) := by
  induction d with
  | zero =>
    intro k s hk hd hs
    obtain ⟨k, rfl⟩ : ∃ m, k = m + 1 := ⟨k - 1, by omega⟩
    simp only [spec_DfaOk.l0]
    rw [if_neg (by omega), decide_eq_true (fromN_end (by omega))]
  | succ d ih =>
    intro k s hk hd hs
    obtain ⟨k, rfl⟩ : ∃ m, k = m + 2 := ⟨k - 2, by omega⟩
    have hlt : s < nx.length := by omega
    have es : ((s : Nat) : Int).toNat = s := by omega
    have hst := fromN_step (P := rowP nx m acc) hlt
    simp only [spec_DfaOk.l0, sIn, Option.bind_some, decide_eq_true_eq, rdL_row, es]
    rw [if_pos (by omega), if_pos (by omega), if_pos (by omega)]
    by_cases h1 : -1 ≤ rd acc (s : Int) ∧ rd acc (s : Int) ≤ 39
    · rw [if_pos h1, if_pos (by omega)]
      by_cases h2 : ((drow nx s).length : Int) = m
      · rw [bne_eq_false_iff_eq.2 h2]
        simp only [spec_DfaOk.j2]
        rw [if_neg (by simp)]
        have e : spec_DfaOk.l1 k (nx.length : Int) m (s : Int) 0 b nx acc = _ := sDfa_l1 b nx acc hn m s hlt h2 m1 (d * 300) _ (fun k hk => ih k (s + 1) hk (by omega) (by omega)) (drow nx s).length k 0 (by omega) (by omega) (by omega)
        rw [e]
        refine congrArg some (decide_eq_decide.2 ⟨fun h => hst.2 ⟨⟨h1, h2, fun i hi => h.1 i (by omega) hi⟩, h.2⟩, fun h => ⟨fun i _ hi => (hst.1 h).1.2.2 i hi, (hst.1 h).2⟩⟩)
      · rw [bne_iff_ne.2 h2]
        simp only [spec_DfaOk.j2]
        rw [if_pos trivial, decide_eq_false (fun h => h2 (hst.1 h).1.2.1)]
    · rw [if_neg h1]
      simp only [spec_DfaOk.j2]
      rw [if_pos trivial, decide_eq_false (fun h => h1 (hst.1 h).1.1)]
open Classical in
theorem sDfaOk (b : List Int) (nx : List (List Int)) (acc : List Int) (k : Nat) (hk : 400000 ≤ k) : spec_DfaOk.f k b nx acc = some (decide (dfaOk b nx acc)) := by
  obtain ⟨k, rfl⟩ : ∃ m, k = m + 1 := ⟨k - 1, by omega⟩
  unfold spec_DfaOk.f
  rw [sBlocks b _ (by omega)]
  simp only [Option.bind_some]
  have no : ∀ x, ¬ dfaOk b nx acc → spec_DfaOk.j0 (k + 1) (nx.length : Int) x true b nx acc = some (decide (dfaOk b nx acc)) := by
    intro x h
    rw [decide_eq_false h]
    simp [spec_DfaOk.j0]
  by_cases h1 : (nx.length : Int) < 1
  · rw [if_pos h1]
    exact no _ (fun ⟨m, _, g, _⟩ => by omega)
  · rw [if_neg h1]
    by_cases h2 : (nx.length : Int) > 1000
    · rw [if_pos h2]
      exact no _ (fun ⟨m, _, g, _⟩ => by omega)
    · rw [if_neg h2]
      by_cases h3 : (acc.length : Int) = (nx.length : Int)
      · rw [if_pos h3]
        cases hb : blocksM b with
        | none =>
          rw [decide_eq_true (by simp)]
          exact no _ (fun ⟨m, g, _, _⟩ => by rw [hb] at g; exact absurd g (by simp))
        | some m =>
          have hm := blocksM_some hb
          rw [decide_eq_false (by simp; omega)]
          simp only [spec_DfaOk.j0, Option.getD_some]
          rw [if_neg (by simp)]
          have e : spec_DfaOk.l0 k (nx.length : Int) m 0 b nx acc = _ := sDfa_l0 b nx acc (by omega) (by omega) m (by omega) nx.length k 0 (by omega) (by omega) (by omega)
          rw [e]
          exact congrArg some (decide_eq_decide.2 (dfaOk_iff hb (by omega)).symm)
      · rw [if_neg h3]
        exact no _ (fun ⟨m, _, g, _⟩ => by omega)
theorem drow_mem {nx : List (List Int)} {P : List Int → Prop} : (∀ row ∈ nx, P row) ↔ ∀ i, i < nx.length → P (drow nx i) := by
  unfold drow
  constructor
  · intro h i hi
    rw [List.getD_eq_getElem?_getD, List.getElem?_eq_getElem hi]
    exact h _ (List.getElem_mem hi)
  · intro h x hx
    obtain ⟨i, hi, rfl⟩ := List.mem_iff_getElem.1 hx
    have := h i hi
    rw [List.getD_eq_getElem?_getD, List.getElem?_eq_getElem hi] at this
    exact this
open Classical in
theorem iDfaOk (b : List Int) (nx : List (List Int)) (acc : List Int) (hbl : b.length ≤ 1048576) (k : Nat) (hk : 1300000 ≤ k) : impl_DfaOk.f k b nx acc = some (decide (dfaOk b nx acc)) := by
  obtain ⟨⟨m', ok⟩, er, r2, r1⟩ := iBlocks b hbl k (by omega)
  unfold impl_DfaOk.f
  by_cases h1 : 1 ≤ (nx.length : Int) ∧ (nx.length : Int) ≤ 1000
  · rw [if_pos h1]
    by_cases h2 : (acc.length : Int) = (nx.length : Int)
    · rw [if_pos h2]
      by_cases h3 : ∀ x ∈ acc, -1 ≤ x ∧ x ≤ 39
      · rw [if_pos h3, er]
        simp only [Option.bind_some]
        simp only at r2
        rw [r2]
        cases hb : blocksM b with
        | none =>
          rw [if_neg (by simp), decide_eq_false (fun ⟨m, g, _, _⟩ => by rw [hb] at g; exact absurd g (by simp))]
        | some m =>
          have e := r1 m hb
          simp only at e
          subst e
          rw [if_pos (by simp)]
          refine congrArg some (decide_eq_decide.2 ?_)
          rw [dfaOk_iff hb (by omega), drow_mem]
          rw [inR_mem] at h3
          constructor
          · intro h i _ hi
            have := h i hi
            exact ⟨h3 i (by omega), this.1, (inR_mem _ _ _).1 this.2⟩
          · intro h i hi
            have := h i (by omega) hi
            exact ⟨this.2.1, (inR_mem _ _ _).2 this.2.2⟩
      · rw [if_neg h3, decide_eq_false]
        rintro ⟨m, _, g, h⟩
        rw [inR_mem] at h3
        exact h3 (fun i hi => (h i (by omega) (by omega)).1)
    · rw [if_neg h2, decide_eq_false (fun ⟨m, _, g, _⟩ => by omega)]
  · rw [if_neg h1, decide_eq_false (fun ⟨m, _, g, _⟩ => by omega)]
/-- the states that a text goes through -/
def runM (b : List Int) (nx : List (List Int)) (acc : List Int) (t : ByteArray) : Nat → Int → Nat → Int
  | 0, s, _ => rd acc s
  | d + 1, s, i => runM b nx acc t d (stepM b nx s (bt t i)) (i + 1)
theorem iStep {b : List Int} {nx : List (List Int)} {acc : List Int} (h : dfaOk b nx acc) {s c : Int} (s0 : 0 ≤ s) (s1 : s < nx.length) (c0 : 0 ≤ c) (c1 : c < 256) :
    impl_Dfa_step.f b nx acc s c = some (stepM b nx s c) := by
  obtain ⟨h1, h2, ⟨h3, h4⟩, h5, h6⟩ := dfa_step h s0 s1 c0 c1
  unfold impl_Dfa_step.f
  rw [if_pos s0, if_pos s1, if_pos c0, if_pos (by omega), if_pos h3, if_pos (show rd b c < ((rd_L1 nx s).length : Int) from h4)]
  rfl

/-- the last letter that a text is taken at -/
def longM (b : List Int) (nx : List (List Int)) (acc : List Int) (t : ByteArray) : Nat → Int → Int → Int → Nat → Int × Int
  | 0, _, n, kd, _ => (n, kd)
  | d + 1, s, n, kd, i => let s' := stepM b nx s (bt t i); if rd acc s' ≥ 0 then longM b nx acc t d s' ((i + 1 : Nat) : Int) (rd acc s') (i + 1) else longM b nx acc t d s' n kd (i + 1)
theorem sLong_l {b : List Int} {nx : List (List Int)} {acc : List Int} (h : dfaOk b nx acc) (t : ByteArray) (ht : t.size ≤ 300) (d : Nat) : ∀ (k i : Nat) (s n kd : Int), d < k → t.size - i = d → i ≤ t.size → 0 ≤ s → s < nx.length →
    spec_DfaLongest.l0 k t s n kd (i : Int) b nx acc = some (longM b nx acc t d s n kd i) := by
  induction d with
  | zero =>
    intro k i s n kd hk hd hi s0 s1
    obtain ⟨k, rfl⟩ : ∃ m, k = m + 1 := ⟨k - 1, by omega⟩
    simp only [spec_DfaLongest.l0]
    rw [if_neg (by omega)]
    rfl
  | succ d ih =>
    intro k i s n kd hk hd hi s0 s1
    obtain ⟨k, rfl⟩ : ∃ m, k = m + 1 := ⟨k - 1, by omega⟩
    have c0 := bt_lo t i
    have c1 := bt_hi t i
    obtain ⟨h1, h2, ⟨h3, h4⟩, h5, h6⟩ := dfa_step h s0 s1 c0 (by omega)
    simp only [spec_DfaLongest.l0, longM]
    change 0 ≤ rd (rd_L1 nx s) (rd b (bt t i)) at h5
    change rd (rd_L1 nx s) (rd b (bt t i)) < _ at h6
    rw [if_pos (by omega), if_pos s0, if_pos s1, if_pos (by omega), if_pos c0, if_pos (by omega), if_pos h3, if_pos (show rd b (bt t i) < ((rd_L1 nx s).length : Int) from h4), if_pos h5, if_pos (by omega), nat_next (by omega)]
    by_cases hc : rd acc (stepM b nx s (bt t i)) ≥ 0
    · rw [if_pos hc]
      exact (if_pos hc).trans (ih k (i + 1) _ _ _ (by omega) (by omega) (by omega) h5 h6)
    · rw [if_neg hc]
      exact (if_neg hc).trans (ih k (i + 1) _ _ _ (by omega) (by omega) (by omega) h5 h6)
theorem iLong_l {b : List Int} {nx : List (List Int)} {acc : List Int} (h : dfaOk b nx acc) (t : ByteArray) (ht : t.size ≤ 300) (d : Nat) : ∀ (k i : Nat) (s n kd : Int), d < k → t.size - i = d → i ≤ t.size → 0 ≤ s → s < nx.length →
    impl_Dfa_longest.l0 k t n kd s (i : Int) b nx acc = some (longM b nx acc t d s n kd i) := by
  induction d with
  | zero =>
    intro k i s n kd hk hd hi s0 s1
    obtain ⟨k, rfl⟩ : ∃ m, k = m + 1 := ⟨k - 1, by omega⟩
    simp only [impl_Dfa_longest.l0, impl_length.f, Option.bind_some]
    rw [if_neg (by omega)]
    rfl
  | succ d ih =>
    intro k i s n kd hk hd hi s0 s1
    obtain ⟨k, rfl⟩ : ∃ m, k = m + 1 := ⟨k - 1, by omega⟩
    have c0 := bt_lo t i
    have c1 := bt_hi t i
    obtain ⟨h1, h2, ⟨h3, h4⟩, h5, h6⟩ := dfa_step h s0 s1 c0 (by omega)
    simp only [impl_Dfa_longest.l0, impl_length.f, Option.bind_some, longM]
    rw [if_pos (by omega), if_pos (by omega), if_pos (by omega), iStep h s0 s1 c0 (by omega)]
    simp only [Option.bind_some]
    rw [if_pos h5, if_pos (by omega), nat_next (by omega)]
    by_cases hc : rd acc (stepM b nx s (bt t i)) ≥ 0
    · rw [if_pos hc, if_pos hc]
      exact ih k (i + 1) _ _ _ (by omega) (by omega) (by omega) h5 h6
    · rw [if_neg hc, if_neg hc]
      exact ih k (i + 1) _ _ _ (by omega) (by omega) (by omega) h5 h6
open Classical in
noncomputable def longestM (b : List Int) (nx : List (List Int)) (acc : List Int) (t : ByteArray) (o : Int) : Int × Int := if dfaOk b nx acc ∧ t.size ≤ 300 ∧ 0 ≤ o ∧ o ≤ t.size then longM b nx acc t (t.size - o.toNat) 0 (-1) (-1) o.toNat else (-1, -1)
theorem dfaOk_pos {b : List Int} {nx : List (List Int)} {acc : List Int} (h : dfaOk b nx acc) : (0 : Int) < nx.length := by
  obtain ⟨_, _, g, _⟩ := h
  omega
open Classical in
theorem sLongest (b : List Int) (nx : List (List Int)) (acc : List Int) (t : ByteArray) (o : Int) (k : Nat) (hk : 2000000 ≤ k) : spec_DfaLongest.f k b nx acc t o = some (longestM b nx acc t o) := by
  unfold spec_DfaLongest.f
  rw [sDfaOk b nx acc k (by omega)]
  obtain ⟨k, rfl⟩ : ∃ m, k = m + 1 := ⟨k - 1, by omega⟩
  simp only [Option.bind_some, decide_eq_true_eq, spec_DfaLongest.j0, sIn]
  unfold longestM
  by_cases h : dfaOk b nx acc
  · rw [if_pos h]
    by_cases ht : (t.size : Int) > 300
    · rw [if_pos ht, if_pos trivial, if_neg (by omega)]
    · rw [if_neg ht]
      by_cases ho : 0 ≤ o ∧ o ≤ (t.size : Int)
      · have e := sLong_l h t (by omega) (t.size - o.toNat) k o.toNat 0 (-1) (-1) (by omega) (by omega) (by omega) (by omega) (dfaOk_pos h)
        rw [Int.toNat_of_nonneg ho.1] at e
        rw [decide_eq_true ho, if_neg (by simp), e, if_pos ⟨h, by omega, ho⟩]
      · rw [decide_eq_false ho, if_pos (by simp), if_neg (fun g => ho g.2.2)]
  · rw [if_neg h, if_pos trivial, if_neg (fun g => h g.1)]
open Classical in
theorem iLongest (b : List Int) (nx : List (List Int)) (acc : List Int) (hb : b.length ≤ 1048576) (t : ByteArray) (o : Int) (k : Nat) (hk : 2000000 ≤ k) : impl_DfaLongest.f k b nx acc t o = some (longestM b nx acc t o) := by
  unfold impl_DfaLongest.f
  rw [iDfaOk b nx acc hb k (by omega)]
  simp only [Option.bind_some, impl_length.f, iWithin, decide_eq_true_eq, impl_Dfa_longest.f]
  unfold longestM
  by_cases ht : (t.size : Int) > 300
  · rw [if_pos ht, if_neg (by omega)]
  · rw [if_neg ht]
    by_cases ho : 0 ≤ o ∧ o ≤ (t.size : Int)
    · rw [if_pos ho]
      by_cases h : dfaOk b nx acc
      · have e := iLong_l h t (by omega) (t.size - o.toNat) k o.toNat 0 (-1) (-1) (by omega) (by omega) (by omega) (by omega) (dfaOk_pos h)
        rw [Int.toNat_of_nonneg ho.1] at e
        rw [if_pos h, e, if_pos ⟨h, by omega, ho⟩]
        rfl
      · rw [if_neg h, if_neg (fun g => h g.1)]
    · rw [if_neg ho, if_neg (fun g => ho g.2.2)]
theorem FnExactDfaLongest (x : List Int × List (List Int) × List Int) (g : gd_Int64S x.1 ∧ gd_Int64SS x.2.1 ∧ gd_Int64S x.2.2) (w : ByteArray) (_ : w.size ≤ 140737488351232) (a : Int) (_ : (Lit.int .i64 a).wf = true) : ∃ k, laws_FnExactDfaLongest.f k x.1 x.2.1 x.2.2 w a = some true := by
  obtain ⟨b, nx, acc⟩ := x
  suffices ∀ k, 10000000 ≤ k → laws_FnExactDfaLongest.f k b nx acc w a = some true from ⟨10000000, this _ (Nat.le_refl _)⟩
  intro k hk
  obtain ⟨r, e, _, _, h⟩ := szL_Dfa k (by omega) b nx acc g 1048576 (by omega)
  unfold laws_FnExactDfaLongest.f
  by_cases hw : (w.size : Int) > 1048576
  · rw [if_pos hw]
  rw [if_neg hw, e]
  simp only [Option.bind_some]
  by_cases hr : r < 0
  · rw [if_pos hr]
  · have hb := h (by omega)
    rw [if_neg hr, toL_Dfa k (by omega) b nx acc hb]
    simp only [Option.bind_some]
    rw [sLongest b nx acc w a k (by omega), iLongest b nx acc hb.1 w a k (by omega)]
    obtain ⟨j, rfl⟩ : ∃ m, k = m + 1 := ⟨k - 1, by omega⟩
    simp only [Option.bind_some, if_true, bne_self_eq_false, laws_FnExactDfaLongest.j0, Bool.false_eq_true, if_false]
    rw [toL_Dfa j (by omega) b nx acc hb]
    simp only [Option.bind_some]
    rw [eqL_Dfa j (by omega) b nx acc hb]
    simp
end Go.Proofs.Ytledhlgfiekmgaa.Pure
