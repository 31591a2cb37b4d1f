/- The program's WitnessOf and the reference's come to one answer: whatever the table and the rule. -/
import Derived.Test.YtaemhmgcjpcicaaPFnExactWitnessOfx8
import Derived.Test.YtaemhmgcjpcicaaKit
import Derived.Test.YtaemhmgcjpcicaaKitTab
namespace Go.Proofs.Ytaemhmgcjpcicaa.Pure
open Go.RowKit Go.Proofs.Ytaemhmgcjpcicaa.PFnExactWitnessOf Go.Proofs.YtaemhmgcjpcicaaW.PrintWords Go.Proofs.YtaemhmgcjpcicaaW.PrintLast Go.Proofs.YtaemhmgcjpcicaaW.PrintMore Go.Proofs.Ytaemhmgcjpcicaa.Kit
set_option linter.unusedVariables false
theorem sIn (a b c : Int) : spec_l1In.f a b c = some (decide (b ≤ a ∧ a ≤ c)) := by
  unfold spec_l1In.f
  by_cases h : a ≥ b
  · rw [if_pos h]; congr 1; simp; omega
  · rw [if_neg h]; congr 1; simp; omega
theorem iWithin (a b c : Int) : impl_within.f a b c = some (decide (b ≤ a ∧ a ≤ c)) := by
  unfold impl_within.f
  by_cases h : a ≥ b
  · rw [if_pos h]; congr 1; simp; omega
  · rw [if_neg h]; congr 1; simp; omega
def gd_Int64S (x : List Int) : Prop := x.length ≤ maxLen ∧ ∀ y ∈ x, (Lit.int .i64 y).wf = true
def bd_Int64S (x : List Int) : Prop := x.length ≤ 1048576
def bi_Int64S (x : List Int) : Prop := x.length ≤ 1048576
def gd_Int64SS (x : List (List Int)) : Prop := x.length ≤ maxLen ∧ ∀ y ∈ x, gd_Int64S y
def bd_Int64SS (x : List (List Int)) : Prop := x.length ≤ 1048576 ∧ ∀ y ∈ x, bd_Int64S y
def bi_Int64SS (x : List (List Int)) : Prop := x.length ≤ 1048576 ∧ ∀ y ∈ x, bi_Int64S y
theorem szL_Int64S (k : Nat) (hk : 1048578 ≤ k) (l : List Int) (g : l.length ≤ maxLen ∧ ∀ y ∈ l, (Lit.int .i64 y).wf = true) (n : Int) (hn : 0 ≤ n ∧ n ≤ 1048576) : ∃ r, laws_szInt64S.f l n = some r ∧ -1 ≤ r ∧ r ≤ n ∧ (0 ≤ r → l.length ≤ 1048576) := by
  have hl := g.1
  unfold maxLen at hl
  unfold laws_szInt64S.f
  rw [w64 (by omega) (by omega)]
  by_cases h : n - (l.length : Int) < 0
  · rw [if_pos h]; exact ⟨-1, rfl, by omega, by omega, fun h => by omega⟩
  · rw [if_neg h]; exact ⟨_, rfl, by omega, by omega, fun _ => by omega⟩
theorem szL_Int64SS_l (l : List (List Int)) (g : ∀ y ∈ l, gd_Int64S y) (hl : l.length ≤ 1048576) (d : Nat) : ∀ (k : Nat) (x i : Int), d + 1048578 < k → 0 ≤ i → (l.length : Int) - i = d → 0 ≤ x → x ≤ 1048576 →
    ∃ r, laws_szInt64SS.l0 k l x i = some r ∧ -1 ≤ r ∧ r ≤ x ∧ (0 ≤ r → ∀ j : Nat, i ≤ (j : Int) → (h : j < l.length) → bd_Int64S l[j]) := by
  induction d with
  | zero =>
    intro k x i hk h0 hd g0 g1
    obtain ⟨k, rfl⟩ : ∃ m, k = m + 1 := ⟨k - 1, by omega⟩
    refine ⟨x, ?_, by omega, by omega, fun _ j h1 h2 => by omega⟩
    simp only [laws_szInt64SS.l0]
    rw [if_neg (by omega)]
  | succ d ih =>
    intro k x i hk h0 hd g0 g1
    obtain ⟨k, rfl⟩ : ∃ m, k = m + 1 := ⟨k - 1, by omega⟩
    have hi : i.toNat < l.length := by omega
    have e : rd_L1 l i = l[i.toNat] := by
      unfold rd_L1
      rw [List.getD_eq_getElem?_getD, List.getElem?_eq_getElem hi]
      rfl
    have hg := g l[i.toNat] (List.getElem_mem hi)
    obtain ⟨r, er, r1, r2, r3⟩ := szL_Int64S k (by omega) l[i.toNat] hg x ⟨g0, g1⟩
    simp only [laws_szInt64SS.l0, e]
    rw [if_pos (by omega), if_pos h0, er]
    simp only [Option.bind_some]
    by_cases hr : r < 0
    · rw [if_pos hr]; exact ⟨-1, rfl, by omega, by omega, fun h => by omega⟩
    · rw [if_neg hr, w64 (by omega) (by omega)]
      obtain ⟨q, eq, q1, q2, q3⟩ := ih k r (i + 1) (by omega) (by omega) (by omega) (by omega) (by omega)
      refine ⟨q, eq, q1, by omega, fun h j h1 h2 => ?_⟩
      by_cases hj : (j : Int) = i
      · have : j = i.toNat := by omega
        subst this; exact r3 (by omega)
      · exact q3 h j (by omega) h2
theorem szL_Int64SS (k : Nat) (hk : 2097156 ≤ k) (l : List (List Int)) (g : l.length ≤ maxLen ∧ ∀ y ∈ l, gd_Int64S y) (n : Int) (hn : 0 ≤ n ∧ n ≤ 1048576) : ∃ r, laws_szInt64SS.f k l n = some r ∧ -1 ≤ r ∧ r ≤ n ∧ (0 ≤ r → l.length ≤ 1048576 ∧ ∀ y ∈ l, bd_Int64S y) := by
  have hl := g.1
  unfold maxLen at hl
  unfold laws_szInt64SS.f
  rw [w64 (x := n - (l.length : Int)) (by omega) (by omega)]
  by_cases h : n - (l.length : Int) < 0
  · rw [if_pos h]; exact ⟨-1, rfl, by omega, by omega, fun h => by omega⟩
  · rw [if_neg h]
    obtain ⟨r, e, r1, r2, r3⟩ := szL_Int64SS_l l g.2 (by omega) l.length k (n - (l.length : Int)) 0 (by omega) (by omega) (by omega) (by omega) (by omega)
    exact ⟨r, e, r1, by omega, fun hr => ⟨by omega, fun y hy => by
      obtain ⟨j, hj, rfl⟩ := List.mem_iff_getElem.1 hy
      exact r3 hr j (by omega) hj⟩⟩
theorem szL_Dfa (k : Nat) (hk : 2097156 ≤ k) (f0 : List Int) (f1 : List (List Int)) (f2 : List Int) (g : (f0.length ≤ maxLen ∧ ∀ y ∈ f0, (Lit.int .i64 y).wf = true) ∧ (f1.length ≤ maxLen ∧ ∀ y ∈ f1, gd_Int64S y) ∧ (f2.length ≤ maxLen ∧ ∀ y ∈ f2, (Lit.int .i64 y).wf = true)) (n : Int) (hn : 0 ≤ n ∧ n ≤ 1048576) : ∃ r, laws_szDfa.f k f0 f1 f2 n = some r ∧ -1 ≤ r ∧ r ≤ n ∧ (0 ≤ r → (f0.length ≤ 1048576) ∧ (f1.length ≤ 1048576 ∧ ∀ y ∈ f1, bd_Int64S y) ∧ (f2.length ≤ 1048576)) := by
  unfold laws_szDfa.f
  obtain ⟨r1, e1, a1, b1, d1⟩ := szL_Int64S k (by omega) f0 g.1 n (by omega)
  rw [e1]
  simp only [Option.bind_some]
  by_cases c1 : r1 < 0
  · rw [if_pos c1]; exact ⟨-1, rfl, by omega, by omega, fun h => by omega⟩
  rw [if_neg c1]
  obtain ⟨r2, e2, a2, b2, d2⟩ := szL_Int64SS k (by omega) f1 g.2.1 r1 (by omega)
  rw [e2]
  simp only [Option.bind_some]
  by_cases c2 : r2 < 0
  · rw [if_pos c2]; exact ⟨-1, rfl, by omega, by omega, fun h => by omega⟩
  rw [if_neg c2]
  obtain ⟨r3, e3, a3, b3, d3⟩ := szL_Int64S k (by omega) f2 g.2.2 r2 (by omega)
  rw [e3]
  simp only [Option.bind_some]
  by_cases c3 : r3 < 0
  · rw [if_pos c3]; exact ⟨-1, rfl, by omega, by omega, fun h => by omega⟩
  rw [if_neg c3]
  exact ⟨r3, rfl, by omega, by omega, fun _ => ⟨(d1 (by omega)), (d2 (by omega)), (d3 (by omega))⟩⟩
theorem toL_Int64S_l (l : List Int) (hl : l.length ≤ 1048576) (d : Nat) : ∀ (k : Nat) (acc : List Int) (i : Int), d + 0 < k → 0 ≤ i → (l.length : Int) - i = d → acc.length = l.length →
    laws_toInt64S.l0 k l acc i = some (acc.take i.toNat ++ (l).drop i.toNat) := by
  induction d with
  | zero =>
    intro k acc i hk h0 hd ha
    obtain ⟨k, rfl⟩ : ∃ m, k = m + 1 := ⟨k - 1, by omega⟩
    simp only [laws_toInt64S.l0]
    rw [if_neg (by omega), List.take_of_length_le (by omega), List.drop_eq_nil_of_le (by first | omega | (rw [List.length_map]; omega)), List.append_nil]
  | succ d ih =>
    intro k acc i hk h0 hd ha
    obtain ⟨k, rfl⟩ : ∃ m, k = m + 1 := ⟨k - 1, by omega⟩
    have hi : i.toNat < l.length := by omega
    have e : rd l i = l[i.toNat] := by
      unfold rd
      rw [List.getD_eq_getElem?_getD, List.getElem?_eq_getElem hi]
      rfl
    simp only [laws_toInt64S.l0, e]
    rw [if_pos (by omega), if_pos h0, if_pos (by omega), w64 (by omega) (by omega), ih k _ _ (by omega) (by omega) (by omega) (by simpa using ha)]
    have e1 : (i + 1).toNat = i.toNat + 1 := by omega
    rw [e1, List.take_succ_eq_append_getElem (by simp; omega), List.take_set_of_le (Nat.le_refl _), List.getElem_set_self, List.append_assoc, List.singleton_append]
    congr 2
    rw [List.drop_eq_getElem_cons (i := i.toNat) hi]
theorem toL_Int64S (k : Nat) (hk : 1048578 ≤ k) (l : List Int) (g : l.length ≤ 1048576) : laws_toInt64S.f k l = some (l) := by
  have hl : l.length ≤ 1048576 := g
  unfold laws_toInt64S.f
  rw [if_pos (by omega), if_pos (by omega), toL_Int64S_l l hl l.length k _ 0 (by omega) (by omega) (by omega) (by simp)]
  simp
theorem toL_Int64SS_l (l : List (List Int)) (g : ∀ y ∈ l, bd_Int64S y) (hl : l.length ≤ 1048576) (d : Nat) : ∀ (k : Nat) (acc : List (List Int)) (i : Int), d + 1048578 < k → 0 ≤ i → (l.length : Int) - i = d → acc.length = l.length →
    laws_toInt64SS.l0 k l acc i = some (acc.take i.toNat ++ (l).drop i.toNat) := by
  induction d with
  | zero =>
    intro k acc i hk h0 hd ha
    obtain ⟨k, rfl⟩ : ∃ m, k = m + 1 := ⟨k - 1, by omega⟩
    simp only [laws_toInt64SS.l0]
    rw [if_neg (by omega), List.take_of_length_le (by omega), List.drop_eq_nil_of_le (by first | omega | (rw [List.length_map]; omega)), List.append_nil]
  | succ d ih =>
    intro k acc i hk h0 hd ha
    obtain ⟨k, rfl⟩ : ∃ m, k = m + 1 := ⟨k - 1, by omega⟩
    have hi : i.toNat < l.length := by omega
    have e : rd_L1 l i = l[i.toNat] := by
      unfold rd_L1
      rw [List.getD_eq_getElem?_getD, List.getElem?_eq_getElem hi]
      rfl
    have ee := toL_Int64S k (by omega) l[i.toNat] (g l[i.toNat] (List.getElem_mem hi))
    simp only [laws_toInt64SS.l0, e]
    rw [if_pos (by omega), if_pos h0]
    first | rw [ee] | skip
    try simp only [Option.bind_some]
    rw [if_pos (by omega)]
    try rw [ee]
    try simp only [Option.bind_some]
    try rw [if_pos (by omega)]
    rw [w64 (by omega) (by omega)]
    rw [ih k _ _ (by omega) (by omega) (by omega) (by simpa using ha)]
    have e1 : (i + 1).toNat = i.toNat + 1 := by omega
    rw [e1, List.take_succ_eq_append_getElem (by simp; omega), List.take_set_of_le (Nat.le_refl _), List.getElem_set_self, List.append_assoc, List.singleton_append]
    congr 2
    rw [List.drop_eq_getElem_cons (i := i.toNat) hi]
theorem toL_Int64SS (k : Nat) (hk : 2097156 ≤ k) (l : List (List Int)) (g : l.length ≤ 1048576 ∧ ∀ y ∈ l, bd_Int64S y) : laws_toInt64SS.f k l = some (l) := by
  have hl : l.length ≤ 1048576 := g.1
  unfold laws_toInt64SS.f
  rw [if_pos (by omega), if_pos (by omega), toL_Int64SS_l l g.2 hl l.length k _ 0 (by omega) (by omega) (by omega) (by simp)]
  simp
theorem toL_Dfa (k : Nat) (hk : 2097156 ≤ k) (f0 : List Int) (f1 : List (List Int)) (f2 : List Int) (g : (f0.length ≤ 1048576) ∧ (f1.length ≤ 1048576 ∧ ∀ y ∈ f1, bd_Int64S y) ∧ (f2.length ≤ 1048576)) : laws_toDfa.f k f0 f1 f2 = some (f0, f1, f2) := by
  unfold laws_toDfa.f
  rw [toL_Int64S k (by omega) f0 (g.1)]
  simp only [Option.bind_some]
  rw [toL_Int64SS k (by omega) f1 (g.2.1)]
  simp only [Option.bind_some]
  rw [toL_Int64S k (by omega) f2 (g.2.2)]
  simp only [Option.bind_some]
  all_goals (first | rfl | simp)
theorem eqL_Int64S_l (l : List Int) (hl : l.length ≤ 1048576) (d : Nat) : ∀ (k : Nat) (i : Int), d + 0 < k → 0 ≤ i → (l.length : Int) - i = d → laws_eqInt64S.l0 k l l i = some true := by
  induction d with
  | zero =>
    intro k i hk h0 hd
    obtain ⟨k, rfl⟩ : ∃ m, k = m + 1 := ⟨k - 1, by omega⟩
    simp only [laws_eqInt64S.l0]
    rw [if_neg (by omega)]
  | succ d ih =>
    intro k i hk h0 hd
    obtain ⟨k, rfl⟩ : ∃ m, k = m + 1 := ⟨k - 1, by omega⟩
    have hi : i.toNat < l.length := by omega
    simp only [laws_eqInt64S.l0]
    rw [if_pos (by omega), if_pos h0, if_pos (by omega)]
    simp only [if_true]
    rw [w64 (by omega) (by omega)]
    exact ih k _ (by omega) (by omega) (by omega)
theorem eqL_Int64S (k : Nat) (hk : 1048578 ≤ k) (l : List Int) (g : l.length ≤ 1048576) : laws_eqInt64S.f k l l = some true := by
  have hl : l.length ≤ 1048576 := g
  unfold laws_eqInt64S.f
  simp only [if_true]
  exact eqL_Int64S_l l hl l.length k 0 (by omega) (by omega) (by omega)
theorem eqL_Int64SS_l (l : List (List Int)) (g : ∀ y ∈ l, bi_Int64S y) (hl : l.length ≤ 1048576) (d : Nat) : ∀ (k : Nat) (i : Int), d + 1048578 < k → 0 ≤ i → (l.length : Int) - i = d → laws_eqInt64SS.l0 k l l i = some true := by
  induction d with
  | zero =>
    intro k i hk h0 hd
    obtain ⟨k, rfl⟩ : ∃ m, k = m + 1 := ⟨k - 1, by omega⟩
    simp only [laws_eqInt64SS.l0]
    rw [if_neg (by omega)]
  | succ d ih =>
    intro k i hk h0 hd
    obtain ⟨k, rfl⟩ : ∃ m, k = m + 1 := ⟨k - 1, by omega⟩
    have hi : i.toNat < l.length := by omega
    have e : rd_L1 l i = l[i.toNat] := by
      unfold rd_L1
      rw [List.getD_eq_getElem?_getD, List.getElem?_eq_getElem hi]
      rfl
    have ee := eqL_Int64S k (by omega) l[i.toNat] (g l[i.toNat] (List.getElem_mem hi))
    simp only [laws_eqInt64SS.l0, e]
    rw [if_pos (by omega), if_pos h0, if_pos (by omega), ee]
    simp only [Option.bind_some, if_true]
    rw [w64 (by omega) (by omega)]
    exact ih k _ (by omega) (by omega) (by omega)
theorem eqL_Int64SS (k : Nat) (hk : 2097156 ≤ k) (l : List (List Int)) (g : l.length ≤ 1048576 ∧ ∀ y ∈ l, bi_Int64S y) : laws_eqInt64SS.f k l l = some true := by
  have hl : l.length ≤ 1048576 := g.1
  unfold laws_eqInt64SS.f
  simp only [if_true]
  exact eqL_Int64SS_l l g.2 hl l.length k 0 (by omega) (by omega) (by omega)
theorem eqL_Dfa (k : Nat) (hk : 2097156 ≤ k) (f0 : List Int) (f1 : List (List Int)) (f2 : List Int) (g : (f0.length ≤ 1048576) ∧ (f1.length ≤ 1048576 ∧ ∀ y ∈ f1, bi_Int64S y) ∧ (f2.length ≤ 1048576)) : laws_eqDfa.f k f0 f1 f2 f0 f1 f2 = some true := by
  unfold laws_eqDfa.f
  simp [eqL_Int64S k (by omega) f0 (g.1), eqL_Int64SS k (by omega) f1 (g.2.1), eqL_Int64S k (by omega) f2 (g.2.2)]
theorem sBlocks_l (l : List Int) (hl : l.length = 256) (d : Nat) : ∀ (k i : Nat) (n : Int), d < k → 256 - i = d → i ≤ 256 → 0 ≤ n → n ≤ i → spec_l7Blocks.l0 k l n (i : Int) = some ((blkLoop l d i n).getD (-1)) := by
  induction d with
  | zero =>
    intro k i n hk hd hi h0 h1
    obtain ⟨k, rfl⟩ : ∃ m, k = m + 1 := ⟨k - 1, by omega⟩
    simp only [spec_l7Blocks.l0]
    rw [if_neg (by omega)]
    rfl
  | succ d ih =>
    intro k i n hk hd hi h0 h1
    obtain ⟨k, rfl⟩ : ∃ m, k = m + 1 := ⟨k - 1, by omega⟩
    simp only [spec_l7Blocks.l0, sIn, Option.bind_some, decide_eq_true_eq]
    rw [if_pos (by omega), if_pos (by omega), if_pos (by omega)]
    unfold blkLoop
    by_cases hc : 0 ≤ rd l (i : Int) ∧ rd l (i : Int) ≤ n
    · rw [if_pos hc, if_pos hc, w64 (x := rd l (i : Int) + 1) (by omega) (by omega), nat_next (by omega)]
      exact ih k (i + 1) _ (by omega) (by omega) (by omega) (by have := le_mx_left n (rd l (i : Int) + 1); omega) (mx_le (by omega) (by omega))
    · rw [if_neg hc, if_neg hc]
      rfl
theorem sBlocks (l : List Int) (k : Nat) (hk : 300 ≤ k) : spec_l7Blocks.f k l = some ((blocksM l).getD (-1)) := by
  unfold spec_l7Blocks.f blocksM
  by_cases h : l.length = 256
  · rw [if_pos (by omega), if_pos h]
    exact sBlocks_l l h 256 k 0 0 (by omega) (by omega) (by omega) (by omega) (by omega)
  · rw [if_neg (by omega), if_neg h]
    rfl
theorem iBlocks_l (l : List Int) (hl : l.length ≤ 1048576) (d : Nat) : ∀ (k i : Nat) (n : Int), d < k → l.length - i = d → i ≤ l.length → 0 ≤ n → n ≤ i →
    impl_blocksOk.l0 k l (n - 1) l (l.length : Int) (i : Int) = some (match blkLoop l d i n with | some m => (m, ((l.length : Int) == 256)) | none => (0, false)) := by
  induction d with
  | zero =>
    intro k i n hk hd hi h0 h1
    obtain ⟨k, rfl⟩ : ∃ m, k = m + 1 := ⟨k - 1, by omega⟩
    simp only [impl_blocksOk.l0]
    rw [if_neg (by omega), w64 (by omega) (by omega), Int.sub_add_cancel]
    rfl
  | succ d ih =>
    intro k i n hk hd hi h0 h1
    obtain ⟨k, rfl⟩ : ∃ m, k = m + 1 := ⟨k - 1, by omega⟩
    simp only [impl_blocksOk.l0, iWithin, Option.bind_some, decide_eq_true_eq]
    rw [if_pos (by omega), if_pos (by omega), if_pos (by omega), w64 (x := n - 1 + 1) (by omega) (by omega), Int.sub_add_cancel]
    unfold blkLoop
    by_cases hc : 0 ≤ rd l (i : Int) ∧ rd l (i : Int) ≤ n
    · rw [if_pos hc, if_pos hc, nat_next (by omega)]
      have e : mx (n - 1) (rd l (i : Int)) = mx n (rd l (i : Int) + 1) - 1 := by unfold mx; split <;> split <;> omega
      rw [e]
      exact ih k (i + 1) _ (by omega) (by omega) (by omega) (by have := le_mx_left n (rd l (i : Int) + 1); omega) (mx_le (by omega) (by omega))
    · rw [if_neg hc, if_neg hc]
/-- what the program's blocksOk tells -/
theorem iBlocks (l : List Int) (hl : l.length ≤ 1048576) (k : Nat) (hk : 1048578 ≤ k) : ∃ r, impl_blocksOk.f k l = some r ∧ r.2 = (blocksM l).isSome ∧ ∀ m, blocksM l = some m → r.1 = m := by
  unfold impl_blocksOk.f
  have e : impl_blocksOk.l0 k l (-1) l (l.length : Int) 0 = _ := iBlocks_l l hl l.length k 0 0 (by omega) (by omega) (by omega) (by omega) (by omega)
  refine ⟨_, e, ?_, ?_⟩
  · unfold blocksM
    by_cases h : l.length = 256
    · rw [if_pos h, h]
      cases blkLoop l 256 0 0 <;> rfl
    · rw [if_neg h]
      cases blkLoop l l.length 0 0
      · rfl
      · show ((l.length : Int) == 256) = false
        rw [beq_eq_false_iff_ne]
        omega
  · intro m hm
    unfold blocksM at hm
    by_cases h : l.length = 256
    · rw [if_pos h] at hm
      rw [h, hm]
    · rw [if_neg h] at hm
      exact absurd hm (by simp)
theorem rdL_row (nx : List (List Int)) (i : Int) : rd_L1 nx i = drow nx i.toNat := rfl
def cellP (nx : List (List Int)) (s : Nat) (j : Nat) : Prop := 0 ≤ rd (drow nx s) (j : Int) ∧ rd (drow nx s) (j : Int) ≤ (nx.length : Int) - 1
open Classical in
theorem sDfa_l1 (b : List Int) (nx : List (List Int)) (acc : List Int) (hn : 1 ≤ nx.length ∧ nx.length ≤ 1000) (m : Int) (s : Nat) (hs : s < nx.length) (hm : ((drow nx s).length : Int) = m) (m1 : m ≤ 256) (K : Nat) (Q : Prop)
    (H : ∀ k, K < k → spec_DfaOk.l0 k (nx.length : Int) m ((s + 1 : Nat) : Int) b nx acc = some (decide Q)) (d : Nat) : ∀ (k j : Nat), d + K + 1 < k → (drow nx s).length - j = d → j ≤ (drow nx s).length →
    spec_DfaOk.l1 k (nx.length : Int) m (s : Int) (j : Int) b nx acc = some (decide (fromN (cellP nx s) (drow nx s).length j ∧ Q)) := by
  induction d with
  | zero =>
    intro k j hk hd hj
    obtain ⟨k, rfl⟩ : ∃ m, k = m + 1 := ⟨k - 1, by omega⟩
    simp only [spec_DfaOk.l1]
    rw [if_neg (by omega), nat_next (by omega), H k (by omega)]
    exact congrArg some (decide_eq_decide.2 ⟨fun h => ⟨fromN_end (by omega), h⟩, fun h => h.2⟩)
  | succ d ih =>
    intro k j hk hd hj
    obtain ⟨k, rfl⟩ : ∃ m, k = m + 1 := ⟨k - 1, by omega⟩
    have hlt : j < (drow nx s).length := by omega
    have es : ((s : Nat) : Int).toNat = s := by omega
    simp only [spec_DfaOk.l1, sIn, Option.bind_some, decide_eq_true_eq, rdL_row, es]
    rw [if_pos (by omega), if_pos (by omega), if_pos (by omega), if_pos (by omega), if_pos (by omega), w64 (x := (nx.length : Int) - 1) (by omega) (by omega), nat_next (by omega)]
    by_cases h1 : 0 ≤ rd (drow nx s) (j : Int) ∧ rd (drow nx s) (j : Int) ≤ (nx.length : Int) - 1
    · rw [if_pos h1, ih k (j + 1) (by omega) (by omega) (by omega)]; exact congrArg some (decide_eq_decide.2 (fromN_go hlt h1))
    · rw [if_neg h1, decide_eq_false (fromN_no hlt h1)]
open Classical in
theorem sDfa_l0 (b : List Int) (nx : List (List Int)) (acc : List Int) (hn : 1 ≤ nx.length ∧ nx.length ≤ 1000) (ha : acc.length = nx.length) (m : Int) (m1 : m ≤ 256) (d : Nat) : ∀ (k s : Nat), d * 300 < k → nx.length - s = d → s ≤ nx.length →
    spec_DfaOk.l0 k (nx.length : Int) m (s : Int) b nx acc = some (decide (fromN (rowP nx m acc) nx.length s)) := by
  induction d with
  | zero =>
    intro k s hk hd hs
    obtain ⟨k, rfl⟩ : ∃ m, k = m + 1 := ⟨k - 1, by omega⟩
    simp only [spec_DfaOk.l0]
    rw [if_neg (by omega), decide_eq_true (fromN_end (by omega))]
  | succ d ih =>
    intro k s hk hd hs
    obtain ⟨k, rfl⟩ : ∃ m, k = m + 2 := ⟨k - 2, by omega⟩
    have hlt : s < nx.length := by omega
    have es : ((s : Nat) : Int).toNat = s := by omega
    have hst := fromN_step (P := rowP nx m acc) hlt
    simp only [spec_DfaOk.l0, sIn, Option.bind_some, decide_eq_true_eq, rdL_row, es]
    rw [if_pos (by omega), if_pos (by omega), if_pos (by omega)]
    by_cases h1 : -1 ≤ rd acc (s : Int) ∧ rd acc (s : Int) ≤ 39
    · rw [if_pos h1, if_pos (by omega)]
      by_cases h2 : ((drow nx s).length : Int) = m
      · rw [bne_eq_false_iff_eq.2 h2]
        simp only [spec_DfaOk.j2]
        rw [if_neg (by simp)]
        have e : spec_DfaOk.l1 k (nx.length : Int) m (s : Int) 0 b nx acc = _ := sDfa_l1 b nx acc hn m s hlt h2 m1 (d * 300) _ (fun k hk => ih k (s + 1) hk (by omega) (by omega)) (drow nx s).length k 0 (by omega) (by omega) (by omega)
        rw [e]
        refine congrArg some (decide_eq_decide.2 ⟨fun h => hst.2 ⟨⟨h1, h2, fun i hi => h.1 i (by omega) hi⟩, h.2⟩, fun h => ⟨fun i _ hi => (hst.1 h).1.2.2 i hi, (hst.1 h).2⟩⟩)
      · rw [bne_iff_ne.2 h2]
        simp only [spec_DfaOk.j2]
        rw [if_pos trivial, decide_eq_false (fun h => h2 (hst.1 h).1.2.1)]
    · rw [if_neg h1]
      simp only [spec_DfaOk.j2]
      rw [if_pos trivial, decide_eq_false (fun h => h1 (hst.1 h).1.1)]
open Classical in
theorem sDfaOk (b : List Int) (nx : List (List Int)) (acc : List Int) (k : Nat) (hk : 400000 ≤ k) : spec_DfaOk.f k b nx acc = some (decide (dfaOk b nx acc)) := by
  obtain ⟨k, rfl⟩ : ∃ m, k = m + 1 := ⟨k - 1, by omega⟩
  unfold spec_DfaOk.f
  rw [sBlocks b _ (by omega)]
  simp only [Option.bind_some]
  have no : ∀ x, ¬ dfaOk b nx acc → spec_DfaOk.j0 (k + 1) (nx.length : Int) x true b nx acc = some (decide (dfaOk b nx acc)) := by
    intro x h
    rw [decide_eq_false h]
    simp [spec_DfaOk.j0]
  by_cases h1 : (nx.length : Int) < 1
  · rw [if_pos h1]
    exact no _ (fun ⟨m, _, g, _⟩ => by omega)
  · rw [if_neg h1]
    by_cases h2 : (nx.length : Int) > 1000
    · rw [if_pos h2]
      exact no _ (fun ⟨m, _, g, _⟩ => by omega)
    · rw [if_neg h2]
      by_cases h3 : (acc.length : Int) = (nx.length : Int)
      · rw [if_pos h3]
        cases hb : blocksM b with
        | none =>
          rw [decide_eq_true (by simp)]
          exact no _ (fun ⟨m, g, _, _⟩ => by rw [hb] at g; exact absurd g (by simp))
        | some m =>
          have hm := blocksM_some hb
          rw [decide_eq_false (by simp; omega)]
          simp only [spec_DfaOk.j0, Option.getD_some]
          rw [if_neg (by simp)]
          have e : spec_DfaOk.l0 k (nx.length : Int) m 0 b nx acc = _ := sDfa_l0 b nx acc (by omega) (by omega) m (by omega) nx.length k 0 (by omega) (by omega) (by omega)
          rw [e]
          exact congrArg some (decide_eq_decide.2 (dfaOk_iff hb (by omega)).symm)
      · rw [if_neg h3]
        exact no _ (fun ⟨m, _, g, _⟩ => by omega)
theorem drow_mem {nx : List (List Int)} {P : List Int → Prop} : (∀ row ∈ nx, P row) ↔ ∀ i, i < nx.length → P (drow nx i) := by
  unfold drow
  constructor
  · intro h i hi
    rw [List.getD_eq_getElem?_getD, List.getElem?_eq_getElem hi]
    exact h _ (List.getElem_mem hi)
  · intro h x hx
    obtain ⟨i, hi, rfl⟩ := List.mem_iff_getElem.1 hx
    have := h i hi
    rw [List.getD_eq_getElem?_getD, List.getElem?_eq_getElem hi] at this
    exact this
open Classical in
theorem iDfaOk (b : List Int) (nx : List (List Int)) (acc : List Int) (hbl : b.length ≤ 1048576) (k : Nat) (hk : 1300000 ≤ k) : impl_DfaOk.f k b nx acc = some (decide (dfaOk b nx acc)) := by
  obtain ⟨⟨m', ok⟩, er, r2, r1⟩ := iBlocks b hbl k (by omega)
  unfold impl_DfaOk.f
  by_cases h1 : 1 ≤ (nx.length : Int) ∧ (nx.length : Int) ≤ 1000
  · rw [if_pos h1]
    by_cases h2 : (acc.length : Int) = (nx.length : Int)
    · rw [if_pos h2]
      by_cases h3 : ∀ x ∈ acc, -1 ≤ x ∧ x ≤ 39
      · rw [if_pos h3, er]
        simp only [Option.bind_some]
        simp only at r2
        rw [r2]
        cases hb : blocksM b with
        | none =>
          rw [if_neg (by simp), decide_eq_false (fun ⟨m, g, _, _⟩ => by rw [hb] at g; exact absurd g (by simp))]
        | some m =>
          have e := r1 m hb
          simp only at e
          subst e
          rw [if_pos (by simp)]
          refine congrArg some (decide_eq_decide.2 ?_)
          rw [dfaOk_iff hb (by omega), drow_mem]
          rw [inR_mem] at h3
          constructor
          · intro h i _ hi
            have := h i hi
            exact ⟨h3 i (by omega), this.1, (inR_mem _ _ _).1 this.2⟩
          · intro h i hi
            have := h i (by omega) hi
            exact ⟨this.2.1, (inR_mem _ _ _).2 this.2.2⟩
      · rw [if_neg h3, decide_eq_false]
        rintro ⟨m, _, g, h⟩
        rw [inR_mem] at h3
        exact h3 (fun i hi => (h i (by omega) (by omega)).1)
    · rw [if_neg h2, decide_eq_false (fun ⟨m, _, g, _⟩ => by omega)]
  · rw [if_neg h1, decide_eq_false (fun ⟨m, _, g, _⟩ => by omega)]
/-- the states that a text goes through -/
def runM (b : List Int) (nx : List (List Int)) (acc : List Int) (t : ByteArray) : Nat → Int → Nat → Int
  | 0, s, _ => rd acc s
  | d + 1, s, i => runM b nx acc t d (stepM b nx s (bt t i)) (i + 1)
theorem iStep {b : List Int} {nx : List (List Int)} {acc : List Int} (h : dfaOk b nx acc) {s c : Int} (s0 : 0 ≤ s) (s1 : s < nx.length) (c0 : 0 ≤ c) (c1 : c < 256) :
    impl_Dfa_step.f b nx acc s c = some (stepM b nx s c) := by
  obtain ⟨h1, h2, ⟨h3, h4⟩, h5, h6⟩ := dfa_step h s0 s1 c0 c1
  unfold impl_Dfa_step.f
  rw [if_pos s0, if_pos s1, if_pos c0, if_pos (by omega), if_pos h3, if_pos (show rd b c < ((rd_L1 nx s).length : Int) from h4)]
  rfl
theorem wf_small {x : Int} (h0 : 0 ≤ x) (h1 : x < 1000000) : (Lit.int .i64 x).wf = true := by
  simp [Lit.wf, IntKind.min, IntKind.max, IntKind.signed, IntKind.bits]
  omega
/-- one byte of the search -/
def addW (X Y : Int → Int) (c i : Nat) (L : List S232) (b : Int) : List S232 :=
  if seenIn c L (X b) (Y b) = true then L else L ++ [⟨X b, Y b, (i : Int), b⟩]
def addAllW (X Y : Int → Int) (c i : Nat) (L : List S232) (bs : List Int) : List S232 := bs.foldl (addW X Y c i) L
theorem addW_pre (X Y : Int → Int) (c i : Nat) (L : List S232) (b : Int) : ∃ t, addW X Y c i L b = L ++ t := by
  unfold addW
  split
  · exact ⟨[], by simp⟩
  · exact ⟨_, rfl⟩
theorem addAllW_pre (X Y : Int → Int) (c i : Nat) : ∀ (bs : List Int) (L : List S232), ∃ t, addAllW X Y c i L bs = L ++ t
  | [], L => ⟨[], by simp [addAllW]⟩
  | b :: bs, L => by
    obtain ⟨t, ht⟩ := addW_pre X Y c i L b
    obtain ⟨t2, ht2⟩ := addAllW_pre X Y c i bs (addW X Y c i L b)
    exact ⟨t ++ t2, by rw [← List.append_assoc, ← ht, ← ht2]; rfl⟩
theorem addAllW_append (X Y : Int → Int) (c i : Nat) (bs cs : List Int) (L : List S232) : addAllW X Y c i L (bs ++ cs) = addAllW X Y c i (addAllW X Y c i L bs) cs := by
  unfold addAllW
  rw [List.foldl_append]
theorem addAllW_one (X Y : Int → Int) (c i : Nat) (L : List S232) (b : Int) : addAllW X Y c i L [b] = addW X Y c i L b := rfl
theorem seenIn_append (c : Nat) (L t : List S232) (x y : Int) (hc : c ≤ L.length) (h : seenIn c L x y = true) : seenIn c (L ++ t) x y = true := by
  unfold seenIn at h ⊢
  rw [List.drop_append_of_le_length hc, List.any_append, h]
  rfl
theorem seenIn_new (c : Nat) (L : List S232) (x y i b : Int) (hc : c ≤ L.length) : seenIn c (L ++ [⟨x, y, i, b⟩]) x y = true := by
  unfold seenIn
  rw [List.drop_append_of_le_length hc, List.any_append]
  simp
theorem addW_seen (X Y : Int → Int) (c i : Nat) (L : List S232) (b : Int) (hc : c ≤ L.length) : seenIn c (addW X Y c i L b) (X b) (Y b) = true := by
  unfold addW
  split
  · assumption
  · exact seenIn_new c L _ _ _ _ hc
theorem pre_len {L M t : List S232} (h : M = L ++ t) : L.length ≤ M.length := by rw [h, List.length_append]; omega
/-- all bytes of 0 .. n - 1 add what the first bytes of pairs add -/
theorem addAllW_pairs (X' Y' : Int → Int) (l0 l1 : List Int) (c i : Nat) (L : List S232) (hc : c ≤ L.length) : ∀ n, addAllW (fun b => X' (rd l0 b)) (fun b => Y' (rd l1 b)) c i L ((List.range n).map (fun (k : Nat) => (k : Int))) = addAllW (fun b => X' (rd l0 b)) (fun b => Y' (rd l1 b)) c i L (pairB l0 l1 n) ∧ ∀ q ∈ pairS l0 l1 n, seenIn c (addAllW (fun b => X' (rd l0 b)) (fun b => Y' (rd l1 b)) c i L (pairB l0 l1 n)) (X' q.1) (Y' q.2) = true
  | 0 => ⟨rfl, fun q hq => by simp [pairS] at hq⟩
  | n + 1 => by
    obtain ⟨h1, h2⟩ := addAllW_pairs X' Y' l0 l1 c i L hc n
    obtain ⟨t, ht⟩ := addAllW_pre (fun b => X' (rd l0 b)) (fun b => Y' (rd l1 b)) c i (pairB l0 l1 n) L
    have hlen := pre_len ht
    rw [List.range_succ, List.map_append, List.map_singleton, addAllW_append, h1, pairB, pairS]
    by_cases hm : pairAt l0 l1 n ∈ pairS l0 l1 n
    · rw [if_pos hm, if_pos hm]
      refine ⟨?_, h2⟩
      rw [addAllW_one]
      unfold addW
      exact if_pos (h2 _ hm)
    · rw [if_neg hm, if_neg hm, addAllW_append]
      refine ⟨rfl, fun q hq => ?_⟩
      rcases List.mem_append.1 hq with hq | hq
      · obtain ⟨t2, ht2⟩ := addAllW_pre (fun b => X' (rd l0 b)) (fun b => Y' (rd l1 b)) c i [(n : Int)] (addAllW (fun b => X' (rd l0 b)) (fun b => Y' (rd l1 b)) c i L (pairB l0 l1 n))
        rw [ht2]
        exact seenIn_append c _ _ _ _ (by omega) (h2 q hq)
      · rw [List.mem_singleton] at hq
        subst hq
        exact addW_seen (fun b => X' (rd l0 b)) (fun b => Y' (rd l1 b)) c i _ (n : Int) (by omega)
theorem seenIn_iff (c : Nat) (L : List S232) (x y : Int) : seenIn c L x y = true ↔ (x, y) ∈ prs c L := by
  unfold seenIn prs
  rw [List.any_eq_true, List.mem_map]
  constructor
  · rintro ⟨p, hp, h⟩
    simp only [Bool.and_eq_true, beq_iff_eq] at h
    exact ⟨p, hp, by rw [h.1, h.2]⟩
  · rintro ⟨p, hp, h⟩
    injection h with h1 h2
    exact ⟨p, hp, by simp [h1, h2]⟩
/-- what holds of each queue: no pair twice, all pairs in bounds, each one from an earlier one -/
structure OkW (n m : Nat) (c : Nat) (L : List S232) : Prop where
  len : 1 ≤ L.length
  cle : c ≤ 1
  nd : (prs c L).Nodup
  rng : ∀ p ∈ L, (0 ≤ p.f0 ∧ p.f0 < n) ∧ (0 ≤ p.f1 ∧ p.f1 < m)
  frm : ∀ t, 0 < t → ∀ (h : t < L.length), 0 ≤ (L[t]).f2 ∧ (L[t]).f2 < t ∧ 0 ≤ (L[t]).f3 ∧ (L[t]).f3 < 256
theorem OkW.snoc {n m c : Nat} {L : List S232} (h : OkW n m c L) (e : S232) (hs : seenIn c L e.f0 e.f1 ≠ true) (h0 : 0 ≤ e.f0 ∧ e.f0 < n) (h1 : 0 ≤ e.f1 ∧ e.f1 < m) (h2 : 0 ≤ e.f2 ∧ e.f2 < L.length) (h3 : 0 ≤ e.f3 ∧ e.f3 < 256) : OkW n m c (L ++ [e]) := by
  refine ⟨by simp, h.cle, ?_, ?_, ?_⟩
  · rw [prs_snoc c L e (Nat.le_trans h.cle h.len), List.nodup_append]
    refine ⟨h.nd, by simp, fun a ha b hb => ?_⟩
    rw [List.mem_singleton] at hb
    subst hb
    intro hab
    subst hab
    exact hs ((seenIn_iff c L _ _).2 ha)
  · intro p hp
    rcases List.mem_append.1 hp with hp | hp
    · exact h.rng p hp
    · rw [List.mem_singleton] at hp
      subst hp
      exact ⟨h0, h1⟩
  · intro t ht hl
    by_cases hlt : t < L.length
    · rw [List.getElem_append_left hlt]
      exact h.frm t ht hlt
    · rw [List.getElem_append_right (by omega)]
      have e0 : t = L.length := by rw [List.length_append, List.length_singleton] at hl; omega
      subst e0
      simp only [Nat.sub_self, List.getElem_cons_zero]
      exact ⟨h2.1, by omega, h3.1, h3.2⟩
theorem OkW.bound {n m c : Nat} {L : List S232} (h : OkW n m c L) : L.length ≤ n * m + 1 := by
  have h1 : (prs c L).length ≤ n * m := by
    have hsub : prs c L ⊆ (List.range (n * m)).map (fun k => (((k / m : Nat) : Int), ((k % m : Nat) : Int))) := by
      rintro ⟨x, y⟩ hp
      unfold prs at hp
      obtain ⟨p, hp, e⟩ := List.mem_map.1 hp
      obtain ⟨⟨a0, a1⟩, b0, b1⟩ := h.rng p (List.mem_of_mem_drop hp)
      injection e with e1 e2
      subst e1 e2
      refine List.mem_map.2 ⟨p.f0.toNat * m + p.f1.toNat, List.mem_range.2 ?_, ?_⟩
      · have h0 : p.f0.toNat + 1 ≤ n := by omega
        have h9 := Nat.mul_le_mul_right m h0
        rw [Nat.add_mul, Nat.one_mul] at h9
        omega
      · have hm : 0 < m := by omega
        have q1 : (p.f0.toNat * m + p.f1.toNat) / m = p.f0.toNat := by
          rw [Nat.mul_comm, Nat.mul_add_div hm, Nat.div_eq_of_lt (by omega), Nat.add_zero]
        have q2 : (p.f0.toNat * m + p.f1.toNat) % m = p.f1.toNat := by
          rw [Nat.mul_comm, Nat.mul_add_mod, Nat.mod_eq_of_lt (by omega)]
        rw [q1, q2]
        refine Prod.ext ?_ ?_
        · show ((p.f0.toNat : Nat) : Int) = p.f0; omega
        · show ((p.f1.toNat : Nat) : Int) = p.f1; omega
    have := List.Nodup.length_le_of_subset h.nd hsub
    simpa using this
  have := h.cle
  have := h.len
  unfold prs at h1
  rw [List.length_map, List.length_drop] at h1
  omega
theorem OkW.all {n m c i : Nat} {X Y : Int → Int} : ∀ {bs : List Int} {L : List S232} (_ : OkW n m c L) (_ : i < L.length) (_ : ∀ b ∈ bs, (0 ≤ b ∧ b < 256) ∧ (0 ≤ X b ∧ X b < n) ∧ (0 ≤ Y b ∧ Y b < m)), OkW n m c (addAllW X Y c i L bs)
  | [], L, h, _, _ => h
  | b :: bs, L, h, hi, hb => by
    show OkW n m c (addAllW X Y c i (addW X Y c i L b) bs)
    obtain ⟨t, ht⟩ := addW_pre X Y c i L b
    refine OkW.all ?_ (Nat.lt_of_lt_of_le hi (pre_len ht)) (fun b' hb' => hb b' (List.mem_cons_of_mem _ hb'))
    obtain ⟨g0, g1, g2⟩ := hb b (List.mem_cons_self ..)
    unfold addW
    split
    · exact h
    · exact h.snoc _ (by assumption) g1 g2 ⟨by simp, by show (i : Int) < _; omega⟩ g0
theorem bfs_inner (P : Int → Int → Option Bool) (c : Nat) (d0 e0 : List Int) (d1 : List (List Int)) (d2 : List Int) (e1 : List (List Int)) (e2 : List Int) (bs : List Int) (Q : Int → Int → Bool) (n m i : Nat) (X Y : Int → Int) (p : S232)
    (hX : ∀ b ∈ bs, impl_Dfa_step.f d0 d1 d2 p.f0 b = some (X b)) (hY : ∀ b ∈ bs, impl_Dfa_step.f e0 e1 e2 p.f1 b = some (Y b)) (hnm : n * m + 1 < 100000000) (hn0 : n ≤ 1000) (hm0 : m ≤ 1000)
    (hr : ∀ b ∈ bs, (0 ≤ b ∧ b < 256) ∧ (0 ≤ X b ∧ X b < n) ∧ (0 ≤ Y b ∧ Y b < m))
    (hP : ∀ x y : Int, 0 ≤ x → x < n → 0 ≤ y → y < m → P x y = some (Q x y)) :
    ∀ (cs : List Int) (j : Nat) (L : List S232), bs.drop j = cs → j ≤ bs.length → OkW n m c L → (hi : i < L.length) → rd_T232 L (i : Int) = p →
      (∀ t, L.length ≤ t → ∀ (h : t < (addAllW X Y c i L cs).length), Q ((addAllW X Y c i L cs)[t]).f0 ((addAllW X Y c i L cs)[t]).f1 = false) ∧ (∀ k, impl_find.l0 P c d0 d1 d2 e0 e1 e2 bs (k + cs.length + 1) L i j = impl_find.l0 P c d0 d1 d2 e0 e1 e2 bs k (addAllW X Y c i L cs) (i + 1) 0) ∨
      (∃ t, ∃ (h : t < (addAllW X Y c i L cs).length), L.length ≤ t ∧ Q ((addAllW X Y c i L cs)[t]).f0 ((addAllW X Y c i L cs)[t]).f1 = true ∧ (∀ u, L.length ≤ u → u < t → ∀ (h : u < (addAllW X Y c i L cs).length), Q ((addAllW X Y c i L cs)[u]).f0 ((addAllW X Y c i L cs)[u]).f1 = false) ∧
        ∀ T k0, (∀ k, k0 ≤ k → impl_textTo.f k ((addAllW X Y c i L cs).take (t + 1)) (t : Int) = some T) → ∀ k, impl_find.l0 P c d0 d1 d2 e0 e1 e2 bs (k + k0 + cs.length + 1) L i j = some (T, true))
  | [], j, L, hj, hjl, hL, hi, hp => by
    left
    have hjn : ¬ j < bs.length := by
      intro h
      have := congrArg List.length hj
      rw [List.length_drop] at this
      simp at this
      omega
    refine ⟨fun t h1 h2 => absurd h2 (by simp [addAllW]; omega), fun k => ?_⟩
    rw [show k + ([] : List Int).length + 1 = k + 1 from rfl, impl_find.l0, if_pos hi, if_neg hjn]
    rfl
  | b :: cs, j, L, hj, hjl, hL, hi, hp => by
    have hjn : j < bs.length := by
      rcases Nat.lt_or_ge j bs.length with h | h
      · exact h
      · rw [List.drop_eq_nil_of_le h] at hj; cases hj
    have hb : rd bs (j : Int) = b := by
      unfold rd
      rw [Int.toNat_natCast, List.getD_eq_getElem?_getD, List.getElem?_eq_getElem hjn]
      have := List.drop_eq_getElem_cons hjn
      rw [hj] at this
      injection this with h1 _
      rw [← h1]
      rfl
    have hmem : b ∈ bs := by
      have : b ∈ bs.drop j := by rw [hj]; exact List.mem_cons_self ..
      exact List.mem_of_mem_drop this
    have hj2 : bs.drop (j + 1) = cs := by
      have := List.drop_eq_getElem_cons hjn
      rw [hj] at this
      injection this with _ h2
      exact h2.symm
    obtain ⟨g0, g1, g2⟩ := hr b hmem
    have hstep : ∀ k, impl_find.l0 P c d0 d1 d2 e0 e1 e2 bs (k + 1) L i j = if seenIn c L (X b) (Y b) = true then impl_find.l0 P c d0 d1 d2 e0 e1 e2 bs k L i (j + 1)
            else if Q (X b) (Y b) = true then (impl_textTo.f k (L ++ [⟨X b, Y b, (i : Int), b⟩]) (L.length : Int)).bind fun t => some (t, true) else impl_find.l0 P c d0 d1 d2 e0 e1 e2 bs k (L ++ [⟨X b, Y b, (i : Int), b⟩]) i (j + 1) := by
      intro k
      have hlen := hL.bound
      rw [impl_find.l0, if_pos hi, if_pos hjn, hp, hb, hX b hmem, hY b hmem, Option.bind_some, Option.bind_some, if_pos ⟨wf_small (by omega) (by omega), wf_small (by omega) (by omega), by omega⟩, hP _ _ g1.1 g1.2 g2.1 g2.2, Option.bind_some]
    have hall : addAllW X Y c i L (b :: cs) = addAllW X Y c i (addW X Y c i L b) cs := rfl
    by_cases hs : seenIn c L (X b) (Y b) = true
    · have hw : addW X Y c i L b = L := by unfold addW; rw [if_pos hs]
      rw [hall, hw]
      have ih := bfs_inner P c d0 e0 d1 d2 e1 e2 bs Q n m i X Y p hX hY hnm hn0 hm0 hr hP cs (j + 1) L hj2 (by omega) hL hi hp
      have hk : ∀ k, impl_find.l0 P c d0 d1 d2 e0 e1 e2 bs (k + 1) L i j = impl_find.l0 P c d0 d1 d2 e0 e1 e2 bs k L i (j + 1) := fun k => by rw [hstep, if_pos hs]
      rcases ih with ⟨a1, a2⟩ | ⟨t, h, a1, a2, a3, a4⟩
      · exact .inl ⟨a1, fun k => by rw [show k + (b :: cs).length + 1 = (k + cs.length + 1) + 1 from by simp; omega, hk, a2]⟩
      · exact .inr ⟨t, h, a1, a2, a3, fun T k0 hT k => by rw [show k + k0 + (b :: cs).length + 1 = (k + k0 + cs.length + 1) + 1 from by simp; omega, hk, a4 T k0 hT]⟩
    · have hw : addW X Y c i L b = L ++ [⟨X b, Y b, (i : Int), b⟩] := by unfold addW; rw [if_neg hs]
      obtain ⟨tl, htl⟩ := addAllW_pre X Y c i cs (addW X Y c i L b)
      have hget : ∀ (h : L.length < (addAllW X Y c i L (b :: cs)).length), (addAllW X Y c i L (b :: cs))[L.length] = ⟨X b, Y b, (i : Int), b⟩ := by
        intro h
        have : (addAllW X Y c i L (b :: cs))[L.length]? = some ⟨X b, Y b, (i : Int), b⟩ := by
          rw [hall, htl, hw]
          rw [List.getElem?_append_left (by simp), List.getElem?_append_right (Nat.le_refl _)]
          simp
        exact Option.some.inj ((List.getElem?_eq_getElem h).symm.trans this)
      have hlen0 : L.length < (addAllW X Y c i L (b :: cs)).length := by
        rw [hall, htl, hw]; simp
      by_cases hq : Q (X b) (Y b) = true
      · right
        refine ⟨L.length, hlen0, Nat.le_refl _, by rw [hget hlen0]; exact hq, fun u h1 h2 => by omega, fun T k0 hT k => ?_⟩
        have htake : (addAllW X Y c i L (b :: cs)).take (L.length + 1) = L ++ [⟨X b, Y b, (i : Int), b⟩] := by
          rw [hall, htl, hw, List.take_append_of_le_length (by simp), List.take_of_length_le (by simp)]
        rw [htake] at hT
        rw [show k + k0 + (b :: cs).length + 1 = (k + k0 + cs.length + 1) + 1 from by simp; omega, hstep, if_neg hs, if_pos hq, hT _ (by omega)]
        rfl
      · rw [hall, hw]
        have hL2 : OkW n m c (L ++ [⟨X b, Y b, (i : Int), b⟩]) := hL.snoc _ hs g1 g2 ⟨by simp, by show (i : Int) < _; omega⟩ g0
        have hp2 : rd_T232 (L ++ [⟨X b, Y b, (i : Int), b⟩]) (i : Int) = p := by
          rw [← hp]
          unfold rd_T232
          rw [Int.toNat_natCast, List.getD_eq_getElem?_getD, List.getD_eq_getElem?_getD, List.getElem?_append_left hi]
        have ih := bfs_inner P c d0 e0 d1 d2 e1 e2 bs Q n m i X Y p hX hY hnm hn0 hm0 hr hP cs (j + 1) _ hj2 (by omega) hL2 (by simp; omega) hp2
        have hk : ∀ k, impl_find.l0 P c d0 d1 d2 e0 e1 e2 bs (k + 1) L i j = impl_find.l0 P c d0 d1 d2 e0 e1 e2 bs k (L ++ [⟨X b, Y b, (i : Int), b⟩]) i (j + 1) := fun k => by rw [hstep, if_neg hs, if_neg hq]
        have hnew : ∀ (h : L.length < (addAllW X Y c i (L ++ [⟨X b, Y b, (i : Int), b⟩]) cs).length), Q ((addAllW X Y c i (L ++ [⟨X b, Y b, (i : Int), b⟩]) cs)[L.length]).f0 ((addAllW X Y c i (L ++ [⟨X b, Y b, (i : Int), b⟩]) cs)[L.length]).f1 = false := by
          intro h
          have e := hget hlen0
          simp only [hall, hw] at e
          rw [e]
          exact Bool.eq_false_iff.2 hq
        rcases ih with ⟨a1, a2⟩ | ⟨t, h, a1, a2, a3, a4⟩
        · refine .inl ⟨fun t h1 h2 => ?_, fun k => by rw [show k + (b :: cs).length + 1 = (k + cs.length + 1) + 1 from by simp; omega, hk, a2]⟩
          by_cases e : t = L.length
          · subst e; exact hnew h2
          · exact a1 t (by simp; omega) h2
        · refine .inr ⟨t, h, by simp at a1; omega, a2, fun u h1 h2 h3 => ?_, fun T k0 hT k => by rw [show k + k0 + (b :: cs).length + 1 = (k + k0 + cs.length + 1) + 1 from by simp; omega, hk, a4 T k0 hT]⟩
          by_cases e : u = L.length
          · subst e; exact hnew h3
          · exact a3 u (by simp; omega) h2 h3
/-- the queue's way: from one place to the next -/
inductive RunW (XX YY : Int → Int → Int) (c : Nat) : List S232 → Nat → List S232 → Nat → Prop
  | refl (L : List S232) (i : Nat) : RunW XX YY c L i L i
  | step {L : List S232} {i : Nat} {L2 : List S232} {i2 : Nat} : i < L.length → RunW XX YY c (addAllW (XX (rd_T232 L (i : Int)).f0) (YY (rd_T232 L (i : Int)).f1) c i L ((List.range 256).map (fun (k : Nat) => (k : Int)))) (i + 1) L2 i2 → RunW XX YY c L i L2 i2
theorem RunW.one {XX YY : Int → Int → Int} {c : Nat} {L : List S232} {i : Nat} (h : i < L.length) : RunW XX YY c L i (addAllW (XX (rd_T232 L (i : Int)).f0) (YY (rd_T232 L (i : Int)).f1) c i L ((List.range 256).map (fun (k : Nat) => (k : Int)))) (i + 1) := .step h (.refl _ _)
theorem RunW.trans {XX YY : Int → Int → Int} {c : Nat} {L L2 L3 : List S232} {i i2 i3 : Nat} (h : RunW XX YY c L i L2 i2) (h2 : RunW XX YY c L2 i2 L3 i3) : RunW XX YY c L i L3 i3 := by
  induction h with
  | refl => exact h2
  | step hi _ ih => exact .step hi (ih h2)
theorem RunW.pre {XX YY : Int → Int → Int} {c : Nat} {L L2 : List S232} {i i2 : Nat} (h : RunW XX YY c L i L2 i2) : (∃ t, L2 = L ++ t) ∧ i ≤ i2 := by
  induction h with
  | refl => exact ⟨⟨[], by simp⟩, Nat.le_refl _⟩
  | @step L i L2 i2 hi _ ih =>
    obtain ⟨⟨t, ht⟩, h2⟩ := ih
    obtain ⟨t0, ht0⟩ := addAllW_pre (XX (rd_T232 L (i : Int)).f0) (YY (rd_T232 L (i : Int)).f1) c i ((List.range 256).map (fun (k : Nat) => (k : Int))) L
    exact ⟨⟨t0 ++ t, by rw [ht, ht0, List.append_assoc]⟩, by omega⟩
/-- a way on to each place of the queue -/
theorem RunW.to (XX YY : Int → Int → Int) (c : Nat) (t : Nat) : ∀ (d i : Nat) (L : List S232), i + d = t → t < L.length → ∃ L2, RunW XX YY c L i L2 t
  | 0, i, L, h, _ => by have e : i = t := by omega
                        subst e; exact ⟨L, .refl L i⟩
  | d + 1, i, L, h, hl => by
    obtain ⟨t0, ht0⟩ := addAllW_pre (XX (rd_T232 L (i : Int)).f0) (YY (rd_T232 L (i : Int)).f1) c i ((List.range 256).map (fun (k : Nat) => (k : Int))) L
    obtain ⟨L2, h2⟩ := RunW.to XX YY c t d (i + 1) _ (by omega) (Nat.lt_of_lt_of_le hl (pre_len ht0))
    exact ⟨L2, .step (by omega) h2⟩
theorem rd_T232_mem {L : List S232} {i : Nat} (h : i < L.length) : rd_T232 L (i : Int) = L[i] := by
  unfold rd_T232
  rw [Int.toNat_natCast, List.getD_eq_getElem?_getD, List.getElem?_eq_getElem h]
  rfl
theorem get_pre {L M t : List S232} (h : M = L ++ t) {u : Nat} (hu : u < L.length) (hm : u < M.length) : M[u] = L[u] := by
  subst h
  exact List.getElem_append_left hu
theorem RunW.ok {XX YY : Int → Int → Int} {n m c : Nat} {L L2 : List S232} {i i2 : Nat} (h : RunW XX YY c L i L2 i2)
    (hX : ∀ s b : Int, 0 ≤ s → s < n → 0 ≤ b → b < 256 → 0 ≤ XX s b ∧ XX s b < n) (hY : ∀ s b : Int, 0 ≤ s → s < m → 0 ≤ b → b < 256 → 0 ≤ YY s b ∧ YY s b < m) : OkW n m c L → OkW n m c L2 := by
  induction h with
  | refl => exact id
  | @step L i L2 i2 hi _ ih =>
    intro hL
    refine ih (hL.all hi (fun b hb => ?_))
    obtain ⟨r0, r1⟩ := hL.rng _ (List.getElem_mem hi)
    rw [← rd_T232_mem hi] at r0 r1
    obtain ⟨k, hk, rfl⟩ := List.mem_map.1 hb
    have hk := List.mem_range.1 hk
    exact ⟨by omega, hX _ _ r0.1 r0.2 (by omega) (by omega), hY _ _ r1.1 r1.2 (by omega) (by omega)⟩
theorem pairB_rng (l0 l1 : List Int) : ∀ n, ∀ b ∈ pairB l0 l1 n, 0 ≤ b ∧ b < n
  | 0, b, hb => by simp [pairB] at hb
  | n + 1, b, hb => by
    rw [pairB] at hb
    split at hb
    · have := pairB_rng l0 l1 n b hb; omega
    · rcases List.mem_append.1 hb with hb | hb
      · have := pairB_rng l0 l1 n b hb; omega
      · rw [List.mem_singleton] at hb; omega
/-- the search over the first bytes of pairs, told by the way over all bytes -/
theorem bfs_outer (P : Int → Int → Option Bool) (c : Nat) (d0 e0 : List Int) (d1 : List (List Int)) (d2 : List Int) (e1 : List (List Int)) (e2 : List Int) (Q : Int → Int → Bool) (n m : Nat) (X' Y' : Int → Int → Int)
    (hX : ∀ s b : Int, 0 ≤ s → s < n → 0 ≤ b → b < 256 → impl_Dfa_step.f d0 d1 d2 s b = some (X' s (rd d0 b)) ∧ 0 ≤ X' s (rd d0 b) ∧ X' s (rd d0 b) < n)
    (hY : ∀ s b : Int, 0 ≤ s → s < m → 0 ≤ b → b < 256 → impl_Dfa_step.f e0 e1 e2 s b = some (Y' s (rd e0 b)) ∧ 0 ≤ Y' s (rd e0 b) ∧ Y' s (rd e0 b) < m)
    (hnm : n * m + 1 < 100000000) (hn0 : n ≤ 1000) (hm0 : m ≤ 1000) (hP : ∀ x y : Int, 0 ≤ x → x < n → 0 ≤ y → y < m → P x y = some (Q x y)) :
    ∀ (q i : Nat) (L : List S232), n * m + 1 - i = q → OkW n m c L → i ≤ L.length →
      (∃ L2, RunW (fun s b => X' s (rd d0 b)) (fun s b => Y' s (rd e0 b)) c L i L2 L2.length ∧ OkW n m c L2 ∧ (∀ u, L.length ≤ u → ∀ (h : u < L2.length), Q (L2[u]).f0 (L2[u]).f1 = false) ∧ ∃ k0, ∀ k, k0 ≤ k → impl_find.l0 P c d0 d1 d2 e0 e1 e2 (pairB d0 e0 256) k L i 0 = some (ByteArray.empty, false)) ∨
      (∃ L2 t, RunW (fun s b => X' s (rd d0 b)) (fun s b => Y' s (rd e0 b)) c L i L2 t ∧ OkW n m c L2 ∧ ∃ (h : t < L2.length), L.length ≤ t ∧ Q (L2[t]).f0 (L2[t]).f1 = true ∧ (∀ u, L.length ≤ u → u < t → ∀ (h : u < L2.length), Q (L2[u]).f0 (L2[u]).f1 = false) ∧ ∀ T k0, (∀ k, k0 ≤ k → impl_textTo.f k (L2.take (t + 1)) (t : Int) = some T) → ∃ k1, ∀ k, k1 ≤ k → impl_find.l0 P c d0 d1 d2 e0 e1 e2 (pairB d0 e0 256) k L i 0 = some (T, true))
  | q, i, L, hq, hL, hi => by
    by_cases hlt : i < L.length
    case neg =>
      have e : i = L.length := by omega
      subst e
      left
      refine ⟨L, .refl _ _, hL, fun u h1 h2 => absurd h1 (by omega), 1, fun k hk => ?_⟩
      obtain ⟨k', rfl⟩ : ∃ k', k = k' + 1 := ⟨k - 1, by omega⟩
      rw [impl_find.l0, if_neg hlt]
    case pos =>
      have hlen := hL.bound
      have hp := rd_T232_mem hlt
      obtain ⟨r0, r1⟩ := hL.rng _ (List.getElem_mem hlt)
      rw [← hp] at r0 r1
      have hbs : ∀ b ∈ pairB d0 e0 256, 0 ≤ b ∧ b < 256 := fun b hb => by have := pairB_rng d0 e0 256 b hb; omega
      have gX := fun (b : Int) (hb : b ∈ pairB d0 e0 256) => hX _ b r0.1 r0.2 (hbs b hb).1 (hbs b hb).2
      have gY := fun (b : Int) (hb : b ∈ pairB d0 e0 256) => hY _ b r1.1 r1.2 (hbs b hb).1 (hbs b hb).2
      have gr := fun (b : Int) (hb : b ∈ pairB d0 e0 256) => And.intro (hbs b hb) (And.intro (gX b hb).2 (gY b hb).2)
      generalize hBS : pairB d0 e0 256 = bs at hbs gX gY gr ⊢
      have hin := bfs_inner P c d0 e0 d1 d2 e1 e2 bs Q n m i (fun b => X' (rd_T232 L (i : Int)).f0 (rd d0 b)) (fun b => Y' (rd_T232 L (i : Int)).f1 (rd e0 b)) (rd_T232 L (i : Int)) (fun b hb => (gX b hb).1) (fun b hb => (gY b hb).1) hnm hn0 hm0 gr hP bs 0 L rfl (Nat.zero_le _) hL hlt rfl
      have hA := hL.all (i := i) (X := fun b => X' (rd_T232 L (i : Int)).f0 (rd d0 b)) (Y := fun b => Y' (rd_T232 L (i : Int)).f1 (rd e0 b)) hlt (bs := bs) gr
      have hone := RunW.one (XX := fun s b => X' s (rd d0 b)) (YY := fun s b => Y' s (rd e0 b)) (c := c) hlt
      have heq := (addAllW_pairs (X' (rd_T232 L (i : Int)).f0) (Y' (rd_T232 L (i : Int)).f1) d0 e0 c i L (Nat.le_trans hL.cle hL.len) 256).1
      rw [heq, hBS] at hone
      obtain ⟨tl, htl⟩ := addAllW_pre (fun b => X' (rd_T232 L (i : Int)).f0 (rd d0 b)) (fun b => Y' (rd_T232 L (i : Int)).f1 (rd e0 b)) c i bs L
      generalize addAllW (fun b => X' (rd_T232 L (i : Int)).f0 (rd d0 b)) (fun b => Y' (rd_T232 L (i : Int)).f1 (rd e0 b)) c i L bs = L1 at *
      have hl1 := pre_len htl
      rcases hin with ⟨a1, a2⟩ | ⟨t, h, a1, a2, a3, a4⟩
      · have ih_ := bfs_outer P c d0 e0 d1 d2 e1 e2 Q n m X' Y' hX hY hnm hn0 hm0 hP (n * m + 1 - (i + 1)) (i + 1) L1 rfl hA (by omega)
        rw [hBS] at ih_
        rcases ih_ with ⟨L2, b1, b2, b3, k0, b4⟩ | ⟨L2, t, b1, b2, h, b3, b4, b5, b6⟩
        · left
          refine ⟨L2, hone.trans b1, b2, fun u h1 h2 => ?_, k0 + bs.length + 1, fun k hk => ?_⟩
          · by_cases hu : u < L1.length
            · obtain ⟨t2, ht2⟩ := b1.pre.1
              rw [get_pre ht2 hu]
              exact a1 u h1 hu
            · exact b3 u (by omega) h2
          · obtain ⟨k', rfl⟩ : ∃ k', k = k' + bs.length + 1 := ⟨k - (bs.length + 1), by omega⟩
            rw [a2, b4 _ (by omega)]
        · right
          refine ⟨L2, t, hone.trans b1, b2, h, by omega, b4, fun u h1 h2 h3 => ?_, fun T k0 hT => ?_⟩
          · by_cases hu : u < L1.length
            · obtain ⟨t2, ht2⟩ := b1.pre.1
              rw [get_pre ht2 hu]
              exact a1 u h1 hu
            · exact b5 u (by omega) h2 h3
          · obtain ⟨k1, hk1⟩ := b6 T k0 hT
            refine ⟨k1 + bs.length + 1, fun k hk => ?_⟩
            obtain ⟨k', rfl⟩ : ∃ k', k = k' + bs.length + 1 := ⟨k - (bs.length + 1), by omega⟩
            rw [a2, hk1 _ (by omega)]
      · right
        obtain ⟨L2, hL2⟩ := RunW.to (fun s b => X' s (rd d0 b)) (fun s b => Y' s (rd e0 b)) c t (t - (i + 1)) (i + 1) L1 (by omega) h
        obtain ⟨t2, ht2⟩ := hL2.pre.1
        have h2 := Nat.lt_of_lt_of_le h (pre_len ht2)
        have hok : OkW n m c L2 := hL2.ok (fun s b g0 g1 g2 g3 => (hX s b g0 g1 g2 g3).2) (fun s b g0 g1 g2 g3 => (hY s b g0 g1 g2 g3).2) hA
        refine ⟨L2, t, hone.trans hL2, hok, h2, a1, by rw [get_pre ht2 h]; exact a2, fun u g1 g2 g3 => by rw [get_pre ht2 (by omega)]; exact a3 u g1 g2 (by omega), fun T k0 hT => ?_⟩
        rw [ht2, List.take_append_of_le_length (by omega)] at hT
        refine ⟨k0 + bs.length + 1, fun k hk => ?_⟩
        obtain ⟨k', rfl⟩ : ∃ k', k = k' + k0 + bs.length + 1 := ⟨k - (k0 + bs.length + 1), by omega⟩
        exact a4 T k0 hT k'
  termination_by q => q
  decreasing_by omega
theorem rev_l : ∀ (d k : Nat) (pre mid post : List Int), mid.length = d → d < k → (pre ++ mid ++ post).length < 1000000000 →
    slices_Reverse_byte_byte.l0 k (pre ++ mid ++ post) (pre.length : Int) ((pre.length : Int) + (mid.length : Int) - 1) = some (pre ++ mid.reverse ++ post)
  | d, k, pre, mid, post, hd, hk, hl => by
    obtain ⟨k, rfl⟩ : ∃ m, k = m + 1 := ⟨k - 1, by omega⟩
    rw [slices_Reverse_byte_byte.l0]
    by_cases h : d ≤ 1
    · rw [if_neg (by omega)]
      have : mid.reverse = mid := by
        match mid, hd with
        | [], _ => rfl
        | [a], _ => rfl
        | a :: b :: c, hd => simp at hd; omega
      rw [this]
    · obtain ⟨a, m, b, rfl⟩ : ∃ a m b, mid = a :: (m ++ [b]) := by
        match mid, hd with
        | [], hd => simp at hd; omega
        | a :: t, hd =>
          have ht : t ≠ [] := by rintro rfl; simp at hd; omega
          exact ⟨a, t.dropLast, t.getLast ht, by rw [List.dropLast_concat_getLast]⟩
      have hlen : (a :: (m ++ [b])).length = m.length + 2 := by simp
      have hx : pre ++ a :: (m ++ [b]) ++ post = (pre ++ [a] ++ m) ++ b :: post := by simp
      have hx2 : pre ++ a :: (m ++ [b]) ++ post = pre ++ a :: (m ++ b :: post) := by simp
      have e1 : rd (pre ++ a :: (m ++ [b]) ++ post) ((pre.length : Int) + ((a :: (m ++ [b])).length : Int) - 1) = b := by
        rw [hlen, hx, show (pre.length : Int) + ((m.length + 2 : Nat) : Int) - 1 = (((pre ++ [a] ++ m).length : Nat) : Int) by simp; omega]
        unfold rd
        rw [Int.toNat_natCast, List.getD_eq_getElem?_getD, List.getElem?_append_right (Nat.le_refl _)]
        simp
      have e2 : rd (pre ++ a :: (m ++ [b]) ++ post) (pre.length : Int) = a := by
        rw [hx2]
        unfold rd
        rw [Int.toNat_natCast, List.getD_eq_getElem?_getD, List.getElem?_append_right (Nat.le_refl _)]
        simp
      have hll : (pre ++ a :: (m ++ [b]) ++ post).length = pre.length + m.length + 2 + post.length := by simp; omega
      rw [hll] at hl
      rw [if_pos (by omega), if_pos (by omega), if_pos (by omega), if_pos (by omega), if_pos (by omega), e1, e2]
      have e3 : ((pre ++ a :: (m ++ [b]) ++ post).set ((pre.length : Int)).toNat b).set ((pre.length : Int) + ((a :: (m ++ [b])).length : Int) - 1).toNat a = (pre ++ [b]) ++ m ++ (a :: post) := by
        rw [hlen, show ((pre.length : Int) + ((m.length + 2 : Nat) : Int) - 1).toNat = pre.length + 1 + m.length by omega, Int.toNat_natCast, hx2, List.set_append_right _ _ (Nat.le_refl _), Nat.sub_self, List.set_cons_zero, List.set_append_right _ _ (by omega), show pre.length + 1 + m.length - pre.length = m.length + 1 by omega, List.set_cons_succ, List.set_append_right _ _ (Nat.le_refl _), Nat.sub_self, List.set_cons_zero]
        simp
      rw [e3, show wrap64 ((pre.length : Int) + 1) = ((pre ++ [b]).length : Int) by rw [w64 (by omega) (by omega)]; simp, show wrap64 ((pre.length : Int) + ((a :: (m ++ [b])).length : Int) - 1 - 1) = ((pre ++ [b]).length : Int) + (m.length : Int) - 1 by rw [w64 (by omega) (by omega), hlen]; simp; omega]
      rw [rev_l m.length k (pre ++ [b]) m (a :: post) rfl (by rw [hlen] at hd; omega) (by simp; omega)]
      simp
  termination_by d => d
  decreasing_by rw [hlen] at hd; omega
theorem rev_f (k : Nat) (l : List Int) (hk : l.length < k) (hl : l.length < 1000000000) : slices_Reverse_byte_byte.f k l = some l.reverse := by
  unfold slices_Reverse_byte_byte.f
  have := rev_l l.length k [] l [] rfl hk (by simpa using hl)
  simp only [List.nil_append, List.append_nil, List.length_nil] at this
  rw [w64 (by omega) (by omega)]
  rw [← this]
  congr 1
  simp
/-- the bytes by which a place of the queue was come to -/
def chain (L : List S232) : Nat → Nat → List Int
  | 0, _ => []
  | d + 1, t => if t = 0 then [] else chain L d (rd_T232 L (t : Int)).f2.toNat ++ [(rd_T232 L (t : Int)).f3]
def FrmW (L : List S232) : Prop := ∀ t, 0 < t → t < L.length → 0 ≤ (rd_T232 L (t : Int)).f2 ∧ (rd_T232 L (t : Int)).f2 < t ∧ 0 ≤ (rd_T232 L (t : Int)).f3 ∧ (rd_T232 L (t : Int)).f3 < 256
theorem OkW.frmW {n m c : Nat} {L : List S232} (h : OkW n m c L) : FrmW L := fun t h0 h1 => by
  rw [rd_T232_mem h1]
  exact h.frm t h0 h1
theorem chain_len (L : List S232) : ∀ d t, (chain L d t).length ≤ d
  | 0, _ => Nat.le_refl _
  | d + 1, t => by
    rw [chain]
    split
    · exact Nat.zero_le _
    · have := chain_len L d (rd_T232 L (t : Int)).f2.toNat
      rw [List.length_append, List.length_singleton]
      omega
theorem chain_rng {L : List S232} (h : FrmW L) : ∀ d t, t < L.length → ∀ b ∈ chain L d t, 0 ≤ b ∧ b ≤ 255
  | 0, _, _, b, hb => by simp [chain] at hb
  | d + 1, t, ht, b, hb => by
    rw [chain] at hb
    split at hb
    · simp at hb
    · obtain ⟨h0, h1, h2, h3⟩ := h t (by omega) ht
      rcases List.mem_append.1 hb with hb | hb
      · exact chain_rng h d _ (by omega) b hb
      · rw [List.mem_singleton] at hb
        subst hb
        omega
theorem chain_fuel {L : List S232} (h : FrmW L) : ∀ d t, t < L.length → t ≤ d → chain L d t = chain L t t
  | 0, t, _, hd => by have e : t = 0 := by omega
                      subst e; rfl
  | d + 1, t, ht, hd => by
    by_cases e : t = 0
    · subst e; show chain L (d + 1) 0 = []; simp [chain]
    · obtain ⟨t', rfl⟩ : ∃ m, t = m + 1 := ⟨t - 1, by omega⟩
      obtain ⟨h0, h1, _, _⟩ := h (t' + 1) (by omega) ht
      rw [chain, if_neg e, chain, if_neg e, chain_fuel h d _ (by omega) (by omega), chain_fuel h t' _ (by omega) (by omega)]
theorem rd_T232_pre {L : List S232} {i : Nat} (h : i < L.length) (t : List S232) : rd_T232 (L ++ t) (i : Int) = rd_T232 L (i : Int) := by
  unfold rd_T232
  rw [Int.toNat_natCast, List.getD_eq_getElem?_getD, List.getD_eq_getElem?_getD, List.getElem?_append_left h]
theorem chain_pre {L : List S232} (h : FrmW L) (tl : List S232) : ∀ d t, t < L.length → chain (L ++ tl) d t = chain L d t
  | 0, _, _ => rfl
  | d + 1, t, ht => by
    rw [chain, chain, rd_T232_pre ht]
    by_cases e : t = 0
    · rw [if_pos e, if_pos e]
    · obtain ⟨h0, h1, _, _⟩ := h t (by omega) ht
      rw [if_neg e, if_neg e, chain_pre h tl d _ (by omega)]
/-- the text by which a place of the queue was come to -/
def txt (L : List S232) (t : Nat) : ByteArray := strOfNums (chain L t t)
theorem iText_l {L : List S232} (h : FrmW L) (hl : L.length < 10000000) : ∀ d k t out, t ≤ d → t < L.length → out.length + d < 10000000 → out.length + 2 * d + 1 < k → impl_textTo.l0 k L (t : Int) out = some (strOfNums (chain L d t ++ out.reverse))
  | d, k, t, out, hd, ht, ho, hk => by
    obtain ⟨k, rfl⟩ : ∃ m, k = m + 1 := ⟨k - 1, by omega⟩
    rw [impl_textTo.l0]
    by_cases e : t = 0
    · subst e
      rw [if_neg (by omega), rev_f k out (by omega) (by omega)]
      have e0 : chain L d 0 = [] := by cases d <;> simp [chain]
      rw [e0]
      rfl
    · obtain ⟨h0, h1, h2, h3⟩ := h t (by omega) ht
      obtain ⟨d, rfl⟩ : ∃ m, d = m + 1 := ⟨d - 1, by omega⟩
      rw [if_pos (by omega), if_pos (by omega), if_pos (by omega), if_pos (by omega)]
      have hc : (rd_T232 L (t : Int)).f2 = (((rd_T232 L (t : Int)).f2.toNat : Nat) : Int) := by omega
      rw [hc, iText_l h hl d k _ _ (by omega) (by omega) (by rw [List.length_append, List.length_singleton]; omega) (by rw [List.length_append, List.length_singleton]; omega), chain, if_neg e]
      simp
  termination_by d => d
theorem iText {L : List S232} (h : FrmW L) (hl : L.length < 10000000) (t : Nat) (ht : t < L.length) (k : Nat) (hk : 2 * t + 1 < k) : impl_textTo.f k L (t : Int) = some (txt L t) := by
  unfold impl_textTo.f
  have := iText_l h hl t k t [] (Nat.le_refl _) ht (by simp; omega) (by simp; omega)
  rw [this]
  simp [txt]
theorem sON_append (a b : List Int) : strOfNums (a ++ b) = strOfNums a ++ strOfNums b := by
  unfold strOfNums
  apply ByteArray.ext
  simp
theorem sON_size (a : List Int) : (strOfNums a).size = a.length := by
  unfold strOfNums
  simp [ByteArray.size]
theorem txt_new {L : List S232} (h : FrmW L) {i : Nat} (hi : i < L.length) (x y b : Int) : txt (L ++ [⟨x, y, (i : Int), b⟩]) L.length = txt L i ++ strOfNums [b] := by
  unfold txt
  obtain ⟨n, hn⟩ : ∃ n, L.length = n + 1 := ⟨L.length - 1, by omega⟩
  have e : rd_T232 (L ++ [⟨x, y, (i : Int), b⟩]) (L.length : Int) = ⟨x, y, (i : Int), b⟩ := by
    unfold rd_T232
    rw [Int.toNat_natCast, List.getD_eq_getElem?_getD, List.getElem?_append_right (Nat.le_refl _)]
    simp
  rw [← sON_append]
  congr 1
  conv => lhs; arg 2; rw [hn]
  rw [chain, if_neg (by omega), e]
  congr 1
  rw [Int.toNat_natCast, chain_pre h _ _ _ hi, chain_fuel h _ _ hi (by omega)]
theorem txt_pre {L : List S232} (h : FrmW L) (tl : List S232) {t : Nat} (ht : t < L.length) : txt (L ++ tl) t = txt L t := by
  unfold txt
  rw [chain_pre h tl _ _ ht]
/-- the marks of a queue of pairs -/
structure MarkM (n m c : Nat) (L : List S232) (marks : List Bool) : Prop where
  len : marks.length = n * m
  at_ : ∀ x y : Nat, x < n → y < m → rdOf false marks ((x * m + y : Nat) : Int) = seenIn c L (x : Int) (y : Int)
theorem idx_lt {n m x y : Nat} (hx : x < n) (hy : y < m) : x * m + y < n * m := by
  have h9 := Nat.mul_le_mul_right m (show x + 1 ≤ n by omega)
  rw [Nat.add_mul, Nat.one_mul] at h9
  omega
theorem idx_inj {m x y x' y' : Nat} (hy : y < m) (hy' : y' < m) (h : x * m + y = x' * m + y') : x = x' ∧ y = y' := by
  have hm : 0 < m := by omega
  have q1 : (x * m + y) / m = x := by rw [Nat.mul_comm, Nat.mul_add_div hm, Nat.div_eq_of_lt hy, Nat.add_zero]
  have q1' : (x' * m + y') / m = x' := by rw [Nat.mul_comm, Nat.mul_add_div hm, Nat.div_eq_of_lt hy', Nat.add_zero]
  have e : x = x' := by rw [← q1, ← q1', h]
  subst e
  exact ⟨rfl, by omega⟩
theorem seenIn_snoc (c : Nat) (L : List S232) (x y i b x' y' : Int) (hc : c ≤ L.length) : seenIn c (L ++ [⟨x, y, i, b⟩]) x' y' = (seenIn c L x' y' || (x == x' && y == y')) := by
  unfold seenIn
  rw [List.drop_append_of_le_length hc, List.any_append]
  simp
theorem rdOf_set {α : Type} (d : α) (l : List α) (a b : Nat) (v : α) (ha : a < l.length) : rdOf d (l.set a v) (b : Int) = if a = b then v else rdOf d l (b : Int) := by
  unfold rdOf
  rw [Int.toNat_natCast, List.getD_eq_getElem?_getD, List.getD_eq_getElem?_getD, List.getElem?_set]
  by_cases e : a = b
  · subst e; rw [if_pos rfl, if_pos ha, if_pos rfl]; rfl
  · rw [if_neg e, if_neg e]
theorem MarkM.snoc {n m c : Nat} {L : List S232} {marks : List Bool} (h : MarkM n m c L marks) (hc : c ≤ L.length) {x y : Nat} (hx : x < n) (hy : y < m) (i b : Int) : MarkM n m c (L ++ [⟨(x : Int), (y : Int), i, b⟩]) (marks.set (x * m + y) true) := by
  refine ⟨by rw [List.length_set]; exact h.len, fun x' y' hx' hy' => ?_⟩
  rw [rdOf_set _ _ _ _ _ (by rw [h.len]; exact idx_lt hx hy), seenIn_snoc _ _ _ _ _ _ _ _ hc, h.at_ x' y' hx' hy']
  by_cases e : x * m + y = x' * m + y'
  · obtain ⟨rfl, rfl⟩ := idx_inj hy hy' e
    rw [if_pos e]
    simp
  · rw [if_neg e]
    have : ((x : Int) == (x' : Int) && (y : Int) == (y' : Int)) = false := by
      rw [Bool.eq_false_iff]
      intro q
      simp only [Bool.and_eq_true, beq_iff_eq] at q
      apply e
      have e1 : x = x' := by omega
      have e2 : y = y' := by omega
      rw [e1, e2]
    rw [this, Bool.or_false]
/-- the reference's queue -/
def refL (g : S232 → Int) (L : List S232) : List S165 := (List.range L.length).map (fun (t : Nat) => ⟨(rd_T232 L (t : Int)).f0, g (rd_T232 L (t : Int)), txt L t⟩)
theorem refL_len (g : S232 → Int) (L : List S232) : (refL g L).length = L.length := by simp [refL]
theorem refL_rd (g : S232 → Int) (L : List S232) {t : Nat} (h : t < L.length) : rd_T165 (refL g L) (t : Int) = ⟨(rd_T232 L (t : Int)).f0, g (rd_T232 L (t : Int)), txt L t⟩ := by
  unfold rd_T165 refL
  rw [Int.toNat_natCast, List.getD_eq_getElem?_getD, List.getElem?_map, List.getElem?_range h]
  rfl
theorem refL_snoc (g : S232 → Int) {L : List S232} (h : FrmW L) {i : Nat} (hi : i < L.length) (x y b : Int) : refL g (L ++ [⟨x, y, (i : Int), b⟩]) = refL g L ++ [⟨x, g ⟨x, y, (i : Int), b⟩, txt L i ++ strOfNums [b]⟩] := by
  unfold refL
  rw [List.length_append, List.length_singleton, List.range_succ, List.map_append, List.map_singleton, txt_new h hi]
  congr 1
  · apply List.map_congr_left
    intro t ht
    have ht := List.mem_range.1 ht
    rw [rd_T232_pre ht, txt_pre h _ ht]
  · have e : rd_T232 (L ++ [⟨x, y, (i : Int), b⟩]) (L.length : Int) = ⟨x, y, (i : Int), b⟩ := by
      unfold rd_T232
      rw [Int.toNat_natCast, List.getD_eq_getElem?_getD, List.getElem?_append_right (Nat.le_refl _)]
      simp
    rw [e]
theorem FrmW.take {L : List S232} (h : FrmW L) (n : Nat) : FrmW (L.take n) := by
  intro t h0 h1
  have h2 : t < L.length := by rw [List.length_take] at h1; omega
  have e : rd_T232 (L.take n) (t : Int) = rd_T232 L (t : Int) := by
    conv => rhs; rw [← List.take_append_drop n L]
    rw [rd_T232_pre h1]
  rw [e]
  exact h t h0 h2
theorem txt_take {L : List S232} (h : FrmW L) {n t : Nat} (ht : t < n) (hl : t < L.length) : txt (L.take n) t = txt L t := by
  have := txt_pre (h.take n) (L.drop n) (t := t) (by rw [List.length_take]; omega)
  rw [List.take_append_drop] at this
  exact this.symm
theorem OkW.start {n m c : Nat} (hn : 0 < n) (hm : 0 < m) (hc : c ≤ 1) : OkW n m c [⟨0, 0, 0, 0⟩] := by
  refine ⟨by simp, hc, ?_, ?_, ?_⟩
  · unfold prs
    match c, hc with
    | 0, _ => simp
    | 1, _ => simp
  · intro p hp
    rw [List.mem_singleton] at hp
    subst hp
    exact ⟨⟨by show (0 : Int) ≤ 0; omega, by show (0 : Int) < n; omega⟩, ⟨by show (0 : Int) ≤ 0; omega, by show (0 : Int) < m; omega⟩⟩
  · intro t h0 h1
    simp at h1
    omega
theorem blk_wf {b : List Int} {nx : List (List Int)} {acc : List Int} (h : dfaOk b nx acc) : b.length = 256 ∧ ∀ x ∈ b, (Lit.int .i64 x).wf = true := by
  obtain ⟨m, hm, h1, h2⟩ := h
  have hb := blocksM_some hm
  refine ⟨hb.1, fun x hx => ?_⟩
  obtain ⟨i, hi, rfl⟩ := List.mem_iff_getElem.1 hx
  have hc := hb.2.2.2 i (by omega)
  unfold rd at hc
  rw [Int.toNat_natCast, List.getD_eq_getElem?_getD, List.getElem?_eq_getElem hi, Option.getD_some] at hc
  have := hb.2
  exact wf_small hc.1 (by omega)
theorem iPairs {b : List Int} {nx : List (List Int)} {acc : List Int} {b' : List Int} {nx' : List (List Int)} {acc' : List Int} (h : dfaOk b nx acc) (h' : dfaOk b' nx' acc') : impl_pairBytes.f b b' = some (pairB b b' 256) := by
  obtain ⟨h1, h2⟩ := blk_wf h
  obtain ⟨h3, h4⟩ := blk_wf h'
  unfold impl_pairBytes.f
  rw [if_pos ⟨by omega, by omega, h2, h4⟩, h1]
theorem txt_zero (L : List S232) : txt L 0 = (⟨#[]⟩ : ByteArray) := rfl
theorem natOf {x : Int} (h : 0 ≤ x) : ∃ n : Nat, x = n := ⟨x.toNat, by omega⟩
def DiagW (L : List S232) : Prop := ∀ p ∈ L, p.f0 = p.f1
structure MarkD (n : Nat) (L : List S232) (marks : List Bool) : Prop where
  len : marks.length = n
  at_ : ∀ x : Nat, x < n → rdOf false marks (x : Int) = seenIn 1 L (x : Int) (x : Int)
theorem MarkD.snoc {n : Nat} {L : List S232} {marks : List Bool} (h : MarkD n L marks) (hc : 1 ≤ L.length) {x : Nat} (hx : x < n) (i b : Int) : MarkD n (L ++ [⟨(x : Int), (x : Int), i, b⟩]) (marks.set x true) := by
  refine ⟨by rw [List.length_set]; exact h.len, fun x' hx' => ?_⟩
  rw [rdOf_set _ _ _ _ _ (by rw [h.len]; exact hx), seenIn_snoc _ _ _ _ _ _ _ _ hc, h.at_ x' hx']
  by_cases e : x = x'
  · subst e
    rw [if_pos rfl]
    simp
  · rw [if_neg e]
    have : ((x : Int) == (x' : Int) && (x : Int) == (x' : Int)) = false := by
      rw [Bool.eq_false_iff]
      intro q
      simp only [Bool.and_eq_true, beq_iff_eq] at q
      omega
    rw [this, Bool.or_false]
theorem DiagW.snoc {L : List S232} (h : DiagW L) (x i b : Int) : DiagW (L ++ [⟨x, x, i, b⟩]) := by
  intro p hp
  rcases List.mem_append.1 hp with hp | hp
  · exact h p hp
  · rw [List.mem_singleton] at hp
    subst hp
    rfl
theorem DiagW.all {X : Int → Int} {i : Nat} : ∀ (bs : List Int) {L : List S232}, DiagW L → DiagW (addAllW X X 1 i L bs)
  | [], L, h => h
  | b :: bs, L, h => by
    show DiagW (addAllW X X 1 i (addW X X 1 i L b) bs)
    refine DiagW.all bs ?_
    unfold addW
    split
    · exact h
    · exact h.snoc _ _ _
theorem sWit_inner {d0 : List Int} {d1 : List (List Int)} {d2 : List Int} (h : dfaOk d0 d1 d2) (rule : Int) (hn : d1.length ≤ 1000) (i : Nat) (p : S232) (hp0 : 0 ≤ p.f0 ∧ p.f0 < d1.length) (T : ByteArray) (z : Int) :
    ∀ (d j : Nat) (L : List S232) (marks : List Bool), j + d = 256 → OkW d1.length d1.length 1 L → i < L.length → T = txt L i → MarkD d1.length L marks →
      ∃ marks', MarkD d1.length (addAllW (stepM d0 d1 p.f0) (stepM d0 d1 p.f0) 1 i L ((List.range d).map (fun q => ((j + q : Nat) : Int)))) marks' ∧
        ∀ k, spec_WitnessOf.l1 (k + d + 1) rule marks (refL (fun _ => 0) L) (i : Int) (j : Int) d0 d1 d2 p.f0 z T = spec_WitnessOf.l0 k rule marks' (refL (fun _ => 0) (addAllW (stepM d0 d1 p.f0) (stepM d0 d1 p.f0) 1 i L ((List.range d).map (fun q => ((j + q : Nat) : Int))))) ((i + 1 : Nat) : Int) d0 d1 d2
  | 0, j, L, marks, hj, hL, hi, hT, hM => by
    have hlen := hL.bound
    have h9 := Nat.mul_le_mul hn hn
    refine ⟨marks, hM, fun k => ?_⟩
    rw [show k + 0 + 1 = k + 1 from rfl, spec_WitnessOf.l1, if_neg (by omega), nat_next (by omega)]
    rfl
  | d + 1, j, L, marks, hj, hL, hi, hT, hM => by
    have hlen := hL.bound
    have h9 := Nat.mul_le_mul hn hn
    obtain ⟨g1, _, ⟨g3, g4⟩, g5, g6⟩ := dfa_step h hp0.1 hp0.2 (show (0 : Int) ≤ (j : Int) by omega) (show (j : Int) < 256 by omega)
    obtain ⟨x, hx⟩ := natOf g5
    have hxn : x < d1.length := by omega
    have hcons : (List.range (d + 1)).map (fun q => ((j + q : Nat) : Int)) = (j : Int) :: (List.range d).map (fun q => ((j + 1 + q : Nat) : Int)) := by
      rw [List.range_succ_eq_map, List.map_cons, List.map_map]
      congr 1
      apply List.map_congr_left
      intro q _
      show ((j + (q + 1) : Nat) : Int) = _
      congr 1
      omega
    have hall : ∀ bs, addAllW (stepM d0 d1 p.f0) (stepM d0 d1 p.f0) 1 i L ((j : Int) :: bs) = addAllW (stepM d0 d1 p.f0) (stepM d0 d1 p.f0) 1 i (addW (stepM d0 d1 p.f0) (stepM d0 d1 p.f0) 1 i L (j : Int)) bs := fun _ => rfl
    have hstep : ∀ k, spec_WitnessOf.l1 (k + 1) rule marks (refL (fun _ => 0) L) (i : Int) (j : Int) d0 d1 d2 p.f0 z T = if seenIn 1 L (x : Int) (x : Int) = true then spec_WitnessOf.l1 k rule marks (refL (fun _ => 0) L) (i : Int) ((j + 1 : Nat) : Int) d0 d1 d2 p.f0 z T else spec_WitnessOf.l1 k rule (marks.set x true) (refL (fun _ => 0) L ++ [⟨(x : Int), 0, T ++ strOfNums [(j : Int)]⟩]) (i : Int) ((j + 1 : Nat) : Int) d0 d1 d2 p.f0 z T := by
      intro k
      rw [spec_WitnessOf.l1, if_pos (by omega), if_pos hp0.1, if_pos hp0.2, if_pos (by omega), if_pos (by omega), if_pos g3, if_pos (show rd d0 (j : Int) < ((rd_L1 d1 p.f0).length : Int) from g4)]
      have eX : rd (rd_L1 d1 p.f0) (rd d0 (j : Int)) = stepM d0 d1 p.f0 (j : Int) := rfl
      rw [eX, hx, if_pos (by omega), if_pos (by rw [hM.len]; omega), hM.at_ x hxn, nat_next (by omega)]
      by_cases hs : seenIn 1 L (x : Int) (x : Int) = true
      · rw [if_pos hs, if_pos hs]
      · rw [if_neg hs, if_neg hs]
        have hts : T.size ≤ 10000000 := by rw [hT]; unfold txt; rw [sON_size]; have := chain_len L i i; omega
        simp only [Option.bind_some]
        rw [show (j : Int) % 256 = (j : Int) by omega, sON_size, if_pos (by simp; omega), if_pos (by rw [refL_len]; omega), Int.toNat_natCast]
    rw [hcons, hall]
    unfold addW
    rw [hx]
    by_cases hs : seenIn 1 L (x : Int) (x : Int) = true
    · rw [if_pos hs]
      obtain ⟨marks', hM', hk'⟩ := sWit_inner h rule hn i p hp0 T z d (j + 1) L marks (by omega) hL hi hT hM
      refine ⟨marks', hM', fun k => ?_⟩
      rw [show k + (d + 1) + 1 = (k + d + 1) + 1 by omega, hstep, if_pos hs, hk']
    · rw [if_neg hs]
      have hL2 := hL.snoc ⟨(x : Int), (x : Int), (i : Int), (j : Int)⟩ hs ⟨by simp, by show (x : Int) < _; omega⟩ ⟨by simp, by show (x : Int) < _; omega⟩ ⟨by simp, by show (i : Int) < _; omega⟩ ⟨by simp, by show (j : Int) < _; omega⟩
      obtain ⟨marks', hM', hk'⟩ := sWit_inner h rule hn i p hp0 T z d (j + 1) _ _ (by omega) hL2 (by simp; omega) (by rw [hT, txt_pre hL.frmW _ hi]) (hM.snoc hL.len hxn (i : Int) (j : Int))
      refine ⟨marks', hM', fun k => ?_⟩
      rw [show k + (d + 1) + 1 = (k + d + 1) + 1 by omega, hstep, if_neg hs, hT, ← refL_snoc (fun _ => 0) hL.frmW hi (x : Int) (x : Int) (j : Int), ← hT, hk']
theorem txt_ne {L : List S232} {t : Nat} (h : 0 < t) : (txt L t).toList ≠ ([] : List UInt8) := by
  intro e
  have : (txt L t).size = 0 := by
    rw [ByteArray.toList_eq] at e
    have := congrArg List.length e
    simpa only [ByteArray.size, List.length_nil, Array.length_toList] using this
  unfold txt at this
  rw [sON_size] at this
  obtain ⟨t, rfl⟩ : ∃ m, t = m + 1 := ⟨t - 1, by omega⟩
  rw [chain, if_neg (by omega), List.length_append, List.length_singleton] at this
  omega
theorem sWit_outer {d0 : List Int} {d1 : List (List Int)} {d2 : List Int} (h : dfaOk d0 d1 d2) (rule : Int) (hn : d1.length ≤ 1000) {L L2 : List S232} {i i2 : Nat}
    (hr : RunW (stepM d0 d1) (stepM d0 d1) 1 L i L2 i2) : OkW d1.length d1.length 1 L → DiagW L → (∀ u, i ≤ u → u < i2 → 0 < u → ∀ (hu : u < L2.length), (rd d2 (L2[u]).f0 == rule) = false) → ∀ marks, MarkD d1.length L marks →
      ∃ marks2 k0, MarkD d1.length L2 marks2 ∧ ∀ k, spec_WitnessOf.l0 (k + k0) rule marks (refL (fun _ => 0) L) (i : Int) d0 d1 d2 = spec_WitnessOf.l0 k rule marks2 (refL (fun _ => 0) L2) (i2 : Int) d0 d1 d2 := by
  induction hr with
  | refl L i => exact fun hL _ _ marks hM => ⟨marks, 0, hM, fun k => rfl⟩
  | @step L i L2 i2 hi hrun ih =>
    intro hL hD hQ marks hM
    have hdg : (rd_T232 L (i : Int)).f0 = (rd_T232 L (i : Int)).f1 := by
      rw [rd_T232_mem hi]
      exact hD _ (List.getElem_mem hi)
    rw [← hdg] at hrun ih
    obtain ⟨⟨t2, ht2⟩, hle⟩ := hrun.pre
    obtain ⟨t1, ht1⟩ := addAllW_pre (stepM d0 d1 (rd_T232 L (i : Int)).f0) (stepM d0 d1 (rd_T232 L (i : Int)).f0) 1 i ((List.range 256).map (fun (k : Nat) => (k : Int))) L
    have hl1 := pre_len ht1
    have hl2 := pre_len ht2
    have hget : L2[i]'(by omega) = rd_T232 L (i : Int) := by
      rw [get_pre ht2 (by omega), get_pre ht1 hi, rd_T232_mem hi]
    obtain ⟨r0, _⟩ := hL.rng _ (List.getElem_mem hi)
    rw [← rd_T232_mem hi] at r0
    have hA : OkW d1.length d1.length 1 (addAllW (stepM d0 d1 (rd_T232 L (i : Int)).f0) (stepM d0 d1 (rd_T232 L (i : Int)).f0) 1 i L ((List.range 256).map (fun (k : Nat) => (k : Int)))) := hL.all hi (fun b hb => by
      obtain ⟨q, hq, rfl⟩ := List.mem_map.1 hb
      have hq := List.mem_range.1 hq
      exact ⟨by omega, (dfa_step h r0.1 r0.2 (c := (q : Int)) (by omega) (by omega)).2.2.2, (dfa_step h r0.1 r0.2 (c := (q : Int)) (by omega) (by omega)).2.2.2⟩)
    obtain ⟨marks1, hM1, hk1⟩ := sWit_inner h rule hn i (rd_T232 L (i : Int)) r0 (txt L i) 0 256 0 L marks rfl hL hi rfl hM
    simp only [Nat.zero_add] at hM1 hk1
    obtain ⟨marks2, k0, hM2, hk2⟩ := ih hA (hD.all _) (fun u h1 h2 h3 => hQ u (by omega) h2 h3) marks1 hM1
    have hlen := hL.bound
    have h9 := Nat.mul_le_mul hn hn
    refine ⟨marks2, k0 + 256 + 1 + 1 + 1, hM2, fun k => ?_⟩
    have hd2 := (dfa_step h r0.1 r0.2 (c := 0) (by omega) (by omega)).2.1
    rw [show k + (k0 + 256 + 1 + 1 + 1) = (k + k0 + 256 + 1) + 1 + 1 by omega, spec_WitnessOf.l0, if_pos (by rw [refL_len]; omega), if_pos (by omega), refL_rd _ _ hi]
    have hgo : spec_WitnessOf.j1 ((k + k0 + 256 + 1) + 1) rule marks (refL (fun _ => 0) L) (i : Int) false d0 d1 d2 (rd_T232 L (i : Int)).f0 0 (txt L i) = spec_WitnessOf.l0 k rule marks2 (refL (fun _ => 0) L2) (i2 : Int) d0 d1 d2 := by
      rw [spec_WitnessOf.j1, if_neg (by simp)]
      have := hk1 (k + k0)
      simp only [Int.natCast_zero] at this
      refine Eq.trans this ?_
      exact hk2 k
    by_cases e0 : i = 0
    · subst e0
      rw [if_pos (show (txt L 0).toList = ([] : List UInt8) by rw [txt_zero, ByteArray.toList_eq])]
      exact hgo
    · rw [if_neg (txt_ne (by omega))]
      simp only []
      have hq := hQ i (Nat.le_refl _) (by omega) (by omega) (by omega)
      rw [hget] at hq
      rw [if_pos r0.1, if_pos (by omega), hq]
      exact hgo
open Classical in
theorem wit_spec {d0 : List Int} {d1 : List (List Int)} {d2 : List Int} (h : dfaOk d0 d1 d2) (rule : Int) : ∀ K, 400000 ≤ K → spec_WitnessOf.f K d0 d1 d2 rule = spec_WitnessOf.l0 K rule (List.replicate d1.length false) [⟨0, 0, (⟨#[]⟩ : ByteArray)⟩] 0 d0 d1 d2 := by
  obtain ⟨_, _, ⟨hn1, hn, hd2⟩, _⟩ := id h
  intro K hk
  unfold spec_WitnessOf.f
  rw [sDfaOk d0 d1 d2 K hk, decide_eq_true h]
  rw [Option.bind_some, if_pos rfl, if_pos (by omega), if_pos (by omega), Int.toNat_natCast]
theorem wit_P {d0 : List Int} {d1 : List (List Int)} {d2 : List Int} (h : dfaOk d0 d1 d2) (rule : Int) : ∀ x y : Int, 0 ≤ x → x < d1.length → 0 ≤ y → y < d1.length → ruleP d2 rule x y = some (rd d2 x == rule) := by
  obtain ⟨_, _, ⟨hn1, hn, hd2⟩, _⟩ := id h
  intro x y h1 h2 _ _
  unfold ruleP
  rw [if_pos ⟨h1, by omega⟩]
open Classical in
theorem wit_impl {d0 : List Int} {d1 : List (List Int)} {d2 : List Int} (h : dfaOk d0 d1 d2) (rule : Int) (hb : d0.length ≤ 1048576) : ∀ k, 2000000 ≤ k → impl_WitnessOf.f k d0 d1 d2 rule = impl_find.l0 (ruleP d2 rule) 1 d0 d1 d2 d0 d1 d2 (pairB d0 d0 256) k [⟨0, 0, 0, 0⟩] 0 0 := by
  intro k hk
  unfold impl_WitnessOf.f
  rw [iDfaOk d0 d1 d2 hb k (by omega), decide_eq_true h]
  rw [Option.bind_some, if_pos rfl]
  unfold impl_find.f
  rw [if_neg (by omega), if_pos rfl]
  unfold impl_find.g
  rw [iPairs h h, Option.bind_some]
theorem wit_marks (n : Nat) : MarkD n [⟨0, 0, 0, 0⟩] (List.replicate n false) := by
  refine ⟨by simp, fun x hx => ?_⟩
  unfold rdOf seenIn
  rw [Int.toNat_natCast, List.getD_eq_getElem?_getD, List.getElem?_replicate, if_pos hx]
  rfl
theorem RunW.diag {X : Int → Int → Int} {L L2 : List S232} {i i2 : Nat} (h : RunW X X 1 L i L2 i2) : DiagW L → DiagW L2 := by
  induction h with
  | refl => exact id
  | @step L i L2 i2 hi _ ih =>
    intro hD
    apply ih
    have e : (rd_T232 L (i : Int)).f0 = (rd_T232 L (i : Int)).f1 := by
      rw [rd_T232_mem hi]
      exact hD _ (List.getElem_mem hi)
    rw [← e]
    exact hD.all _
theorem wit_both {d0 : List Int} {d1 : List (List Int)} {d2 : List Int} (h : dfaOk d0 d1 d2) (rule : Int) (hb : d0.length ≤ 1048576) :
    ∃ K res, ∀ k, K ≤ k → spec_WitnessOf.f k d0 d1 d2 rule = some res ∧ impl_WitnessOf.f k d0 d1 d2 rule = some res := by
  obtain ⟨_, _, ⟨hn1, hn, hd2⟩, _⟩ := id h
  have h9 := Nat.mul_le_mul hn hn
  have hspec := wit_spec h rule
  have hP := wit_P h rule
  have himpl := wit_impl h rule hb
  have hM := wit_marks d1.length
  have hOk : OkW d1.length d1.length 1 [⟨0, 0, 0, 0⟩] := OkW.start hn1 hn1 (by omega)
  have hD : DiagW [⟨0, 0, 0, 0⟩] := by
    intro p hp
    rw [List.mem_singleton] at hp
    subst hp
    rfl
  have hL : refL (fun _ => 0) [⟨0, 0, 0, 0⟩] = [⟨0, 0, (⟨#[]⟩ : ByteArray)⟩] := rfl
  have hbfs := bfs_outer (ruleP d2 rule) 1 d0 d0 d1 d2 d1 d2 (fun x y => rd d2 x == rule) d1.length d1.length (fun s c => rd (drow d1 s.toNat) c) (fun s c => rd (drow d1 s.toNat) c)
    (fun s b a0 a1 b0 b1 => ⟨iStep h a0 a1 b0 b1, (dfa_step h a0 a1 b0 b1).2.2.2⟩) (fun s b a0 a1 b0 b1 => ⟨iStep h a0 a1 b0 b1, (dfa_step h a0 a1 b0 b1).2.2.2⟩) (by omega) hn hn hP _ 0 [⟨0, 0, 0, 0⟩] rfl hOk (by simp)
  rcases hbfs with ⟨L2, a1, a2, a3, k0, a4⟩ | ⟨L2, t, a1, a2, ht, a3, a4, a5, a6⟩
  · obtain ⟨marks2, k1, _, hk1⟩ := sWit_outer h rule hn a1 hOk hD (fun u h1 h2 h0 h3 => a3 u (by simp; omega) h3) _ hM
    rw [hL] at hk1
    refine ⟨2000002 + k0 + k1, ((⟨#[]⟩ : ByteArray), false), fun k hk => ⟨?_, ?_⟩⟩
    · obtain ⟨k, rfl⟩ : ∃ m, k = m + 1 + k1 := ⟨k - k1 - 1, by omega⟩
      rw [hspec _ (by omega)]
      refine (hk1 (k + 1)).trans ?_
      rw [spec_WitnessOf.l0, if_neg (by rw [refL_len]; omega)]
    · rw [himpl _ (by omega), a4 k (by omega)]
      rfl
  · obtain ⟨marks2, k1, _, hk1⟩ := sWit_outer h rule hn a1 hOk hD (fun u h1 h2 h0 h3 => a5 u (by simp; omega) h2 h3) _ hM
    rw [hL] at hk1
    have hlen := a2.bound
    have ht0 : 0 < t := by simp at a3; omega
    obtain ⟨k2, hk2⟩ := a6 (txt L2 t) (2 * t + 2) (fun k hk => by
      rw [iText (a2.frmW.take (t + 1)) (by rw [List.length_take]; omega) t (by rw [List.length_take]; omega) k (by omega), txt_take a2.frmW (by omega) ht])
    obtain ⟨⟨r0, r0'⟩, _⟩ := a2.rng _ (List.getElem_mem ht)
    refine ⟨2000002 + k1 + k2, (txt L2 t, true), fun k hk => ⟨?_, ?_⟩⟩
    · obtain ⟨k, rfl⟩ : ∃ m, k = m + 1 + 1 + k1 := ⟨k - k1 - 2, by omega⟩
      rw [hspec _ (by omega)]
      refine (hk1 (k + 1 + 1)).trans ?_
      rw [spec_WitnessOf.l0, if_pos (by rw [refL_len]; omega), if_pos (by omega), refL_rd _ _ ht, rd_T232_mem ht]
      rw [if_neg (txt_ne ht0)]
      simp only []
      rw [if_pos r0, if_pos (by omega), a4, spec_WitnessOf.j1, if_pos rfl]
    · rw [himpl _ (by omega), hk2 k (by omega)]
open Classical in
theorem wit_all (d0 : List Int) (d1 : List (List Int)) (d2 : List Int) (rule : Int) (hb : d0.length ≤ 1048576) :
    ∃ K res, ∀ k, K ≤ k → spec_WitnessOf.f k d0 d1 d2 rule = some res ∧ impl_WitnessOf.f k d0 d1 d2 rule = some res := by
  by_cases h : dfaOk d0 d1 d2
  · exact wit_both h rule hb
  · refine ⟨2000000, (ByteArray.empty, false), fun k hk => ⟨?_, ?_⟩⟩
    · unfold spec_WitnessOf.f
      rw [sDfaOk d0 d1 d2 k (by omega), decide_eq_false h, Option.bind_some, if_neg (by simp)]
      rfl
    · unfold impl_WitnessOf.f
      rw [iDfaOk d0 d1 d2 hb k (by omega), decide_eq_false h, Option.bind_some, if_neg (by simp)]

theorem FnExactWitnessOf (x : List Int × List (List Int) × List Int) (g : gd_Int64S x.1 ∧ gd_Int64SS x.2.1 ∧ gd_Int64S x.2.2) (rule : Int) (_ : (Lit.int .i64 rule).wf = true) : ∃ k, laws_FnExactWitnessOf.f k x.1 x.2.1 x.2.2 rule = some true := by
  obtain ⟨b, nx, acc⟩ := x
  simp only at g
  have hall : ∃ K, ∀ k, K ≤ k → (b.length ≤ 1048576 → ∃ res, spec_WitnessOf.f k b nx acc rule = some res ∧ impl_WitnessOf.f k b nx acc rule = some res) := by
    by_cases hb : b.length ≤ 1048576
    · obtain ⟨K, res, h⟩ := wit_all b nx acc rule hb
      exact ⟨K, fun k hk _ => ⟨res, h k hk⟩⟩
    · exact ⟨0, fun k _ h => absurd h hb⟩
  obtain ⟨K, hK⟩ := hall
  suffices H : ∀ k, 10000001 ≤ k → K ≤ k → laws_FnExactWitnessOf.f k b nx acc rule = some true from ⟨10000001 + K, H _ (Nat.le_add_right _ _) (Nat.le_add_left _ _)⟩
  intro k hk hkK
  obtain ⟨r, e, r0, r1, h⟩ := szL_Dfa k (by omega) b nx acc g 1048576 (by omega)
  unfold laws_FnExactWitnessOf.f
  rw [e]
  simp only [Option.bind_some]
  by_cases hr : r < 0
  · rw [if_pos hr]
  have hb := h (by omega)
  obtain ⟨res, hs, hi⟩ := hK k hkK hb.1
  rw [if_neg hr, toL_Dfa k (by omega) b nx acc hb]
  simp only [Option.bind_some]
  rw [hs]
  simp only [Option.bind_some]
  rw [hi]
  simp only [Option.bind_some]
  obtain ⟨k', hk'⟩ : ∃ m, k = m + 1 := ⟨k - 1, by omega⟩
  rw [if_pos trivial, show (res.2 != res.2) = false by simp]
  rw [hk', laws_FnExactWitnessOf.j0, if_neg (by simp), toL_Dfa k' (by omega) b nx acc hb]
  simp only [Option.bind_some]
  rw [eqL_Dfa k' (by omega) b nx acc hb]
  rfl
end Go.Proofs.Ytaemhmgcjpcicaa.Pure
