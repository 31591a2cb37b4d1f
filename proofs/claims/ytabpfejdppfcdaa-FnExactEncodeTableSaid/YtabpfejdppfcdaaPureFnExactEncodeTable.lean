/- The program's EncodeTable and the reference's come to the same bytes: whatever the packed rows. -/
import Derived.Test.YtabpfejdppfcdaaPFnExactEncodeTablex11
import Derived.Test.YtabpfejdppfcdaaKit
import Derived.Test.YtabpfejdppfcdaaKitTab
namespace Go.Proofs.Ytabpfejdppfcdaa.Pure
open Go.RowKit Go.Proofs.Ytabpfejdppfcdaa.PFnExactEncodeTable Go.Proofs.YtabpfejdppfcdaaW.PrintWords Go.Proofs.YtabpfejdppfcdaaW.PrintLast Go.Proofs.YtabpfejdppfcdaaW.PrintMore Go.Proofs.Ytabpfejdppfcdaa.Kit
set_option linter.unusedVariables false
theorem sIn (a b c : Int) : spec_l1In.f a b c = some (decide (b ≤ a ∧ a ≤ c)) := by
  unfold spec_l1In.f
  by_cases h : a ≥ b
  · rw [if_pos h]; congr 1; simp; omega
  · rw [if_neg h]; congr 1; simp; omega
theorem iWithin (a b c : Int) : impl_within.f a b c = some (decide (b ≤ a ∧ a ≤ c)) := by
  unfold impl_within.f
  by_cases h : a ≥ b
  · rw [if_pos h]; congr 1; simp; omega
  · rw [if_neg h]; congr 1; simp; omega
/-- two lists of numbers that are one are told alike -/
theorem eqInt64S_l (l : List Int) (hl : (l.length : Int) ≤ 1099511627776) (d : Nat) : ∀ (k : Nat) (i : Int), d < k → 0 ≤ i → (l.length : Int) - i = d → laws_eqInt64S.l0 k l l i = some true := by
  induction d with
  | zero =>
    intro k i hk h0 hd
    obtain ⟨k, rfl⟩ : ∃ m, k = m + 1 := ⟨k - 1, by omega⟩
    simp only [laws_eqInt64S.l0]
    rw [if_neg (by omega)]
  | succ d ih =>
    intro k i hk h0 hd
    obtain ⟨k, rfl⟩ : ∃ m, k = m + 1 := ⟨k - 1, by omega⟩
    simp only [laws_eqInt64S.l0]
    rw [if_pos (by omega), if_pos h0, if_pos (by omega), w64 (by omega) (by omega)]
    exact ih k _ (by omega) (by omega) (by omega)
theorem eqInt64S_same (l : List Int) (hl : (l.length : Int) ≤ 1099511627776) (k : Nat) (hk : l.length < k) : laws_eqInt64S.f k l l = some true := by
  unfold laws_eqInt64S.f
  simp only [if_true]
  exact eqInt64S_l l hl l.length k 0 hk (by omega) (by omega)

/-- what is marked is held: the marks of a list, told by its length alone -/
theorem markInt64S_l (d : Nat) : ∀ (k : Nat) (l : List Int) (m i : Int), d < k → 0 ≤ i → (l.length : Int) - i = d → (l.length : Int) ≤ 1099511627776 → 0 ≤ m → m ≤ 4398046511104 → m + d ≤ 4398046511104 →
    ∃ l', laws_markInt64S.l0 k l m i = some (m + d, l') ∧ l'.length = l.length ∧ (∀ j : Nat, (j : Int) < i → l'.getD j 0 = l.getD j 0) ∧ (∀ j : Nat, i ≤ (j : Int) → j < l.length → l'.getD j 0 = m + ((j : Int) - i)) := by
  induction d with
  | zero =>
    intro k l m i hk h0 hd hl hm hm' hmd
    obtain ⟨k, rfl⟩ : ∃ m, k = m + 1 := ⟨k - 1, by omega⟩
    refine ⟨l, ?_, rfl, fun j _ => rfl, fun j hj hj' => by omega⟩
    simp only [laws_markInt64S.l0]
    rw [if_neg (by omega)]
    simp
  | succ d ih =>
    intro k l m i hk h0 hd hl hm hm' hmd
    obtain ⟨k, rfl⟩ : ∃ m, k = m + 1 := ⟨k - 1, by omega⟩
    obtain ⟨l', e, e1, e2, e3⟩ := ih k (l.set i.toNat m) (m + 1) (i + 1) (by omega) (by omega) (by simp; omega) (by simp; omega) (by omega) (by omega) (by omega)
    refine ⟨l', ?_, by simpa using e1, fun j hj => ?_, fun j hj hj' => ?_⟩
    · simp only [laws_markInt64S.l0]
      rw [if_pos (by omega), if_pos h0, w64 (x := m + 1) (by omega) (by omega), w64 (by omega) (by omega), e]
      congr 2
      omega
    · rw [e2 j (by omega), List.getD_eq_getElem?_getD, List.getD_eq_getElem?_getD, List.getElem?_set_ne (by omega)]
    · by_cases hji : (j : Int) = i
      · rw [e2 j (by omega)]
        have : i.toNat = j := by omega
        rw [this, List.getD_eq_getElem?_getD, List.getElem?_set_self hj']
        simp; omega
      · rw [e3 j (by omega) (by simpa using hj')]
        omega
def gd_Int64S (x : List Int) : Prop := x.length ≤ maxLen ∧ ∀ y ∈ x, (Lit.int .i64 y).wf = true
def bd_Int64S (x : List Int) : Prop := x.length ≤ 1048576
def bi_Int64S (x : List Int) : Prop := x.length ≤ 1048576
theorem szL_Int64S (k : Nat) (hk : 1048578 ≤ k) (l : List Int) (g : l.length ≤ maxLen ∧ ∀ y ∈ l, (Lit.int .i64 y).wf = true) (n : Int) (hn : 0 ≤ n ∧ n ≤ 1048576) : ∃ r, laws_szInt64S.f l n = some r ∧ -1 ≤ r ∧ r ≤ n ∧ (0 ≤ r → l.length ≤ 1048576) := by
  have hl := g.1
  unfold maxLen at hl
  unfold laws_szInt64S.f
  rw [w64 (by omega) (by omega)]
  by_cases h : n - (l.length : Int) < 0
  · rw [if_pos h]; exact ⟨-1, rfl, by omega, by omega, fun h => by omega⟩
  · rw [if_neg h]; exact ⟨_, rfl, by omega, by omega, fun _ => by omega⟩
theorem szL_Packed (k : Nat) (hk : 1048578 ≤ k) (f0 : List Int) (f1 : List Int) (f2 : List Int) (f3 : List Int) (f4 : List Int) (f5 : List Int) (g : (f0.length ≤ maxLen ∧ ∀ y ∈ f0, (Lit.int .i64 y).wf = true) ∧ (f1.length ≤ maxLen ∧ ∀ y ∈ f1, (Lit.int .i64 y).wf = true) ∧ (f2.length ≤ maxLen ∧ ∀ y ∈ f2, (Lit.int .i64 y).wf = true) ∧ (f3.length ≤ maxLen ∧ ∀ y ∈ f3, (Lit.int .i64 y).wf = true) ∧ (f4.length ≤ maxLen ∧ ∀ y ∈ f4, (Lit.int .i64 y).wf = true) ∧ (f5.length ≤ maxLen ∧ ∀ y ∈ f5, (Lit.int .i64 y).wf = true)) (n : Int) (hn : 0 ≤ n ∧ n ≤ 1048576) : ∃ r, laws_szPacked.f f0 f1 f2 f3 f4 f5 n = some r ∧ -1 ≤ r ∧ r ≤ n ∧ (0 ≤ r → (f0.length ≤ 1048576) ∧ (f1.length ≤ 1048576) ∧ (f2.length ≤ 1048576) ∧ (f3.length ≤ 1048576) ∧ (f4.length ≤ 1048576) ∧ (f5.length ≤ 1048576)) := by
  unfold laws_szPacked.f
  obtain ⟨r1, e1, a1, b1, d1⟩ := szL_Int64S k (by omega) f0 g.1 n (by omega)
  rw [e1]
  simp only [Option.bind_some]
  by_cases c1 : r1 < 0
  · rw [if_pos c1]; exact ⟨-1, rfl, by omega, by omega, fun h => by omega⟩
  rw [if_neg c1]
  obtain ⟨r2, e2, a2, b2, d2⟩ := szL_Int64S k (by omega) f1 g.2.1 r1 (by omega)
  rw [e2]
  simp only [Option.bind_some]
  by_cases c2 : r2 < 0
  · rw [if_pos c2]; exact ⟨-1, rfl, by omega, by omega, fun h => by omega⟩
  rw [if_neg c2]
  obtain ⟨r3, e3, a3, b3, d3⟩ := szL_Int64S k (by omega) f2 g.2.2.1 r2 (by omega)
  rw [e3]
  simp only [Option.bind_some]
  by_cases c3 : r3 < 0
  · rw [if_pos c3]; exact ⟨-1, rfl, by omega, by omega, fun h => by omega⟩
  rw [if_neg c3]
  obtain ⟨r4, e4, a4, b4, d4⟩ := szL_Int64S k (by omega) f3 g.2.2.2.1 r3 (by omega)
  rw [e4]
  simp only [Option.bind_some]
  by_cases c4 : r4 < 0
  · rw [if_pos c4]; exact ⟨-1, rfl, by omega, by omega, fun h => by omega⟩
  rw [if_neg c4]
  obtain ⟨r5, e5, a5, b5, d5⟩ := szL_Int64S k (by omega) f4 g.2.2.2.2.1 r4 (by omega)
  rw [e5]
  simp only [Option.bind_some]
  by_cases c5 : r5 < 0
  · rw [if_pos c5]; exact ⟨-1, rfl, by omega, by omega, fun h => by omega⟩
  rw [if_neg c5]
  obtain ⟨r6, e6, a6, b6, d6⟩ := szL_Int64S k (by omega) f5 g.2.2.2.2.2 r5 (by omega)
  rw [e6]
  simp only [Option.bind_some]
  by_cases c6 : r6 < 0
  · rw [if_pos c6]; exact ⟨-1, rfl, by omega, by omega, fun h => by omega⟩
  rw [if_neg c6]
  exact ⟨r6, rfl, by omega, by omega, fun _ => ⟨(d1 (by omega)), (d2 (by omega)), (d3 (by omega)), (d4 (by omega)), (d5 (by omega)), (d6 (by omega))⟩⟩
theorem toL_Int64S_l (l : List Int) (hl : l.length ≤ 1048576) (d : Nat) : ∀ (k : Nat) (acc : List Int) (i : Int), d + 0 < k → 0 ≤ i → (l.length : Int) - i = d → acc.length = l.length →
    laws_toInt64S.l0 k l acc i = some (acc.take i.toNat ++ (l).drop i.toNat) := by
  induction d with
  | zero =>
    intro k acc i hk h0 hd ha
    obtain ⟨k, rfl⟩ : ∃ m, k = m + 1 := ⟨k - 1, by omega⟩
    simp only [laws_toInt64S.l0]
    rw [if_neg (by omega), List.take_of_length_le (by omega), List.drop_eq_nil_of_le (by first | omega | (rw [List.length_map]; omega)), List.append_nil]
  | succ d ih =>
    intro k acc i hk h0 hd ha
    obtain ⟨k, rfl⟩ : ∃ m, k = m + 1 := ⟨k - 1, by omega⟩
    have hi : i.toNat < l.length := by omega
    have e : rd l i = l[i.toNat] := by
      unfold rd
      rw [List.getD_eq_getElem?_getD, List.getElem?_eq_getElem hi]
      rfl
    simp only [laws_toInt64S.l0, e]
    rw [if_pos (by omega), if_pos h0, if_pos (by omega), w64 (by omega) (by omega), ih k _ _ (by omega) (by omega) (by omega) (by simpa using ha)]
    have e1 : (i + 1).toNat = i.toNat + 1 := by omega
    rw [e1, List.take_succ_eq_append_getElem (by simp; omega), List.take_set_of_le (Nat.le_refl _), List.getElem_set_self, List.append_assoc, List.singleton_append]
    congr 2
    rw [List.drop_eq_getElem_cons (i := i.toNat) hi]
theorem toL_Int64S (k : Nat) (hk : 1048578 ≤ k) (l : List Int) (g : l.length ≤ 1048576) : laws_toInt64S.f k l = some (l) := by
  have hl : l.length ≤ 1048576 := g
  unfold laws_toInt64S.f
  rw [if_pos (by omega), if_pos (by omega), toL_Int64S_l l hl l.length k _ 0 (by omega) (by omega) (by omega) (by simp)]
  simp
theorem toL_Packed (k : Nat) (hk : 1048578 ≤ k) (f0 : List Int) (f1 : List Int) (f2 : List Int) (f3 : List Int) (f4 : List Int) (f5 : List Int) (g : (f0.length ≤ 1048576) ∧ (f1.length ≤ 1048576) ∧ (f2.length ≤ 1048576) ∧ (f3.length ≤ 1048576) ∧ (f4.length ≤ 1048576) ∧ (f5.length ≤ 1048576)) : laws_toPacked.f k f0 f1 f2 f3 f4 f5 = some (f0, f1, f2, f3, f4, f5) := by
  unfold laws_toPacked.f
  rw [toL_Int64S k (by omega) f0 (g.1)]
  simp only [Option.bind_some]
  rw [toL_Int64S k (by omega) f1 (g.2.1)]
  simp only [Option.bind_some]
  rw [toL_Int64S k (by omega) f2 (g.2.2.1)]
  simp only [Option.bind_some]
  rw [toL_Int64S k (by omega) f3 (g.2.2.2.1)]
  simp only [Option.bind_some]
  rw [toL_Int64S k (by omega) f4 (g.2.2.2.2.1)]
  simp only [Option.bind_some]
  rw [toL_Int64S k (by omega) f5 (g.2.2.2.2.2)]
  simp only [Option.bind_some]
  all_goals (first | rfl | simp)
theorem eqL_Int64S_l (l : List Int) (hl : l.length ≤ 1048576) (d : Nat) : ∀ (k : Nat) (i : Int), d + 0 < k → 0 ≤ i → (l.length : Int) - i = d → laws_eqInt64S.l0 k l l i = some true := by
  induction d with
  | zero =>
    intro k i hk h0 hd
    obtain ⟨k, rfl⟩ : ∃ m, k = m + 1 := ⟨k - 1, by omega⟩
    simp only [laws_eqInt64S.l0]
    rw [if_neg (by omega)]
  | succ d ih =>
    intro k i hk h0 hd
    obtain ⟨k, rfl⟩ : ∃ m, k = m + 1 := ⟨k - 1, by omega⟩
    have hi : i.toNat < l.length := by omega
    simp only [laws_eqInt64S.l0]
    rw [if_pos (by omega), if_pos h0, if_pos (by omega)]
    simp only [if_true]
    rw [w64 (by omega) (by omega)]
    exact ih k _ (by omega) (by omega) (by omega)
theorem eqL_Int64S (k : Nat) (hk : 1048578 ≤ k) (l : List Int) (g : l.length ≤ 1048576) : laws_eqInt64S.f k l l = some true := by
  have hl : l.length ≤ 1048576 := g
  unfold laws_eqInt64S.f
  simp only [if_true]
  exact eqL_Int64S_l l hl l.length k 0 (by omega) (by omega) (by omega)
theorem eqL_Packed (k : Nat) (hk : 1048578 ≤ k) (f0 : List Int) (f1 : List Int) (f2 : List Int) (f3 : List Int) (f4 : List Int) (f5 : List Int) (g : (f0.length ≤ 1048576) ∧ (f1.length ≤ 1048576) ∧ (f2.length ≤ 1048576) ∧ (f3.length ≤ 1048576) ∧ (f4.length ≤ 1048576) ∧ (f5.length ≤ 1048576)) : laws_eqPacked.f k f0 f1 f2 f3 f4 f5 f0 f1 f2 f3 f4 f5 = some true := by
  unfold laws_eqPacked.f
  simp [eqL_Int64S k (by omega) f0 (g.1), eqL_Int64S k (by omega) f1 (g.2.1), eqL_Int64S k (by omega) f2 (g.2.2.1), eqL_Int64S k (by omega) f3 (g.2.2.2.1), eqL_Int64S k (by omega) f4 (g.2.2.2.2.1), eqL_Int64S k (by omega) f5 (g.2.2.2.2.2)]
theorem sBlocks_l (l : List Int) (hl : l.length = 256) (d : Nat) : ∀ (k i : Nat) (n : Int), d < k → 256 - i = d → i ≤ 256 → 0 ≤ n → n ≤ i → spec_l7Blocks.l0 k l n (i : Int) = some ((blkLoop l d i n).getD (-1)) := by
  induction d with
  | zero =>
    intro k i n hk hd hi h0 h1
    obtain ⟨k, rfl⟩ : ∃ m, k = m + 1 := ⟨k - 1, by omega⟩
    simp only [spec_l7Blocks.l0]
    rw [if_neg (by omega)]
    rfl
  | succ d ih =>
    intro k i n hk hd hi h0 h1
    obtain ⟨k, rfl⟩ : ∃ m, k = m + 1 := ⟨k - 1, by omega⟩
    simp only [spec_l7Blocks.l0, sIn, Option.bind_some, decide_eq_true_eq]
    rw [if_pos (by omega), if_pos (by omega), if_pos (by omega)]
    unfold blkLoop
    by_cases hc : 0 ≤ rd l (i : Int) ∧ rd l (i : Int) ≤ n
    · rw [if_pos hc, if_pos hc, w64 (x := rd l (i : Int) + 1) (by omega) (by omega), nat_next (by omega)]
      exact ih k (i + 1) _ (by omega) (by omega) (by omega) (by have := le_mx_left n (rd l (i : Int) + 1); omega) (mx_le (by omega) (by omega))
    · rw [if_neg hc, if_neg hc]
      rfl
theorem sBlocks (l : List Int) (k : Nat) (hk : 300 ≤ k) : spec_l7Blocks.f k l = some ((blocksM l).getD (-1)) := by
  unfold spec_l7Blocks.f blocksM
  by_cases h : l.length = 256
  · rw [if_pos (by omega), if_pos h]
    exact sBlocks_l l h 256 k 0 0 (by omega) (by omega) (by omega) (by omega) (by omega)
  · rw [if_neg (by omega), if_neg h]
    rfl
theorem iBlocks_l (l : List Int) (hl : l.length ≤ 1048576) (d : Nat) : ∀ (k i : Nat) (n : Int), d < k → l.length - i = d → i ≤ l.length → 0 ≤ n → n ≤ i →
    impl_blocksOk.l0 k l (n - 1) l (l.length : Int) (i : Int) = some (match blkLoop l d i n with | some m => (m, ((l.length : Int) == 256)) | none => (0, false)) := by
  induction d with
  | zero =>
    intro k i n hk hd hi h0 h1
    obtain ⟨k, rfl⟩ : ∃ m, k = m + 1 := ⟨k - 1, by omega⟩
    simp only [impl_blocksOk.l0]
    rw [if_neg (by omega), w64 (by omega) (by omega), Int.sub_add_cancel]
    rfl
  | succ d ih =>
    intro k i n hk hd hi h0 h1
    obtain ⟨k, rfl⟩ : ∃ m, k = m + 1 := ⟨k - 1, by omega⟩
    simp only [impl_blocksOk.l0, iWithin, Option.bind_some, decide_eq_true_eq]
    rw [if_pos (by omega), if_pos (by omega), if_pos (by omega), w64 (x := n - 1 + 1) (by omega) (by omega), Int.sub_add_cancel]
    unfold blkLoop
    by_cases hc : 0 ≤ rd l (i : Int) ∧ rd l (i : Int) ≤ n
    · rw [if_pos hc, if_pos hc, nat_next (by omega)]
      have e : mx (n - 1) (rd l (i : Int)) = mx n (rd l (i : Int) + 1) - 1 := by unfold mx; split <;> split <;> omega
      rw [e]
      exact ih k (i + 1) _ (by omega) (by omega) (by omega) (by have := le_mx_left n (rd l (i : Int) + 1); omega) (mx_le (by omega) (by omega))
    · rw [if_neg hc, if_neg hc]
/-- what the program's blocksOk tells -/
theorem iBlocks (l : List Int) (hl : l.length ≤ 1048576) (k : Nat) (hk : 1048578 ≤ k) : ∃ r, impl_blocksOk.f k l = some r ∧ r.2 = (blocksM l).isSome ∧ ∀ m, blocksM l = some m → r.1 = m := by
  unfold impl_blocksOk.f
  have e : impl_blocksOk.l0 k l (-1) l (l.length : Int) 0 = _ := iBlocks_l l hl l.length k 0 0 (by omega) (by omega) (by omega) (by omega) (by omega)
  refine ⟨_, e, ?_, ?_⟩
  · unfold blocksM
    by_cases h : l.length = 256
    · rw [if_pos h, h]
      cases blkLoop l 256 0 0 <;> rfl
    · rw [if_neg h]
      cases blkLoop l l.length 0 0
      · rfl
      · show ((l.length : Int) == 256) = false
        rw [beq_eq_false_iff_ne]
        omega
  · intro m hm
    unfold blocksM at hm
    by_cases h : l.length = 256
    · rw [if_pos h] at hm
      rw [h, hm]
    · rw [if_neg h] at hm
      exact absurd hm (by simp)
open Classical in
theorem areIn (l : List Int) (a b : Int) : impl_areWithin.f l a b = some (decide (inR l a b)) := by
  unfold impl_areWithin.f
  exact congrArg some (decide_eq_decide.2 (inR_mem l a b))

/-- the reference's rounds: a state's numbers; a cell's -/
def stP (n : Int) (base dflt acc : List Int) (i : Nat) : Prop := (0 ≤ rd base (i : Int) ∧ rd base (i : Int) ≤ 200000) ∧ (0 ≤ rd dflt (i : Int) ∧ rd dflt (i : Int) ≤ n - 1) ∧ (-1 ≤ rd acc (i : Int) ∧ rd acc (i : Int) ≤ 39)
def ceP (n : Int) (chk val : List Int) (i : Nat) : Prop := (-1 ≤ rd chk (i : Int) ∧ rd chk (i : Int) ≤ n - 1) ∧ (0 ≤ rd val (i : Int) ∧ rd val (i : Int) ≤ n - 1) ∧ (rd chk (i : Int) = -1 → rd val (i : Int) = 0)

open Classical in
theorem sPacked_l1 (n : Int) (hn : 1 ≤ n ∧ n ≤ 1000) (b base dflt chk val acc : List Int) (hv : chk.length = val.length) (hl : chk.length ≤ 200000) (d : Nat) : ∀ (k i : Nat), d < k → chk.length - i = d → i ≤ chk.length →
    spec_PackedOk.l1 k n (i : Int) b base dflt chk val acc = some (decide (fromN (ceP n chk val) chk.length i ∧ True)) := by
  induction d with
  | zero =>
    intro k i hk hd hi
    obtain ⟨k, rfl⟩ : ∃ m, k = m + 1 := ⟨k - 1, by omega⟩
    simp only [spec_PackedOk.l1]
    rw [if_neg (by omega), decide_eq_true ⟨fromN_end (by omega), trivial⟩]
  | succ d ih =>
    intro k i hk hd hi
    obtain ⟨k, rfl⟩ : ∃ m, k = m + 1 := ⟨k - 1, by omega⟩
    have hlt : i < chk.length := by omega
    simp only [spec_PackedOk.l1, sIn, Option.bind_some, decide_eq_true_eq]
    rw [if_pos (by omega), if_pos (by omega), w64 (x := n - 1) (by omega) (by omega), nat_next (by omega)]
    by_cases h1 : -1 ≤ rd chk (i : Int) ∧ rd chk (i : Int) ≤ n - 1
    · rw [if_pos h1, if_pos (by omega)]
      by_cases h2 : 0 ≤ rd val (i : Int) ∧ rd val (i : Int) ≤ n - 1
      · rw [if_pos h2]
        by_cases h3 : rd chk (i : Int) = -1
        · rw [if_pos h3]
          by_cases h4 : rd val (i : Int) = 0
          · rw [if_pos h4, ih k (i + 1) (by omega) (by omega) (by omega)]; exact congrArg some (decide_eq_decide.2 (fromN_go hlt ⟨h1, h2, fun _ => h4⟩))
          · rw [if_neg h4, decide_eq_false (fromN_no hlt (fun g => h4 (g.2.2 h3)))]
        · rw [if_neg h3, ih k (i + 1) (by omega) (by omega) (by omega)]; exact congrArg some (decide_eq_decide.2 (fromN_go hlt ⟨h1, h2, fun e => absurd e h3⟩))
      · rw [if_neg h2, decide_eq_false (fromN_no hlt (fun g => h2 g.2.1))]
    · rw [if_neg h1, decide_eq_false (fromN_no hlt (fun g => h1 g.1))]
open Classical in
theorem sPacked_l0 (n : Int) (hn : 1 ≤ n ∧ n ≤ 1000) (b base dflt chk val acc : List Int) (hb : (base.length : Int) = n) (hd' : (dflt.length : Int) = n) (ha : (acc.length : Int) = n) (d : Nat) : ∀ (k i : Nat), d + 200010 < k → base.length - i = d → i ≤ base.length →
    spec_PackedOk.l0 k n (i : Int) b base dflt chk val acc = some (decide (fromN (stP n base dflt acc) base.length i ∧ ((chk.length = val.length ∧ chk.length ≤ 200000) ∧ fromN (ceP n chk val) chk.length 0))) := by
  induction d with
  | zero =>
    intro k i hk hd hi
    obtain ⟨k, rfl⟩ : ∃ m, k = m + 2 := ⟨k - 2, by omega⟩
    simp only [spec_PackedOk.l0]
    rw [if_neg (by omega)]
    by_cases h1 : chk.length = val.length
    · rw [if_pos (by omega)]
      by_cases h2 : chk.length ≤ 200000
      · rw [decide_eq_false (by omega)]
        simp only [spec_PackedOk.j2]
        rw [if_neg (by simp)]
        have e : spec_PackedOk.l1 k n 0 b base dflt chk val acc = some (decide (fromN (ceP n chk val) chk.length 0 ∧ True)) := sPacked_l1 n hn b base dflt chk val acc h1 h2 chk.length k 0 (by omega) (by omega) (by omega)
        rw [e]
        exact congrArg some (decide_eq_decide.2 ⟨fun h => ⟨fromN_end (by omega), ⟨h1, h2⟩, h.1⟩, fun h => ⟨h.2.2, trivial⟩⟩)
      · rw [decide_eq_true (by omega)]
        simp only [spec_PackedOk.j2]
        rw [if_pos trivial, decide_eq_false (fun g => h2 g.2.1.2)]
    · rw [if_neg (by omega)]
      simp only [spec_PackedOk.j2]
      rw [if_pos trivial, decide_eq_false (fun g => h1 g.2.1.1)]
  | succ d ih =>
    intro k i hk hd hi
    obtain ⟨k, rfl⟩ : ∃ m, k = m + 1 := ⟨k - 1, by omega⟩
    have hlt : i < base.length := by omega
    simp only [spec_PackedOk.l0, sIn, Option.bind_some, decide_eq_true_eq]
    rw [if_pos (by omega), if_pos (by omega), if_pos (by omega), w64 (x := n - 1) (by omega) (by omega), nat_next (by omega)]
    by_cases h1 : 0 ≤ rd base (i : Int) ∧ rd base (i : Int) ≤ 200000
    · rw [if_pos h1, if_pos (by omega)]
      by_cases h2 : 0 ≤ rd dflt (i : Int) ∧ rd dflt (i : Int) ≤ n - 1
      · rw [if_pos h2, if_pos (by omega)]
        by_cases h3 : -1 ≤ rd acc (i : Int) ∧ rd acc (i : Int) ≤ 39
        · rw [if_pos h3, ih k (i + 1) (by omega) (by omega) (by omega)]; exact congrArg some (decide_eq_decide.2 (fromN_go hlt ⟨h1, h2, h3⟩))
        · rw [if_neg h3, decide_eq_false (fromN_no hlt (fun g => h3 g.2.2))]
      · rw [if_neg h2, decide_eq_false (fromN_no hlt (fun g => h2 g.2.1))]
    · rw [if_neg h1, decide_eq_false (fromN_no hlt (fun g => h1 g.1))]
theorem packed_rounds (b base dflt chk val acc : List Int) (h0 : (blocksM b).isSome = true) (h1 : 1 ≤ base.length ∧ base.length ≤ 1000 ∧ dflt.length = base.length ∧ acc.length = base.length) :
    (fromN (stP base.length base dflt acc) base.length 0 ∧ ((chk.length = val.length ∧ chk.length ≤ 200000) ∧ fromN (ceP base.length chk val) chk.length 0)) ↔ packedOk b base dflt chk val acc := by
  constructor
  · rintro ⟨hs, hc, hv⟩
    refine ⟨h0, h1, ⟨fun i hi => (hs i (by omega) hi).1, fun i hi => (hs i (by omega) (by omega)).2.1, fun i hi => (hs i (by omega) (by omega)).2.2⟩, hc, fun i hi => (hv i (by omega) hi).1, fun i hi => (hv i (by omega) (by omega)).2.1, fun i hi => (hv i (by omega) hi).2.2⟩
  · rintro ⟨_, _, ⟨g1, g2, g3⟩, hc, g4, g5, g6⟩
    exact ⟨fun i _ hi => ⟨g1 i hi, g2 i (by omega), g3 i (by omega)⟩, hc, fun i _ hi => ⟨g4 i hi, g5 i (by omega), g6 i hi⟩⟩
open Classical in
theorem sPackedOk (b base dflt chk val acc : List Int) (k : Nat) (hk : 300000 ≤ k) : spec_PackedOk.f k b base dflt chk val acc = some (decide (packedOk b base dflt chk val acc)) := by
  obtain ⟨k, rfl⟩ : ∃ m, k = m + 1 := ⟨k - 1, by omega⟩
  unfold spec_PackedOk.f
  rw [sBlocks b _ (by omega)]
  simp only [Option.bind_some]
  have no : ¬ packedOk b base dflt chk val acc → spec_PackedOk.j0 (k + 1) (base.length : Int) true b base dflt chk val acc = some (decide (packedOk b base dflt chk val acc)) := by
    intro h
    rw [decide_eq_false h]
    simp [spec_PackedOk.j0]
  cases hb : blocksM b with
  | none =>
    rw [if_pos (by simp)]
    exact no (fun g => by have := g.1; rw [hb] at this; exact absurd this (by simp))
  | some m =>
    have hm := blocksM_some hb
    rw [if_neg (by simp; omega)]
    by_cases h1 : (base.length : Int) < 1
    · rw [if_pos h1]
      exact no (fun g => by have := g.2.1; omega)
    · rw [if_neg h1]
      by_cases h2 : (base.length : Int) > 1000
      · rw [if_pos h2]
        exact no (fun g => by have := g.2.1; omega)
      · rw [if_neg h2]
        by_cases h3 : (dflt.length : Int) = (base.length : Int)
        · rw [if_pos h3]
          by_cases h4 : (acc.length : Int) = (base.length : Int)
          · have e4 : ((acc.length : Int) != (base.length : Int)) = false := bne_eq_false_iff_eq.2 h4
            rw [e4]
            simp only [spec_PackedOk.j0]
            rw [if_neg (by simp)]
            have e : spec_PackedOk.l0 k (base.length : Int) 0 b base dflt chk val acc = _ := sPacked_l0 (base.length : Int) (by omega) b base dflt chk val acc rfl h3 h4 base.length k 0 (by omega) (by omega) (by omega)
            rw [e]
            exact congrArg some (decide_eq_decide.2 (packed_rounds b base dflt chk val acc (by rw [hb]; rfl) (by omega)))
          · have e4 : ((acc.length : Int) != (base.length : Int)) = true := bne_iff_ne.2 h4
            rw [e4]
            exact no (fun g => by have := g.2.1; omega)
        · rw [if_neg h3]
          exact no (fun g => by have := g.2.1; omega)

open Classical in
theorem iPacked_l0 (b base dflt chk val acc : List Int) (hv : chk.length = val.length) (hl : chk.length ≤ 200000) (d : Nat) : ∀ (k i : Nat), d < k → chk.length - i = d → i ≤ chk.length →
    impl_PackedOk.l0 k chk (chk.length : Int) (i : Int) b base dflt chk val acc = some (decide (fromN (fun i => rd chk (i : Int) = -1 → rd val (i : Int) = 0) chk.length i ∧ True)) := by
  induction d with
  | zero =>
    intro k i hk hd hi
    obtain ⟨k, rfl⟩ : ∃ m, k = m + 1 := ⟨k - 1, by omega⟩
    simp only [impl_PackedOk.l0]
    rw [if_neg (by omega), decide_eq_true ⟨fromN_end (by omega), trivial⟩]
  | succ d ih =>
    intro k i hk hd hi
    obtain ⟨k, rfl⟩ : ∃ m, k = m + 1 := ⟨k - 1, by omega⟩
    have hlt : i < chk.length := by omega
    simp only [impl_PackedOk.l0]
    rw [if_pos (by omega), if_pos (by omega), if_pos (by omega), nat_next (by omega)]
    by_cases h3 : rd chk (i : Int) = -1
    · rw [if_pos h3, if_pos (by omega)]
      by_cases h4 : rd val (i : Int) = 0
      · rw [if_pos h4, ih k (i + 1) (by omega) (by omega) (by omega)]; exact congrArg some (decide_eq_decide.2 (fromN_go hlt (fun _ => h4)))
      · rw [if_neg h4, decide_eq_false (fromN_no hlt (fun g => h4 (g h3)))]
    · rw [if_neg h3, ih k (i + 1) (by omega) (by omega) (by omega)]; exact congrArg some (decide_eq_decide.2 (fromN_go hlt (fun e => absurd e h3)))
open Classical in
theorem iPackedOk (b base dflt chk val acc : List Int) (hbl : b.length ≤ 1048576) (k : Nat) (hk : 1300000 ≤ k) : impl_PackedOk.f k b base dflt chk val acc = some (decide (packedOk b base dflt chk val acc)) := by
  obtain ⟨k, rfl⟩ : ∃ m, k = m + 3 := ⟨k - 3, by omega⟩
  obtain ⟨r, er, r2, r1⟩ := iBlocks b hbl (k + 3) (by omega)
  unfold impl_PackedOk.f impl_size_int64.f
  rw [er]
  simp only [Option.bind_some, iWithin, decide_eq_true_eq, r2]
  have no : ∀ (x : Int), ¬ packedOk b base dflt chk val acc → impl_PackedOk.j0 (k + 3) x true b base dflt chk val acc = some (decide (packedOk b base dflt chk val acc)) := by
    intro x h
    rw [decide_eq_false h]
    simp [impl_PackedOk.j0]
  have no1 : ∀ (x : Int), ¬ packedOk b base dflt chk val acc → impl_PackedOk.j1 (k + 2) x true b base dflt chk val acc = some (decide (packedOk b base dflt chk val acc)) := by
    intro x h
    rw [decide_eq_false h]
    simp [impl_PackedOk.j1]
  have no2 : ¬ packedOk b base dflt chk val acc → impl_PackedOk.j2 (k + 1) true b base dflt chk val acc = some (decide (packedOk b base dflt chk val acc)) := by
    intro h
    rw [decide_eq_false h]
    simp [impl_PackedOk.j2]
  by_cases hb : (blocksM b).isSome = true
  · rw [if_pos hb]
    by_cases h1 : 1 ≤ (base.length : Int) ∧ (base.length : Int) ≤ 1000
    · rw [if_pos h1]
      by_cases h3 : (dflt.length : Int) = (base.length : Int)
      · rw [if_pos h3]
        by_cases h4 : (acc.length : Int) = (base.length : Int)
        · have e4 : ((acc.length : Int) != (base.length : Int)) = false := bne_eq_false_iff_eq.2 h4
          rw [e4]
          simp only [impl_PackedOk.j0, areIn, Option.bind_some, decide_eq_true_eq]
          rw [if_neg (by simp), w64 (x := (base.length : Int) - 1) (by omega) (by omega)]
          by_cases g1 : inR base 0 200000
          · rw [if_pos g1]
            by_cases g2 : inR dflt 0 ((base.length : Int) - 1)
            · rw [if_pos g2]
              by_cases g3 : inR acc (-1) 39
              · rw [decide_eq_true g3]
                simp only [impl_PackedOk.j1, areIn, Option.bind_some, decide_eq_true_eq, Bool.not_true]
                rw [if_neg (by simp), w64 (x := (base.length : Int) - 1) (by omega) (by omega)]
                by_cases c1 : (chk.length : Int) = (val.length : Int)
                · rw [if_pos c1]
                  by_cases c2 : (chk.length : Int) > 200000
                  · rw [if_pos c2]
                    exact no2 (fun g => by have := g.2.2.2.1; omega)
                  · rw [if_neg c2]
                    by_cases g4 : inR chk (-1) ((base.length : Int) - 1)
                    · rw [if_pos g4]
                      by_cases g5 : inR val 0 ((base.length : Int) - 1)
                      · rw [decide_eq_true g5]
                        simp only [impl_PackedOk.j2, Bool.not_true]
                        rw [if_neg (by simp)]
                        have e : impl_PackedOk.l0 k chk (chk.length : Int) 0 b base dflt chk val acc = _ := iPacked_l0 b base dflt chk val acc (by omega) (by omega) chk.length k 0 (by omega) (by omega) (by omega)
                        rw [e]
                        refine congrArg some (decide_eq_decide.2 ⟨fun h => ⟨hb, by omega, ⟨g1, g2, g3⟩, by omega, g4, g5, fun i hi => h.1 i (by omega) hi⟩, fun h => ⟨fun i _ hi => h.2.2.2.2.2.2 i hi, trivial⟩⟩)
                      · rw [decide_eq_false g5]
                        exact no2 (fun g => g5 g.2.2.2.2.2.1)
                    · rw [if_neg g4]
                      exact no2 (fun g => g4 g.2.2.2.2.1)
                · rw [if_neg c1]
                  exact no2 (fun g => by have := g.2.2.2.1; omega)
              · rw [decide_eq_false g3]
                exact no1 _ (fun g => g3 g.2.2.1.2.2)
            · rw [if_neg g2]
              exact no1 _ (fun g => g2 g.2.2.1.2.1)
          · rw [if_neg g1]
            exact no1 _ (fun g => g1 g.2.2.1.1)
        · have e4 : ((acc.length : Int) != (base.length : Int)) = true := bne_iff_ne.2 h4
          rw [e4]
          exact no _ (fun g => by have := g.2.1; omega)
      · rw [if_neg h3]
        exact no _ (fun g => by have := g.2.1; omega)
    · rw [if_neg h1]
      exact no _ (fun g => by have := g.2.1; omega)
  · rw [if_neg hb]
    exact no _ (fun g => hb g.1)
/-- two lists of bytes that are one are told alike -/
theorem eqByteS_l (l : List Int) (hl : l.length ≤ 1099511627776) (d : Nat) : ∀ (k i : Nat), d < k → l.length - i = d → i ≤ l.length → laws_eqByteS.l0 k l l (i : Int) = some true := by
  induction d with
  | zero =>
    intro k i hk hd hi
    obtain ⟨k, rfl⟩ : ∃ m, k = m + 1 := ⟨k - 1, by omega⟩
    rw [laws_eqByteS.l0, if_neg (by omega)]
  | succ d ih =>
    intro k i hk hd hi
    obtain ⟨k, rfl⟩ : ∃ m, k = m + 1 := ⟨k - 1, by omega⟩
    rw [laws_eqByteS.l0, if_pos (by omega), if_pos (by omega), if_pos (by omega), if_pos rfl, nat_next (by omega)]
    exact ih k (i + 1) (by omega) (by omega) (by omega)
theorem eqByteS_same (l : List Int) (hl : l.length ≤ 1099511627776) (k : Nat) (hk : l.length < k) : laws_eqByteS.f k l l = some true := by
  unfold laws_eqByteS.f
  rw [if_pos rfl]
  exact eqByteS_l l hl l.length k 0 hk (by omega) (by omega)
theorem markByteS_l (n : Nat) (hn : n ≤ 1099511627776) (d : Nat) : ∀ (k i : Nat) (y : List Int), d < k → n - i = d → i ≤ n → y.length = n → (∀ j : Nat, j < i → y.getD j 0 = ((1 + (j : Int)) % 256)) →
    ∃ z, laws_markByteS.l0 k y (1 + (i : Int)) (i : Int) = some (1 + (n : Int), z) ∧ z.length = n ∧ ∀ j : Nat, j < n → z.getD j 0 = ((1 + (j : Int)) % 256) := by
  induction d with
  | zero =>
    intro k i y hk hd hi hy hm
    obtain ⟨k, rfl⟩ : ∃ m, k = m + 1 := ⟨k - 1, by omega⟩
    obtain rfl : i = n := by omega
    exact ⟨y, by rw [laws_markByteS.l0, if_neg (by omega)], hy, hm⟩
  | succ d ih =>
    intro k i y hk hd hi hy hm
    obtain ⟨k, rfl⟩ : ∃ m, k = m + 1 := ⟨k - 1, by omega⟩
    rw [laws_markByteS.l0, if_pos (by omega), if_pos (by omega), nat_next (by omega), w64 (x := 1 + (i : Int) + 1) (by omega) (by omega), show 1 + (i : Int) + 1 = 1 + ((i + 1 : Nat) : Int) by omega, Int.toNat_natCast]
    refine ih k (i + 1) _ (by omega) (by omega) (by omega) (by rw [List.length_set]; exact hy) (fun j hj => ?_)
    rw [List.getD_eq_getElem?_getD, List.getElem?_set]
    by_cases e : i = j
    · subst e
      rw [if_pos rfl, if_pos (by omega)]
      rfl
    · rw [if_neg e, ← List.getD_eq_getElem?_getD]
      exact hm j (by omega)
theorem heldByteS_l (n : Nat) (hn : n ≤ 1099511627776) (z : List Int) (hz : z.length = n) (hm : ∀ j : Nat, j < n → z.getD j 0 = ((1 + (j : Int)) % 256)) (d : Nat) : ∀ (k i : Nat), d < k → n - i = d → i ≤ n → laws_heldByteS.l0 k z (1 + (i : Int)) (i : Int) = some (1 + (n : Int)) := by
  induction d with
  | zero =>
    intro k i hk hd hi
    obtain ⟨k, rfl⟩ : ∃ m, k = m + 1 := ⟨k - 1, by omega⟩
    obtain rfl : i = n := by omega
    rw [laws_heldByteS.l0, if_neg (by omega)]
  | succ d ih =>
    intro k i hk hd hi
    obtain ⟨k, rfl⟩ : ∃ m, k = m + 1 := ⟨k - 1, by omega⟩
    rw [laws_heldByteS.l0, if_pos (by omega), if_pos (by omega), if_pos (by unfold rd; rw [Int.toNat_natCast]; exact hm i (by omega)), nat_next (by omega), w64 (x := 1 + (i : Int) + 1) (by omega) (by omega), show 1 + (i : Int) + 1 = 1 + ((i + 1 : Nat) : Int) by omega]
    exact ih k (i + 1) (by omega) (by omega) (by omega)
/-- the marks of a row of bytes, and that they are held -/
theorem markByteS_held (l : List Int) (hl : l.length ≤ 1099511627776) (k : Nat) (hk : l.length < k) : ∃ z, laws_markByteS.f k l 1 = some (1 + (l.length : Int), z) ∧ laws_heldByteS.f k z 1 = some (1 + (l.length : Int)) := by
  obtain ⟨z, e, h1, h2⟩ := markByteS_l l.length hl l.length k 0 l hk (by omega) (by omega) rfl (fun j hj => by omega)
  have hh := heldByteS_l l.length hl z h1 h2 l.length k 0 hk (by omega) (by omega)
  exact ⟨z, e, hh⟩
def bytesL (e : List Int) : Prop := ∀ y ∈ e, 0 ≤ y ∧ y ≤ 255
theorem bytesL_app {a b : List Int} (ha : bytesL a) (hb : bytesL b) : bytesL (a ++ b) := fun y hy => (List.mem_append.1 hy).elim (ha y) (hb y)
/-- a number as bytes: both put the same -/
theorem put_l : ∀ (d : Nat) (n : Int), 0 ≤ n → n < 128 ^ (d + 1) → n ≤ 4611686018427387904 → ∃ e : List Int, e.length ≤ d + 1 ∧ bytesL e ∧ ∀ (k : Nat) (x : List Int), d + 1 < k → x.length + d + 1 ≤ 1000000000 →
    impl_putNumber.l0 k x n = some (x ++ e) ∧ spec_l12Put.l0 k x n = some (x ++ e)
  | d, n, h0, h1, h2 => by
    by_cases c : n ≥ 128
    · cases d with
      | zero => simp at h1; omega
      | succ d =>
        have hq : n / 128 < 128 ^ (d + 1) := by rw [Int.pow_succ] at h1; omega
        obtain ⟨e, e1, e2, e3⟩ := put_l d (n / 128) (by omega) hq (by omega)
        refine ⟨(n % 128 + 128) :: e, by simp; omega, fun y hy => ?_, fun k x hk hx => ?_⟩
        · rcases List.mem_cons.1 hy with rfl | hy
          · omega
          · exact e2 y hy
        · obtain ⟨k, rfl⟩ : ∃ m, k = m + 1 := ⟨k - 1, by omega⟩
          obtain ⟨g1, g2⟩ := e3 k (x ++ [n % 128 + 128]) (by omega) (by rw [List.length_append, List.length_singleton]; omega)
          rw [impl_putNumber.l0, spec_l12Put.l0, if_pos c, if_pos c, if_pos (by omega), if_pos (by omega), tmod_pos h0, tdiv_pos h0, w64 (x := n / 128) (by omega) (by omega), w64 (x := n % 128 + 128) (by omega) (by omega), show (n % 128 + 128) % 256 = n % 128 + 128 by omega, g1, g2, List.append_assoc]
          exact ⟨rfl, rfl⟩
    · refine ⟨[n], by simp, fun y hy => ?_, fun k x hk hx => ?_⟩
      · rw [List.mem_singleton] at hy; omega
      · obtain ⟨k, rfl⟩ : ∃ m, k = m + 1 := ⟨k - 1, by omega⟩
        rw [impl_putNumber.l0, spec_l12Put.l0, if_neg c, if_neg c, if_pos (by omega), show n % 256 = n by omega]
        exact ⟨rfl, rfl⟩
theorem put (n : Int) (h0 : -1 ≤ n) (h1 : n ≤ 2000000) : ∃ e : List Int, e.length ≤ 3 ∧ bytesL e ∧ ∀ (k : Nat) (x : List Int), 4 ≤ k → x.length ≤ 900000000 → impl_putNumber.f k x n = some (x ++ e) ∧ spec_l12Put.f k x n = some (x ++ e) := by
  obtain ⟨e, e1, e2, e3⟩ := put_l 2 (n + 1) (by omega) (by rw [show (128 : Int) ^ (2 + 1) = 2097152 from by decide]; omega) (by omega)
  refine ⟨e, e1, e2, fun k x hk hx => ?_⟩
  obtain ⟨g1, g2⟩ := e3 k x (by omega) (by omega)
  unfold impl_putNumber.f spec_l12Put.f
  rw [w64 (x := n + 1) (by omega) (by omega)]
  exact ⟨g1, g2⟩
theorem list_l (l : List Int) (hl : l.length ≤ 1000000) (hr : inR l (-1) 1000000) : ∀ (d i : Nat), l.length - i = d → i ≤ l.length → ∃ e : List Int, e.length ≤ 3 * d ∧ bytesL e ∧ ∀ (k : Nat) (x : List Int), d + 5 < k → x.length + 3 * d ≤ 900000000 →
    impl_putList.l0 k x l (l.length : Int) (i : Int) = some (x ++ e) ∧ spec_l12List.l0 k x l (i : Int) = some (x ++ e)
  | 0, i, hd, hi => ⟨[], by simp, fun y hy => by simp at hy, fun k x hk hx => by
      obtain ⟨k, rfl⟩ : ∃ m, k = m + 1 := ⟨k - 1, by omega⟩
      rw [impl_putList.l0, spec_l12List.l0, if_neg (by omega), if_neg (by omega), List.append_nil]
      exact ⟨rfl, rfl⟩⟩
  | d + 1, i, hd, hi => by
    have r := hr i (by omega)
    obtain ⟨e, e1, e2, e3⟩ := put (rd l (i : Int)) r.1 (by omega)
    obtain ⟨f, f1, f2, f3⟩ := list_l l hl hr d (i + 1) (by omega) (by omega)
    refine ⟨e ++ f, by rw [List.length_append]; omega, bytesL_app e2 f2, fun k x hk hx => ?_⟩
    obtain ⟨k, rfl⟩ : ∃ m, k = m + 1 := ⟨k - 1, by omega⟩
    obtain ⟨g1, g2⟩ := e3 k x (by omega) (by omega)
    obtain ⟨q1, q2⟩ := f3 k (x ++ e) (by omega) (by rw [List.length_append]; omega)
    rw [impl_putList.l0, spec_l12List.l0, if_pos (by omega), if_pos (by omega), if_pos (by omega), if_pos (by omega), if_pos (by omega), g1, g2, Option.bind_some, Option.bind_some, nat_next (by omega), q1, q2, List.append_assoc]
    exact ⟨rfl, rfl⟩
theorem list_ (l : List Int) (hl : l.length ≤ 1000000) (hr : inR l (-1) 1000000) : ∃ e : List Int, e.length ≤ 3 * l.length + 3 ∧ bytesL e ∧ ∀ (k : Nat) (x : List Int), l.length + 6 < k → x.length + 3 * l.length + 3 ≤ 900000000 →
    impl_putList.f k x l = some (x ++ e) ∧ spec_l12List.f k x l = some (x ++ e) := by
  obtain ⟨e, e1, e2, e3⟩ := put (l.length : Int) (by omega) (by omega)
  obtain ⟨f, f1, f2, f3⟩ := list_l l hl hr l.length 0 (by omega) (by omega)
  refine ⟨e ++ f, by rw [List.length_append]; omega, bytesL_app e2 f2, fun k x hk hx => ?_⟩
  obtain ⟨g1, g2⟩ := e3 k x (by omega) (by omega)
  obtain ⟨q1, q2⟩ := f3 k (x ++ e) (by omega) (by rw [List.length_append]; omega)
  unfold impl_putList.f spec_l12List.f impl_size_int64.f
  rw [Option.bind_some, g1, g2, Option.bind_some, Option.bind_some]
  rw [show (0 : Int) = ((0 : Nat) : Int) from rfl, q1, q2, List.append_assoc]
  exact ⟨rfl, rfl⟩
theorem runs_in (l : List Int) (hl : l.length ≤ 1000000) (hr : inR l (-1) 1000000) (i : Nat) (hi : i < l.length) (IH : ∀ j : Nat, i < j → j ≤ l.length → ∃ e : List Int, e.length ≤ 6 * (l.length - j) ∧ bytesL e ∧ ∀ (k : Nat) (x : List Int), 3 * (l.length - j) + 10 < k → x.length + 6 * (l.length - j) ≤ 900000000 →
      impl_putRuns.l0 k x l (j : Int) = some (x ++ e) ∧ spec_l12Runs.l0 k x l (j : Int) = some (x ++ e)) : ∀ (c j : Nat), l.length - j = c → i < j → j ≤ l.length → ∃ e : List Int, e.length ≤ 6 * (l.length - i) ∧ bytesL e ∧ ∀ (k : Nat) (x : List Int), 3 * (l.length - j) + 11 < k → x.length + 6 * (l.length - i) ≤ 900000000 →
      impl_putRuns.l1 k x l (i : Int) (j : Int) = some (x ++ e) ∧ spec_l12Runs.l1 k x l (i : Int) (j : Int) = some (x ++ e) := by
  have ri := hr i hi
  obtain ⟨e, e1, e2, e3⟩ := put (rd l (i : Int)) ri.1 (by omega)
  have stop : ∀ j : Nat, i < j → j ≤ l.length → ∃ o : List Int, o.length ≤ 6 * (l.length - i) ∧ bytesL o ∧ ∀ (k : Nat) (x : List Int), 3 * (l.length - j) + 10 < k → x.length + 6 * (l.length - i) ≤ 900000000 →
      ((impl_putNumber.f k x (rd l (i : Int))).bind fun t => (impl_putNumber.f k t (wrap64 ((j : Int) - (i : Int)))).bind fun t => impl_putRuns.l0 k t l (j : Int)) = some (x ++ o) ∧ ((spec_l12Put.f k x (rd l (i : Int))).bind fun t => (spec_l12Put.f k t (wrap64 ((j : Int) - (i : Int)))).bind fun t => spec_l12Runs.l0 k t l (j : Int)) = some (x ++ o) := by
    intro j hij hj
    obtain ⟨f, f1, f2, f3⟩ := put ((j : Int) - (i : Int)) (by omega) (by omega)
    obtain ⟨g, g1, g2, g3⟩ := IH j hij hj
    refine ⟨e ++ f ++ g, by rw [List.length_append, List.length_append]; omega, bytesL_app (bytesL_app e2 f2) g2, fun k x hk hx => ?_⟩
    obtain ⟨p1, p2⟩ := e3 k x (by omega) (by omega)
    obtain ⟨q1, q2⟩ := f3 k (x ++ e) (by omega) (by rw [List.length_append]; omega)
    obtain ⟨s1, s2⟩ := g3 k (x ++ e ++ f) (by omega) (by rw [List.length_append, List.length_append]; omega)
    rw [p1, p2, Option.bind_some, Option.bind_some, w64 (x := (j : Int) - (i : Int)) (by omega) (by omega), q1, q2, Option.bind_some, Option.bind_some, s1, s2]
    simp only [List.append_assoc, and_self]
  intro c
  induction c with
  | zero =>
    intro j hd hij hj
    obtain ⟨o, o1, o2, o3⟩ := stop j hij hj
    refine ⟨o, o1, o2, fun k x hk hx => ?_⟩
    obtain ⟨k, rfl⟩ : ∃ m, k = m + 1 := ⟨k - 1, by omega⟩
    obtain ⟨u1, u2⟩ := o3 k x (by omega) hx
    refine ⟨?_, ?_⟩
    · rw [impl_putRuns.l1, if_neg (by omega), if_pos (by omega), if_pos (by omega)]; exact u1
    · rw [spec_l12Runs.l1, if_neg (by omega), if_pos (by omega), if_pos (by omega)]; exact u2
  | succ c ih =>
    intro j hd hij hj
    by_cases h : rd l (j : Int) = rd l (i : Int)
    · obtain ⟨o, o1, o2, o3⟩ := ih (j + 1) (by omega) (by omega) (by omega)
      refine ⟨o, o1, o2, fun k x hk hx => ?_⟩
      obtain ⟨k, rfl⟩ : ∃ m, k = m + 1 := ⟨k - 1, by omega⟩
      obtain ⟨u1, u2⟩ := o3 k x (by omega) hx
      refine ⟨?_, ?_⟩
      · rw [impl_putRuns.l1, if_pos (by omega), if_pos (by omega), if_pos (by omega), if_pos (by omega), if_pos h, nat_next (by omega)]; exact u1
      · rw [spec_l12Runs.l1, if_pos (by omega), if_pos (by omega), if_pos (by omega), if_pos (by omega), if_pos h, nat_next (by omega)]; exact u2
    · obtain ⟨o, o1, o2, o3⟩ := stop j hij hj
      refine ⟨o, o1, o2, fun k x hk hx => ?_⟩
      obtain ⟨k, rfl⟩ : ∃ m, k = m + 1 := ⟨k - 1, by omega⟩
      obtain ⟨u1, u2⟩ := o3 k x (by omega) hx
      refine ⟨?_, ?_⟩
      · rw [impl_putRuns.l1, if_pos (by omega), if_pos (by omega), if_pos (by omega), if_pos (by omega), if_neg h]; exact u1
      · rw [spec_l12Runs.l1, if_pos (by omega), if_pos (by omega), if_pos (by omega), if_pos (by omega), if_neg h]; exact u2
theorem runs_l (l : List Int) (hl : l.length ≤ 1000000) (hr : inR l (-1) 1000000) : ∀ (d i : Nat), l.length - i ≤ d → i ≤ l.length → ∃ e : List Int, e.length ≤ 6 * (l.length - i) ∧ bytesL e ∧ ∀ (k : Nat) (x : List Int), 3 * (l.length - i) + 10 < k → x.length + 6 * (l.length - i) ≤ 900000000 →
      impl_putRuns.l0 k x l (i : Int) = some (x ++ e) ∧ spec_l12Runs.l0 k x l (i : Int) = some (x ++ e) := by
  intro d
  induction d with
  | zero =>
    intro i hd hi
    refine ⟨[], by simp, fun y hy => by simp at hy, fun k x hk hx => ?_⟩
    obtain ⟨k, rfl⟩ : ∃ m, k = m + 1 := ⟨k - 1, by omega⟩
    rw [impl_putRuns.l0, spec_l12Runs.l0, if_neg (by omega), List.append_nil]
    exact ⟨rfl, by rw [if_neg (by omega)]⟩
  | succ d ih =>
    intro i hd hi
    by_cases c : i < l.length
    · obtain ⟨o, o1, o2, o3⟩ := runs_in l hl hr i c (fun j h1 h2 => ih j (by omega) h2) (l.length - (i + 1)) (i + 1) rfl (by omega) (by omega)
      refine ⟨o, o1, o2, fun k x hk hx => ?_⟩
      obtain ⟨k, rfl⟩ : ∃ m, k = m + 2 := ⟨k - 2, by omega⟩
      obtain ⟨u1, u2⟩ := o3 k x (by omega) hx
      refine ⟨?_, ?_⟩
      · rw [impl_putRuns.l0, if_pos (by omega), impl_putRuns.l1, if_pos (by omega), if_pos (by omega), if_pos (by omega), if_pos (by omega), if_pos rfl, nat_next (by omega)]; exact u1
      · rw [spec_l12Runs.l0, if_pos (by omega), spec_l12Runs.l1, if_pos (by omega), if_pos (by omega), if_pos (by omega), if_pos (by omega), if_pos rfl, nat_next (by omega)]; exact u2
    · refine ⟨[], by simp, fun y hy => by simp at hy, fun k x hk hx => ?_⟩
      obtain ⟨k, rfl⟩ : ∃ m, k = m + 1 := ⟨k - 1, by omega⟩
      rw [impl_putRuns.l0, spec_l12Runs.l0, if_neg (by omega), List.append_nil]
      exact ⟨rfl, by rw [if_neg (by omega)]⟩
theorem runs_ (l : List Int) (hl : l.length ≤ 1000000) (hr : inR l (-1) 1000000) : ∃ e : List Int, e.length ≤ 6 * l.length + 3 ∧ bytesL e ∧ ∀ (k : Nat) (x : List Int), 3 * l.length + 10 < k → x.length + 6 * l.length + 3 ≤ 900000000 →
    impl_putRuns.f k x l = some (x ++ e) ∧ spec_l12Runs.f k x l = some (x ++ e) := by
  obtain ⟨e, e1, e2, e3⟩ := put (l.length : Int) (by omega) (by omega)
  obtain ⟨f, f1, f2, f3⟩ := runs_l l hl hr l.length 0 (by omega) (by omega)
  refine ⟨e ++ f, by rw [List.length_append]; omega, bytesL_app e2 f2, fun k x hk hx => ?_⟩
  obtain ⟨g1, g2⟩ := e3 k x (by omega) (by omega)
  obtain ⟨q1, q2⟩ := f3 k (x ++ e) (by omega) (by rw [List.length_append]; omega)
  unfold impl_putRuns.f spec_l12Runs.f impl_size_int64.f
  rw [Option.bind_some, g1, g2, Option.bind_some, Option.bind_some]
  rw [show (0 : Int) = ((0 : Nat) : Int) from rfl, q1, q2, List.append_assoc]
  exact ⟨rfl, rfl⟩
theorem rd_bytes {l : List Int} (h : bytesL l) (i : Nat) (hi : i < l.length) : 0 ≤ rd l (i : Int) ∧ rd l (i : Int) ≤ 255 := by
  rw [rd_nat hi]
  exact h _ (List.getElem_mem hi)
theorem sum_l (l : List Int) (hl : l.length ≤ 1000000000) (hb : bytesL l) : ∀ (d i : Nat) (s : Int), l.length - i = d → i ≤ l.length → 0 ≤ s → s ≤ 255 * (i : Int) → ∃ v, 0 ≤ v ∧ v ≤ 255 ∧ ∀ k, d < k → impl_sumOf.l0 k s l (l.length : Int) (i : Int) = some v ∧ spec_l12Sum.l0 k l (s % 251) (i : Int) = some v
  | 0, i, s, hd, hi, h0, h1 => ⟨s % 251, by omega, by omega, fun k hk => by
      obtain ⟨k, rfl⟩ : ∃ m, k = m + 1 := ⟨k - 1, by omega⟩
      rw [impl_sumOf.l0, spec_l12Sum.l0, if_neg (by omega), if_neg (by omega), tmod_pos h0, show s % 251 % 256 = s % 251 by omega]
      exact ⟨rfl, rfl⟩⟩
  | d + 1, i, s, hd, hi, h0, h1 => by
    have r := rd_bytes hb i (by omega)
    obtain ⟨v, v0, v1, v2⟩ := sum_l l hl hb d (i + 1) (s + rd l (i : Int)) (by omega) (by omega) (by omega) (by omega)
    refine ⟨v, v0, v1, fun k hk => ?_⟩
    obtain ⟨k, rfl⟩ : ∃ m, k = m + 1 := ⟨k - 1, by omega⟩
    obtain ⟨g1, g2⟩ := v2 k (by omega)
    rw [impl_sumOf.l0, spec_l12Sum.l0, if_pos (by omega), if_pos (by omega), if_pos (by omega), if_pos (by omega), if_pos (by omega), nat_next (by omega), w64 (x := rd l (i : Int)) (by omega) (by omega), w64 (x := s + rd l (i : Int)) (by omega) (by omega), w64 (x := s % 251 + rd l (i : Int)) (by omega) (by omega), tmod_pos (by omega), show (s % 251 + rd l (i : Int)) % 251 = (s + rd l (i : Int)) % 251 by omega]
    exact ⟨g1, g2⟩
theorem sum_ (l : List Int) (hl : l.length ≤ 1000000000) (hb : bytesL l) : ∃ v, 0 ≤ v ∧ v ≤ 255 ∧ ∀ k, l.length < k → impl_sumOf.f k l = some v ∧ spec_l12Sum.f k l = some v := by
  obtain ⟨v, v0, v1, v2⟩ := sum_l l hl hb l.length 0 0 (by omega) (by omega) (by omega) (by omega)
  exact ⟨v, v0, v1, fun k hk => v2 k hk⟩
theorem inR_wide {l : List Int} {a b a' b' : Int} (h : inR l a b) (ha : a' ≤ a) (hb : b ≤ b') : inR l a' b' := fun i hi => ⟨by have := (h i hi).1; omega, by have := (h i hi).2; omega⟩
open Classical in
/-- both encode a table alike -/
theorem encode (b base dflt chk val acc : List Int) (hbl : b.length ≤ 1048576) : ∃ r : List Int, r.length ≤ 60000 ∧ bytesL r ∧ ∀ k, 6000000 ≤ k → spec_EncodeTable.f k b base dflt chk val acc = some r ∧ impl_EncodeTable.f k b base dflt chk val acc = some r := by
  by_cases hp : packedOk b base dflt chk val acc
  · obtain ⟨h0, h1, h2, h3, h4, h5, _⟩ := hp
    obtain ⟨m, hm⟩ := Option.isSome_iff_exists.1 h0
    obtain ⟨m0, m1, m2, m3⟩ := blocksM_some hm
    obtain ⟨e1, a1, b1, c1⟩ := runs_ b (by omega) (fun i hi => ⟨by have := (m3 i (by omega)).1; omega, by have := (m3 i (by omega)).2; omega⟩)
    obtain ⟨e2, a2, b2, c2⟩ := list_ base (by omega) (inR_wide h2.1 (by omega) (by omega))
    obtain ⟨e3, a3, b3, c3⟩ := list_ dflt (by omega) (inR_wide h2.2.1 (by omega) (by omega))
    obtain ⟨e4, a4, b4, c4⟩ := list_ acc (by omega) (inR_wide h2.2.2 (by omega) (by omega))
    obtain ⟨e5, a5, b5, c5⟩ := runs_ chk (by omega) (inR_wide h4 (by omega) (by omega))
    obtain ⟨e6, a6, b6, c6⟩ := list_ val (by omega) (inR_wide h5 (by omega) (by omega))
    have hz : bytesL ([76, 88, 1] : List Int) := fun y hy => by simp at hy; omega
    have hbt : bytesL (([76, 88, 1] : List Int) ++ e1 ++ e2 ++ e3 ++ e4 ++ e5 ++ e6) := bytesL_app (bytesL_app (bytesL_app (bytesL_app (bytesL_app (bytesL_app hz b1) b2) b3) b4) b5) b6
    have hlen : (([76, 88, 1] : List Int) ++ e1 ++ e2 ++ e3 ++ e4 ++ e5 ++ e6).length ≤ 5000000 := by
      simp only [List.length_append, List.length_cons, List.length_nil]
      omega
    obtain ⟨v, v0, v1, v2⟩ := sum_ _ (by omega) hbt
    refine ⟨if ((([76, 88, 1] : List Int) ++ e1 ++ e2 ++ e3 ++ e4 ++ e5 ++ e6 ++ [v]).length : Int) > 60000 then [] else ([76, 88, 1] : List Int) ++ e1 ++ e2 ++ e3 ++ e4 ++ e5 ++ e6 ++ [v], ?_, ?_, fun k hk => ?_⟩
    · split
      · simp
      · omega
    · split
      · exact fun y hy => by simp at hy
      · exact bytesL_app hbt (fun y hy => by rw [List.mem_singleton] at hy; omega)
    · have vk := v2 (k + 0) (by omega)
      have L0 : ([76, 88, 1] : List Int).length = 3 := rfl
      have s1 := fun q (hq : k - 10 ≤ q) => c1 q ([76, 88, 1] : List Int) (by omega) (by omega)
      have s2 := fun q (hq : k - 10 ≤ q) => c2 q (([76, 88, 1] : List Int) ++ e1) (by omega) (by simp only [List.length_append]; omega)
      have s3 := fun q (hq : k - 10 ≤ q) => c3 q (([76, 88, 1] : List Int) ++ e1 ++ e2) (by omega) (by simp only [List.length_append]; omega)
      have s4 := fun q (hq : k - 10 ≤ q) => c4 q (([76, 88, 1] : List Int) ++ e1 ++ e2 ++ e3) (by omega) (by simp only [List.length_append]; omega)
      have s5 := fun q (hq : k - 10 ≤ q) => c5 q (([76, 88, 1] : List Int) ++ e1 ++ e2 ++ e3 ++ e4) (by omega) (by simp only [List.length_append]; omega)
      have s6 := fun q (hq : k - 10 ≤ q) => c6 q (([76, 88, 1] : List Int) ++ e1 ++ e2 ++ e3 ++ e4 ++ e5) (by omega) (by simp only [List.length_append]; omega)
      have s7 := fun q (hq : k - 10 ≤ q) => v2 q (by omega)
      constructor
      · unfold spec_EncodeTable.f
        rw [sPackedOk b base dflt chk val acc k (by omega), decide_eq_true (show packedOk b base dflt chk val acc from ⟨h0, h1, h2, h3, h4, h5, by assumption⟩), Option.bind_some, if_pos rfl, (s1 k (by omega)).2, Option.bind_some, (s2 k (by omega)).2, Option.bind_some, (s3 k (by omega)).2, Option.bind_some, (s4 k (by omega)).2, Option.bind_some, (s5 k (by omega)).2, Option.bind_some, (s6 k (by omega)).2, Option.bind_some, (s7 k (by omega)).2, Option.bind_some, if_pos (by omega), Option.bind_some]
        split <;> rfl
      · obtain ⟨k, rfl⟩ : ∃ m, k = m + 4 := ⟨k - 4, by omega⟩
        unfold impl_EncodeTable.f
        rw [iPackedOk b base dflt chk val acc hbl _ (by omega), decide_eq_true (show packedOk b base dflt chk val acc from ⟨h0, h1, h2, h3, h4, h5, by assumption⟩), Option.bind_some, if_pos rfl, (s1 _ (by omega)).1, Option.bind_some, Option.bind_some]
        have n1 : wrap64 ((0 : Int) + 1) = 1 := by simp [wrap64]
        have n2 : wrap64 ((1 : Int) + 1) = 2 := by simp [wrap64]
        have n3 : wrap64 ((2 : Int) + 1) = 3 := by simp [wrap64]
        have r0 : rd_L2 [base, dflt, acc] 0 = base := rfl
        have r1 : rd_L2 [base, dflt, acc] 1 = dflt := rfl
        have r2 : rd_L2 [base, dflt, acc] 2 = acc := rfl
        have e3l : (([base, dflt, acc] : List (List Int)).length : Int) = 3 := rfl
        rw [e3l, impl_EncodeTable.l0, e3l, if_pos (by decide), if_pos (by decide), if_pos (by decide), r0, (s2 _ (by omega)).1, Option.bind_some, n1,
          impl_EncodeTable.l0, e3l, if_pos (by decide), if_pos (by decide), if_pos (by decide), r1, (s3 _ (by omega)).1, Option.bind_some, n2,
          impl_EncodeTable.l0, e3l, if_pos (by decide), if_pos (by decide), if_pos (by decide), r2, (s4 _ (by omega)).1, Option.bind_some, n3,
          impl_EncodeTable.l0, if_neg (by decide), (s5 _ (by omega)).1, Option.bind_some, (s6 _ (by omega)).1, Option.bind_some, (s7 _ (by omega)).1, Option.bind_some, if_pos (by omega), Option.bind_some]
        split <;> rfl
  · refine ⟨[], by simp, fun y hy => by simp at hy, fun k hk => ?_⟩
    unfold spec_EncodeTable.f impl_EncodeTable.f
    rw [sPackedOk b base dflt chk val acc k (by omega), iPackedOk b base dflt chk val acc hbl k (by omega), decide_eq_false hp]
    exact ⟨rfl, rfl⟩

theorem FnExactEncodeTable (x : List Int × List Int × List Int × List Int × List Int × List Int) (g : gd_Int64S x.1 ∧ gd_Int64S x.2.1 ∧ gd_Int64S x.2.2.1 ∧ gd_Int64S x.2.2.2.1 ∧ gd_Int64S x.2.2.2.2.1 ∧ gd_Int64S x.2.2.2.2.2) :
    ∃ k, laws_FnExactEncodeTable.f k x.1 x.2.1 x.2.2.1 x.2.2.2.1 x.2.2.2.2.1 x.2.2.2.2.2 = some true := by
  obtain ⟨b, base, dflt, chk, val, acc⟩ := x
  suffices ∀ k, 10000000 ≤ k → laws_FnExactEncodeTable.f k b base dflt chk val acc = some true from ⟨10000000, this _ (Nat.le_refl _)⟩
  intro k hk
  obtain ⟨r, e, _, _, h⟩ := szL_Packed k (by omega) b base dflt chk val acc g 1048576 (by omega)
  unfold laws_FnExactEncodeTable.f
  first | rw [e] | (rw [show laws_szPacked.f b base dflt chk val acc 1048576 = some r from e])
  simp only [Option.bind_some]
  by_cases hr : r < 0
  · rw [if_pos hr]
  · have hb := h (by omega)
    have hb' : b.length ≤ 1048576 ∧ base.length ≤ 1048576 ∧ dflt.length ≤ 1048576 ∧ chk.length ≤ 1048576 ∧ val.length ≤ 1048576 ∧ acc.length ≤ 1048576 := hb
    obtain ⟨o, o1, _, o3⟩ := encode b base dflt chk val acc hb'.1
    rw [if_neg hr, toL_Packed k (by omega) b base dflt chk val acc hb]
    simp only [Option.bind_some]
    rw [(o3 k (by omega)).1, (o3 k (by omega)).2]
    simp only [Option.bind_some]
    rw [eqByteS_same o (by omega) k (by omega)]
    simp only [Option.bind_some, if_true]
    rw [eqL_Packed k (by omega) b base dflt chk val acc hb]
    simp only [Option.bind_some, if_true]
    obtain ⟨m1, q1, _⟩ := markInt64S_l b.length k b 1 0 (by omega) (by omega) (by omega) (by omega) (by omega) (by omega) (by omega)
    obtain ⟨m2, q2, _⟩ := markInt64S_l base.length k base (1 + b.length) 0 (by omega) (by omega) (by omega) (by omega) (by omega) (by omega) (by omega)
    obtain ⟨m3, q3, _⟩ := markInt64S_l dflt.length k dflt (1 + b.length + base.length) 0 (by omega) (by omega) (by omega) (by omega) (by omega) (by omega) (by omega)
    obtain ⟨m4, q4, _⟩ := markInt64S_l chk.length k chk (1 + b.length + base.length + dflt.length) 0 (by omega) (by omega) (by omega) (by omega) (by omega) (by omega) (by omega)
    obtain ⟨m5, q5, _⟩ := markInt64S_l val.length k val (1 + b.length + base.length + dflt.length + chk.length) 0 (by omega) (by omega) (by omega) (by omega) (by omega) (by omega) (by omega)
    obtain ⟨m6, q6, _⟩ := markInt64S_l acc.length k acc (1 + b.length + base.length + dflt.length + chk.length + val.length) 0 (by omega) (by omega) (by omega) (by omega) (by omega) (by omega) (by omega)
    unfold laws_markPacked.f
    rw [show laws_markInt64S.f k b 1 = _ from q1, Option.bind_some, show laws_markInt64S.f k base (1 + b.length) = _ from q2, Option.bind_some, show laws_markInt64S.f k dflt (1 + b.length + base.length) = _ from q3, Option.bind_some, show laws_markInt64S.f k chk (1 + b.length + base.length + dflt.length) = _ from q4, Option.bind_some, show laws_markInt64S.f k val (1 + b.length + base.length + dflt.length + chk.length) = _ from q5, Option.bind_some, show laws_markInt64S.f k acc (1 + b.length + base.length + dflt.length + chk.length + val.length) = _ from q6, Option.bind_some]
    simp only [Option.bind_some]
    rw [if_neg (by omega)]
    obtain ⟨k, rfl⟩ : ∃ m, k = m + 1 := ⟨k - 1, by omega⟩
    obtain ⟨z, z1, z2⟩ := markByteS_held o (by omega) k (by omega)
    simp only [laws_FnExactEncodeTable.j0, Bool.not_true, Bool.false_eq_true, if_false]
    rw [z1]
    simp only [Option.bind_some]
    rw [z2]
    simp only [Option.bind_some]
    rw [if_neg (by omega), if_pos trivial, toL_Packed k (by omega) b base dflt chk val acc hb]
    simp only [Option.bind_some]
    rw [(o3 k (by omega)).2]
    simp only [Option.bind_some]
    rw [eqByteS_same o (by omega) k (by omega)]
    simp only [Option.bind_some, if_true]
    rw [if_neg (by omega)]
end Go.Proofs.Ytabpfejdppfcdaa.Pure
