/- The program's NextIn and the reference's come to one answer: whatever the packed rows, the state and the letter. -/
import Derived.Test.YtledhlgfiekmgaaPFnExactNextInx6
import Derived.Test.YtledhlgfiekmgaaKit
import Derived.Test.YtledhlgfiekmgaaKitTab
namespace Go.Proofs.Ytledhlgfiekmgaa.Pure
open Go.RowKit Go.Proofs.Ytledhlgfiekmgaa.PFnExactNextIn Go.Proofs.YtledhlgfiekmgaaW.PrintWords Go.Proofs.YtledhlgfiekmgaaW.PrintLast Go.Proofs.YtledhlgfiekmgaaW.PrintMore Go.Proofs.Ytledhlgfiekmgaa.Kit
set_option linter.unusedVariables false
theorem sIn (a b c : Int) : spec_l1In.f a b c = some (decide (b ≤ a ∧ a ≤ c)) := by
  unfold spec_l1In.f
  by_cases h : a ≥ b
  · rw [if_pos h]; congr 1; simp; omega
  · rw [if_neg h]; congr 1; simp; omega
theorem iWithin (a b c : Int) : impl_within.f a b c = some (decide (b ≤ a ∧ a ≤ c)) := by
  unfold impl_within.f
  by_cases h : a ≥ b
  · rw [if_pos h]; congr 1; simp; omega
  · rw [if_neg h]; congr 1; simp; omega
def gd_Int64S (x : List Int) : Prop := x.length ≤ maxLen ∧ ∀ y ∈ x, (Lit.int .i64 y).wf = true
def bd_Int64S (x : List Int) : Prop := x.length ≤ 1048576
def bi_Int64S (x : List Int) : Prop := x.length ≤ 1048576
theorem szL_Int64S (k : Nat) (hk : 1048578 ≤ k) (l : List Int) (g : l.length ≤ maxLen ∧ ∀ y ∈ l, (Lit.int .i64 y).wf = true) (n : Int) (hn : 0 ≤ n ∧ n ≤ 1048576) : ∃ r, laws_szInt64S.f l n = some r ∧ -1 ≤ r ∧ r ≤ n ∧ (0 ≤ r → l.length ≤ 1048576) := by
  have hl := g.1
  unfold maxLen at hl
  unfold laws_szInt64S.f
  rw [w64 (by omega) (by omega)]
  by_cases h : n - (l.length : Int) < 0
  · rw [if_pos h]; exact ⟨-1, rfl, by omega, by omega, fun h => by omega⟩
  · rw [if_neg h]; exact ⟨_, rfl, by omega, by omega, fun _ => by omega⟩
theorem szL_Packed (k : Nat) (hk : 1048578 ≤ k) (f0 : List Int) (f1 : List Int) (f2 : List Int) (f3 : List Int) (f4 : List Int) (f5 : List Int) (g : (f0.length ≤ maxLen ∧ ∀ y ∈ f0, (Lit.int .i64 y).wf = true) ∧ (f1.length ≤ maxLen ∧ ∀ y ∈ f1, (Lit.int .i64 y).wf = true) ∧ (f2.length ≤ maxLen ∧ ∀ y ∈ f2, (Lit.int .i64 y).wf = true) ∧ (f3.length ≤ maxLen ∧ ∀ y ∈ f3, (Lit.int .i64 y).wf = true) ∧ (f4.length ≤ maxLen ∧ ∀ y ∈ f4, (Lit.int .i64 y).wf = true) ∧ (f5.length ≤ maxLen ∧ ∀ y ∈ f5, (Lit.int .i64 y).wf = true)) (n : Int) (hn : 0 ≤ n ∧ n ≤ 1048576) : ∃ r, laws_szPacked.f f0 f1 f2 f3 f4 f5 n = some r ∧ -1 ≤ r ∧ r ≤ n ∧ (0 ≤ r → (f0.length ≤ 1048576) ∧ (f1.length ≤ 1048576) ∧ (f2.length ≤ 1048576) ∧ (f3.length ≤ 1048576) ∧ (f4.length ≤ 1048576) ∧ (f5.length ≤ 1048576)) := by
  unfold laws_szPacked.f
  obtain ⟨r1, e1, a1, b1, d1⟩ := szL_Int64S k (by omega) f0 g.1 n (by omega)
  rw [e1]
  simp only [Option.bind_some]
  by_cases c1 : r1 < 0
  · rw [if_pos c1]; exact ⟨-1, rfl, by omega, by omega, fun h => by omega⟩
  rw [if_neg c1]
  obtain ⟨r2, e2, a2, b2, d2⟩ := szL_Int64S k (by omega) f1 g.2.1 r1 (by omega)
  rw [e2]
  simp only [Option.bind_some]
  by_cases c2 : r2 < 0
  · rw [if_pos c2]; exact ⟨-1, rfl, by omega, by omega, fun h => by omega⟩
  rw [if_neg c2]
  obtain ⟨r3, e3, a3, b3, d3⟩ := szL_Int64S k (by omega) f2 g.2.2.1 r2 (by omega)
  rw [e3]
  simp only [Option.bind_some]
  by_cases c3 : r3 < 0
  · rw [if_pos c3]; exact ⟨-1, rfl, by omega, by omega, fun h => by omega⟩
  rw [if_neg c3]
  obtain ⟨r4, e4, a4, b4, d4⟩ := szL_Int64S k (by omega) f3 g.2.2.2.1 r3 (by omega)
  rw [e4]
  simp only [Option.bind_some]
  by_cases c4 : r4 < 0
  · rw [if_pos c4]; exact ⟨-1, rfl, by omega, by omega, fun h => by omega⟩
  rw [if_neg c4]
  obtain ⟨r5, e5, a5, b5, d5⟩ := szL_Int64S k (by omega) f4 g.2.2.2.2.1 r4 (by omega)
  rw [e5]
  simp only [Option.bind_some]
  by_cases c5 : r5 < 0
  · rw [if_pos c5]; exact ⟨-1, rfl, by omega, by omega, fun h => by omega⟩
  rw [if_neg c5]
  obtain ⟨r6, e6, a6, b6, d6⟩ := szL_Int64S k (by omega) f5 g.2.2.2.2.2 r5 (by omega)
  rw [e6]
  simp only [Option.bind_some]
  by_cases c6 : r6 < 0
  · rw [if_pos c6]; exact ⟨-1, rfl, by omega, by omega, fun h => by omega⟩
  rw [if_neg c6]
  exact ⟨r6, rfl, by omega, by omega, fun _ => ⟨(d1 (by omega)), (d2 (by omega)), (d3 (by omega)), (d4 (by omega)), (d5 (by omega)), (d6 (by omega))⟩⟩
theorem toL_Int64S_l (l : List Int) (hl : l.length ≤ 1048576) (d : Nat) : ∀ (k : Nat) (acc : List Int) (i : Int), d + 0 < k → 0 ≤ i → (l.length : Int) - i = d → acc.length = l.length →
    laws_toInt64S.l0 k l acc i = some (acc.take i.toNat ++ (l).drop i.toNat) := by
  induction d with
  | zero =>
    intro k acc i hk h0 hd ha
    obtain ⟨k, rfl⟩ : ∃ m, k = m + 1 := ⟨k - 1, by omega⟩
    simp only [laws_toInt64S.l0]
    rw [if_neg (by omega), List.take_of_length_le (by omega), List.drop_eq_nil_of_le (by first | omega | (rw [List.length_map]; omega)), List.append_nil]
  | succ d ih =>
    intro k acc i hk h0 hd ha
    obtain ⟨k, rfl⟩ : ∃ m, k = m + 1 := ⟨k - 1, by omega⟩
    have hi : i.toNat < l.length := by omega
    have e : rd l i = l[i.toNat] := by
      unfold rd
      rw [List.getD_eq_getElem?_getD, List.getElem?_eq_getElem hi]
      rfl
    simp only [laws_toInt64S.l0, e]
    rw [if_pos (by omega), if_pos h0, if_pos (by omega), w64 (by omega) (by omega), ih k _ _ (by omega) (by omega) (by omega) (by simpa using ha)]
    have e1 : (i + 1).toNat = i.toNat + 1 := by omega
    rw [e1, List.take_succ_eq_append_getElem (by simp; omega), List.take_set_of_le (Nat.le_refl _), List.getElem_set_self, List.append_assoc, List.singleton_append]
    congr 2
    rw [List.drop_eq_getElem_cons (i := i.toNat) hi]
theorem toL_Int64S (k : Nat) (hk : 1048578 ≤ k) (l : List Int) (g : l.length ≤ 1048576) : laws_toInt64S.f k l = some (l) := by
  have hl : l.length ≤ 1048576 := g
  unfold laws_toInt64S.f
  rw [if_pos (by omega), if_pos (by omega), toL_Int64S_l l hl l.length k _ 0 (by omega) (by omega) (by omega) (by simp)]
  simp
theorem toL_Packed (k : Nat) (hk : 1048578 ≤ k) (f0 : List Int) (f1 : List Int) (f2 : List Int) (f3 : List Int) (f4 : List Int) (f5 : List Int) (g : (f0.length ≤ 1048576) ∧ (f1.length ≤ 1048576) ∧ (f2.length ≤ 1048576) ∧ (f3.length ≤ 1048576) ∧ (f4.length ≤ 1048576) ∧ (f5.length ≤ 1048576)) : laws_toPacked.f k f0 f1 f2 f3 f4 f5 = some (f0, f1, f2, f3, f4, f5) := by
  unfold laws_toPacked.f
  rw [toL_Int64S k (by omega) f0 (g.1)]
  simp only [Option.bind_some]
  rw [toL_Int64S k (by omega) f1 (g.2.1)]
  simp only [Option.bind_some]
  rw [toL_Int64S k (by omega) f2 (g.2.2.1)]
  simp only [Option.bind_some]
  rw [toL_Int64S k (by omega) f3 (g.2.2.2.1)]
  simp only [Option.bind_some]
  rw [toL_Int64S k (by omega) f4 (g.2.2.2.2.1)]
  simp only [Option.bind_some]
  rw [toL_Int64S k (by omega) f5 (g.2.2.2.2.2)]
  simp only [Option.bind_some]
  all_goals (first | rfl | simp)
theorem eqL_Int64S_l (l : List Int) (hl : l.length ≤ 1048576) (d : Nat) : ∀ (k : Nat) (i : Int), d + 0 < k → 0 ≤ i → (l.length : Int) - i = d → laws_eqInt64S.l0 k l l i = some true := by
  induction d with
  | zero =>
    intro k i hk h0 hd
    obtain ⟨k, rfl⟩ : ∃ m, k = m + 1 := ⟨k - 1, by omega⟩
    simp only [laws_eqInt64S.l0]
    rw [if_neg (by omega)]
  | succ d ih =>
    intro k i hk h0 hd
    obtain ⟨k, rfl⟩ : ∃ m, k = m + 1 := ⟨k - 1, by omega⟩
    have hi : i.toNat < l.length := by omega
    simp only [laws_eqInt64S.l0]
    rw [if_pos (by omega), if_pos h0, if_pos (by omega)]
    simp only [if_true]
    rw [w64 (by omega) (by omega)]
    exact ih k _ (by omega) (by omega) (by omega)
theorem eqL_Int64S (k : Nat) (hk : 1048578 ≤ k) (l : List Int) (g : l.length ≤ 1048576) : laws_eqInt64S.f k l l = some true := by
  have hl : l.length ≤ 1048576 := g
  unfold laws_eqInt64S.f
  simp only [if_true]
  exact eqL_Int64S_l l hl l.length k 0 (by omega) (by omega) (by omega)
theorem eqL_Packed (k : Nat) (hk : 1048578 ≤ k) (f0 : List Int) (f1 : List Int) (f2 : List Int) (f3 : List Int) (f4 : List Int) (f5 : List Int) (g : (f0.length ≤ 1048576) ∧ (f1.length ≤ 1048576) ∧ (f2.length ≤ 1048576) ∧ (f3.length ≤ 1048576) ∧ (f4.length ≤ 1048576) ∧ (f5.length ≤ 1048576)) : laws_eqPacked.f k f0 f1 f2 f3 f4 f5 f0 f1 f2 f3 f4 f5 = some true := by
  unfold laws_eqPacked.f
  simp [eqL_Int64S k (by omega) f0 (g.1), eqL_Int64S k (by omega) f1 (g.2.1), eqL_Int64S k (by omega) f2 (g.2.2.1), eqL_Int64S k (by omega) f3 (g.2.2.2.1), eqL_Int64S k (by omega) f4 (g.2.2.2.2.1), eqL_Int64S k (by omega) f5 (g.2.2.2.2.2)]
theorem sBlocks_l (l : List Int) (hl : l.length = 256) (d : Nat) : ∀ (k i : Nat) (n : Int), d < k → 256 - i = d → i ≤ 256 → 0 ≤ n → n ≤ i → spec_l7Blocks.l0 k l n (i : Int) = some ((blkLoop l d i n).getD (-1)) := by
  induction d with
  | zero =>
    intro k i n hk hd hi h0 h1
    obtain ⟨k, rfl⟩ : ∃ m, k = m + 1 := ⟨k - 1, by omega⟩
    simp only [spec_l7Blocks.l0]
    rw [if_neg (by omega)]
    rfl
  | succ d ih =>
    intro k i n hk hd hi h0 h1
    obtain ⟨k, rfl⟩ : ∃ m, k = m + 1 := ⟨k - 1, by omega⟩
    simp only [spec_l7Blocks.l0, sIn, Option.bind_some, decide_eq_true_eq]
    rw [if_pos (by omega), if_pos (by omega), if_pos (by omega)]
    unfold blkLoop
    by_cases hc : 0 ≤ rd l (i : Int) ∧ rd l (i : Int) ≤ n
    · rw [if_pos hc, if_pos hc, w64 (x := rd l (i : Int) + 1) (by omega) (by omega), nat_next (by omega)]
      exact ih k (i + 1) _ (by omega) (by omega) (by omega) (by have := le_mx_left n (rd l (i : Int) + 1); omega) (mx_le (by omega) (by omega))
    · rw [if_neg hc, if_neg hc]
      rfl
theorem sBlocks (l : List Int) (k : Nat) (hk : 300 ≤ k) : spec_l7Blocks.f k l = some ((blocksM l).getD (-1)) := by
  unfold spec_l7Blocks.f blocksM
  by_cases h : l.length = 256
  · rw [if_pos (by omega), if_pos h]
    exact sBlocks_l l h 256 k 0 0 (by omega) (by omega) (by omega) (by omega) (by omega)
  · rw [if_neg (by omega), if_neg h]
    rfl
theorem iBlocks_l (l : List Int) (hl : l.length ≤ 1048576) (d : Nat) : ∀ (k i : Nat) (n : Int), d < k → l.length - i = d → i ≤ l.length → 0 ≤ n → n ≤ i →
    impl_blocksOk.l0 k l (n - 1) l (l.length : Int) (i : Int) = some (match blkLoop l d i n with | some m => (m, ((l.length : Int) == 256)) | none => (0, false)) := by
  induction d with
  | zero =>
    intro k i n hk hd hi h0 h1
    obtain ⟨k, rfl⟩ : ∃ m, k = m + 1 := ⟨k - 1, by omega⟩
    simp only [impl_blocksOk.l0]
    rw [if_neg (by omega), w64 (by omega) (by omega), Int.sub_add_cancel]
    rfl
  | succ d ih =>
    intro k i n hk hd hi h0 h1
    obtain ⟨k, rfl⟩ : ∃ m, k = m + 1 := ⟨k - 1, by omega⟩
    simp only [impl_blocksOk.l0, iWithin, Option.bind_some, decide_eq_true_eq]
    rw [if_pos (by omega), if_pos (by omega), if_pos (by omega), w64 (x := n - 1 + 1) (by omega) (by omega), Int.sub_add_cancel]
    unfold blkLoop
    by_cases hc : 0 ≤ rd l (i : Int) ∧ rd l (i : Int) ≤ n
    · rw [if_pos hc, if_pos hc, nat_next (by omega)]
      have e : mx (n - 1) (rd l (i : Int)) = mx n (rd l (i : Int) + 1) - 1 := by unfold mx; split <;> split <;> omega
      rw [e]
      exact ih k (i + 1) _ (by omega) (by omega) (by omega) (by have := le_mx_left n (rd l (i : Int) + 1); omega) (mx_le (by omega) (by omega))
    · rw [if_neg hc, if_neg hc]
/-- what the program's blocksOk tells -/
theorem iBlocks (l : List Int) (hl : l.length ≤ 1048576) (k : Nat) (hk : 1048578 ≤ k) : ∃ r, impl_blocksOk.f k l = some r ∧ r.2 = (blocksM l).isSome ∧ ∀ m, blocksM l = some m → r.1 = m := by
  unfold impl_blocksOk.f
  have e : impl_blocksOk.l0 k l (-1) l (l.length : Int) 0 = _ := iBlocks_l l hl l.length k 0 0 (by omega) (by omega) (by omega) (by omega) (by omega)
  refine ⟨_, e, ?_, ?_⟩
  · unfold blocksM
    by_cases h : l.length = 256
    · rw [if_pos h, h]
      cases blkLoop l 256 0 0 <;> rfl
    · rw [if_neg h]
      cases blkLoop l l.length 0 0
      · rfl
      · show ((l.length : Int) == 256) = false
        rw [beq_eq_false_iff_ne]
        omega
  · intro m hm
    unfold blocksM at hm
    by_cases h : l.length = 256
    · rw [if_pos h] at hm
      rw [h, hm]
    · rw [if_neg h] at hm
      exact absurd hm (by simp)
open Classical in
theorem areIn (l : List Int) (a b : Int) : impl_areWithin.f l a b = some (decide (inR l a b)) := by
  unfold impl_areWithin.f
  exact congrArg some (decide_eq_decide.2 (inR_mem l a b))

/-- the reference's rounds: a state's numbers; a cell's -/
def stP (n : Int) (base dflt acc : List Int) (i : Nat) : Prop := (0 ≤ rd base (i : Int) ∧ rd base (i : Int) ≤ 200000) ∧ (0 ≤ rd dflt (i : Int) ∧ rd dflt (i : Int) ≤ n - 1) ∧ (-1 ≤ rd acc (i : Int) ∧ rd acc (i : Int) ≤ 39)
def ceP (n : Int) (chk val : List Int) (i : Nat) : Prop := (-1 ≤ rd chk (i : Int) ∧ rd chk (i : Int) ≤ n - 1) ∧ (0 ≤ rd val (i : Int) ∧ rd val (i : Int) ≤ n - 1) ∧ (rd chk (i : Int) = -1 → rd val (i : Int) = 0)

open Classical in
theorem sPacked_l1 (n : Int) (hn : 1 ≤ n ∧ n ≤ 1000) (b base dflt chk val acc : List Int) (hv : chk.length = val.length) (hl : chk.length ≤ 200000) (d : Nat) : ∀ (k i : Nat), d < k → chk.length - i = d → i ≤ chk.length →
    spec_PackedOk.l1 k n (i : Int) b base dflt chk val acc = some (decide (fromN (ceP n chk val) chk.length i ∧ True)) := by
  induction d with
  | zero =>
    intro k i hk hd hi
    obtain ⟨k, rfl⟩ : ∃ m, k = m + 1 := ⟨k - 1, by omega⟩
    simp only [spec_PackedOk.l1]
    rw [if_neg (by omega), decide_eq_true ⟨fromN_end (by omega), trivial⟩]
  | succ d ih =>
    intro k i hk hd hi
    obtain ⟨k, rfl⟩ : ∃ m, k = m + 1 := ⟨k - 1, by omega⟩
    have hlt : i < chk.length := by omega
    simp only [spec_PackedOk.l1, sIn, Option.bind_some, decide_eq_true_eq]
    rw [if_pos (by omega), if_pos (by omega), w64 (x := n - 1) (by omega) (by omega), nat_next (by omega)]
    by_cases h1 : -1 ≤ rd chk (i : Int) ∧ rd chk (i : Int) ≤ n - 1
    · rw [if_pos h1, if_pos (by omega)]
      by_cases h2 : 0 ≤ rd val (i : Int) ∧ rd val (i : Int) ≤ n - 1
      · rw [if_pos h2]
        by_cases h3 : rd chk (i : Int) = -1
        · rw [if_pos h3]
          by_cases h4 : rd val (i : Int) = 0
          · rw [if_pos h4, ih k (i + 1) (by omega) (by omega) (by omega)]; exact congrArg some (decide_eq_decide.2 (fromN_go hlt ⟨h1, h2, fun _ => h4⟩))
          · rw [if_neg h4, decide_eq_false (fromN_no hlt (fun g => h4 (g.2.2 h3)))]
        · rw [if_neg h3, ih k (i + 1) (by omega) (by omega) (by omega)]; exact congrArg some (decide_eq_decide.2 (fromN_go hlt ⟨h1, h2, fun e => absurd e h3⟩))
      · rw [if_neg h2, decide_eq_false (fromN_no hlt (fun g => h2 g.2.1))]
    · rw [if_neg h1, decide_eq_false (fromN_no hlt (fun g => h1 g.1))]
open Classical in
theorem sPacked_l0 (n : Int) (hn : 1 ≤ n ∧ n ≤ 1000) (b base dflt chk val acc : List Int) (hb : (base.length : Int) = n) (hd' : (dflt.length : Int) = n) (ha : (acc.length : Int) = n) (d : Nat) : ∀ (k i : Nat), d + 200010 < k → base.length - i = d → i ≤ base.length →
    spec_PackedOk.l0 k n (i : Int) b base dflt chk val acc = some (decide (fromN (stP n base dflt acc) base.length i ∧ ((chk.length = val.length ∧ chk.length ≤ 200000) ∧ fromN (ceP n chk val) chk.length 0))) := by
  induction d with
  | zero =>
    intro k i hk hd hi
    obtain ⟨k, rfl⟩ : ∃ m, k = m + 2 := ⟨k - 2, by omega⟩
    simp only [spec_PackedOk.l0]
    rw [if_neg (by omega)]
    by_cases h1 : chk.length = val.length
    · rw [if_pos (by omega)]
      by_cases h2 : chk.length ≤ 200000
      · rw [decide_eq_false (by omega)]
        simp only [spec_PackedOk.j2]
        rw [if_neg (by simp)]
        have e : spec_PackedOk.l1 k n 0 b base dflt chk val acc = some (decide (fromN (ceP n chk val) chk.length 0 ∧ True)) := sPacked_l1 n hn b base dflt chk val acc h1 h2 chk.length k 0 (by omega) (by omega) (by omega)
        rw [e]
        exact congrArg some (decide_eq_decide.2 ⟨fun h => ⟨fromN_end (by omega), ⟨h1, h2⟩, h.1⟩, fun h => ⟨h.2.2, trivial⟩⟩)
      · rw [decide_eq_true (by omega)]
        simp only [spec_PackedOk.j2]
        rw [if_pos trivial, decide_eq_false (fun g => h2 g.2.1.2)]
    · rw [if_neg (by omega)]
      simp only [spec_PackedOk.j2]
      rw [if_pos trivial, decide_eq_false (fun g => h1 g.2.1.1)]
  | succ d ih =>
    intro k i hk hd hi
    obtain ⟨k, rfl⟩ : ∃ m, k = m + 1 := ⟨k - 1, by omega⟩
    have hlt : i < base.length := by omega
    simp only [spec_PackedOk.l0, sIn, Option.bind_some, decide_eq_true_eq]
    rw [if_pos (by omega), if_pos (by omega), if_pos (by omega), w64 (x := n - 1) (by omega) (by omega), nat_next (by omega)]
    by_cases h1 : 0 ≤ rd base (i : Int) ∧ rd base (i : Int) ≤ 200000
    · rw [if_pos h1, if_pos (by omega)]
      by_cases h2 : 0 ≤ rd dflt (i : Int) ∧ rd dflt (i : Int) ≤ n - 1
      · rw [if_pos h2, if_pos (by omega)]
        by_cases h3 : -1 ≤ rd acc (i : Int) ∧ rd acc (i : Int) ≤ 39
        · rw [if_pos h3, ih k (i + 1) (by omega) (by omega) (by omega)]; exact congrArg some (decide_eq_decide.2 (fromN_go hlt ⟨h1, h2, h3⟩))
        · rw [if_neg h3, decide_eq_false (fromN_no hlt (fun g => h3 g.2.2))]
      · rw [if_neg h2, decide_eq_false (fromN_no hlt (fun g => h2 g.2.1))]
    · rw [if_neg h1, decide_eq_false (fromN_no hlt (fun g => h1 g.1))]
theorem packed_rounds (b base dflt chk val acc : List Int) (h0 : (blocksM b).isSome = true) (h1 : 1 ≤ base.length ∧ base.length ≤ 1000 ∧ dflt.length = base.length ∧ acc.length = base.length) :
    (fromN (stP base.length base dflt acc) base.length 0 ∧ ((chk.length = val.length ∧ chk.length ≤ 200000) ∧ fromN (ceP base.length chk val) chk.length 0)) ↔ packedOk b base dflt chk val acc := by
  constructor
  · rintro ⟨hs, hc, hv⟩
    refine ⟨h0, h1, ⟨fun i hi => (hs i (by omega) hi).1, fun i hi => (hs i (by omega) (by omega)).2.1, fun i hi => (hs i (by omega) (by omega)).2.2⟩, hc, fun i hi => (hv i (by omega) hi).1, fun i hi => (hv i (by omega) (by omega)).2.1, fun i hi => (hv i (by omega) hi).2.2⟩
  · rintro ⟨_, _, ⟨g1, g2, g3⟩, hc, g4, g5, g6⟩
    exact ⟨fun i _ hi => ⟨g1 i hi, g2 i (by omega), g3 i (by omega)⟩, hc, fun i _ hi => ⟨g4 i hi, g5 i (by omega), g6 i hi⟩⟩
open Classical in
theorem sPackedOk (b base dflt chk val acc : List Int) (k : Nat) (hk : 300000 ≤ k) : spec_PackedOk.f k b base dflt chk val acc = some (decide (packedOk b base dflt chk val acc)) := by
  obtain ⟨k, rfl⟩ : ∃ m, k = m + 1 := ⟨k - 1, by omega⟩
  unfold spec_PackedOk.f
  rw [sBlocks b _ (by omega)]
  simp only [Option.bind_some]
  have no : ¬ packedOk b base dflt chk val acc → spec_PackedOk.j0 (k + 1) (base.length : Int) true b base dflt chk val acc = some (decide (packedOk b base dflt chk val acc)) := by
    intro h
    rw [decide_eq_false h]
    simp [spec_PackedOk.j0]
  cases hb : blocksM b with
  | none =>
    rw [if_pos (by simp)]
    exact no (fun g => by have := g.1; rw [hb] at this; exact absurd this (by simp))
  | some m =>
    have hm := blocksM_some hb
    rw [if_neg (by simp; omega)]
    by_cases h1 : (base.length : Int) < 1
    · rw [if_pos h1]
      exact no (fun g => by have := g.2.1; omega)
    · rw [if_neg h1]
      by_cases h2 : (base.length : Int) > 1000
      · rw [if_pos h2]
        exact no (fun g => by have := g.2.1; omega)
      · rw [if_neg h2]
        by_cases h3 : (dflt.length : Int) = (base.length : Int)
        · rw [if_pos h3]
          by_cases h4 : (acc.length : Int) = (base.length : Int)
          · have e4 : ((acc.length : Int) != (base.length : Int)) = false := bne_eq_false_iff_eq.2 h4
            rw [e4]
            simp only [spec_PackedOk.j0]
            rw [if_neg (by simp)]
            have e : spec_PackedOk.l0 k (base.length : Int) 0 b base dflt chk val acc = _ := sPacked_l0 (base.length : Int) (by omega) b base dflt chk val acc rfl h3 h4 base.length k 0 (by omega) (by omega) (by omega)
            rw [e]
            exact congrArg some (decide_eq_decide.2 (packed_rounds b base dflt chk val acc (by rw [hb]; rfl) (by omega)))
          · have e4 : ((acc.length : Int) != (base.length : Int)) = true := bne_iff_ne.2 h4
            rw [e4]
            exact no (fun g => by have := g.2.1; omega)
        · rw [if_neg h3]
          exact no (fun g => by have := g.2.1; omega)

open Classical in
theorem iPacked_l0 (b base dflt chk val acc : List Int) (hv : chk.length = val.length) (hl : chk.length ≤ 200000) (d : Nat) : ∀ (k i : Nat), d < k → chk.length - i = d → i ≤ chk.length →
    impl_PackedOk.l0 k chk (chk.length : Int) (i : Int) b base dflt chk val acc = some (decide (fromN (fun i => rd chk (i : Int) = -1 → rd val (i : Int) = 0) chk.length i ∧ True)) := by
  induction d with
  | zero =>
    intro k i hk hd hi
    obtain ⟨k, rfl⟩ : ∃ m, k = m + 1 := ⟨k - 1, by omega⟩
    simp only [impl_PackedOk.l0]
    rw [if_neg (by omega), decide_eq_true ⟨fromN_end (by omega), trivial⟩]
  | succ d ih =>
    intro k i hk hd hi
    obtain ⟨k, rfl⟩ : ∃ m, k = m + 1 := ⟨k - 1, by omega⟩
    have hlt : i < chk.length := by omega
    simp only [impl_PackedOk.l0]
    rw [if_pos (by omega), if_pos (by omega), if_pos (by omega), nat_next (by omega)]
    by_cases h3 : rd chk (i : Int) = -1
    · rw [if_pos h3, if_pos (by omega)]
      by_cases h4 : rd val (i : Int) = 0
      · rw [if_pos h4, ih k (i + 1) (by omega) (by omega) (by omega)]; exact congrArg some (decide_eq_decide.2 (fromN_go hlt (fun _ => h4)))
      · rw [if_neg h4, decide_eq_false (fromN_no hlt (fun g => h4 (g h3)))]
    · rw [if_neg h3, ih k (i + 1) (by omega) (by omega) (by omega)]; exact congrArg some (decide_eq_decide.2 (fromN_go hlt (fun e => absurd e h3)))
open Classical in
theorem iPackedOk (b base dflt chk val acc : List Int) (hbl : b.length ≤ 1048576) (k : Nat) (hk : 1300000 ≤ k) : impl_PackedOk.f k b base dflt chk val acc = some (decide (packedOk b base dflt chk val acc)) := by
  obtain ⟨k, rfl⟩ : ∃ m, k = m + 3 := ⟨k - 3, by omega⟩
  obtain ⟨r, er, r2, r1⟩ := iBlocks b hbl (k + 3) (by omega)
  unfold impl_PackedOk.f impl_size_int64.f
  rw [er]
  simp only [Option.bind_some, iWithin, decide_eq_true_eq, r2]
  have no : ∀ (x : Int), ¬ packedOk b base dflt chk val acc → impl_PackedOk.j0 (k + 3) x true b base dflt chk val acc = some (decide (packedOk b base dflt chk val acc)) := by
    intro x h
    rw [decide_eq_false h]
    simp [impl_PackedOk.j0]
  have no1 : ∀ (x : Int), ¬ packedOk b base dflt chk val acc → impl_PackedOk.j1 (k + 2) x true b base dflt chk val acc = some (decide (packedOk b base dflt chk val acc)) := by
    intro x h
    rw [decide_eq_false h]
    simp [impl_PackedOk.j1]
  have no2 : ¬ packedOk b base dflt chk val acc → impl_PackedOk.j2 (k + 1) true b base dflt chk val acc = some (decide (packedOk b base dflt chk val acc)) := by
    intro h
    rw [decide_eq_false h]
    simp [impl_PackedOk.j2]
  by_cases hb : (blocksM b).isSome = true
  · rw [if_pos hb]
    by_cases h1 : 1 ≤ (base.length : Int) ∧ (base.length : Int) ≤ 1000
    · rw [if_pos h1]
      by_cases h3 : (dflt.length : Int) = (base.length : Int)
      · rw [if_pos h3]
        by_cases h4 : (acc.length : Int) = (base.length : Int)
        · have e4 : ((acc.length : Int) != (base.length : Int)) = false := bne_eq_false_iff_eq.2 h4
          rw [e4]
          simp only [impl_PackedOk.j0, areIn, Option.bind_some, decide_eq_true_eq]
          rw [if_neg (by simp), w64 (x := (base.length : Int) - 1) (by omega) (by omega)]
          by_cases g1 : inR base 0 200000
          · rw [if_pos g1]
            by_cases g2 : inR dflt 0 ((base.length : Int) - 1)
            · rw [if_pos g2]
              by_cases g3 : inR acc (-1) 39
              · rw [decide_eq_true g3]
                simp only [impl_PackedOk.j1, areIn, Option.bind_some, decide_eq_true_eq, Bool.not_true]
                rw [if_neg (by simp), w64 (x := (base.length : Int) - 1) (by omega) (by omega)]
                by_cases c1 : (chk.length : Int) = (val.length : Int)
                · rw [if_pos c1]
                  by_cases c2 : (chk.length : Int) > 200000
                  · rw [if_pos c2]
                    exact no2 (fun g => by have := g.2.2.2.1; omega)
                  · rw [if_neg c2]
                    by_cases g4 : inR chk (-1) ((base.length : Int) - 1)
                    · rw [if_pos g4]
                      by_cases g5 : inR val 0 ((base.length : Int) - 1)
                      · rw [decide_eq_true g5]
                        simp only [impl_PackedOk.j2, Bool.not_true]
                        rw [if_neg (by simp)]
                        have e : impl_PackedOk.l0 k chk (chk.length : Int) 0 b base dflt chk val acc = _ := iPacked_l0 b base dflt chk val acc (by omega) (by omega) chk.length k 0 (by omega) (by omega) (by omega)
                        rw [e]
                        refine congrArg some (decide_eq_decide.2 ⟨fun h => ⟨hb, by omega, ⟨g1, g2, g3⟩, by omega, g4, g5, fun i hi => h.1 i (by omega) hi⟩, fun h => ⟨fun i _ hi => h.2.2.2.2.2.2 i hi, trivial⟩⟩)
                      · rw [decide_eq_false g5]
                        exact no2 (fun g => g5 g.2.2.2.2.2.1)
                    · rw [if_neg g4]
                      exact no2 (fun g => g4 g.2.2.2.2.1)
                · rw [if_neg c1]
                  exact no2 (fun g => by have := g.2.2.2.1; omega)
              · rw [decide_eq_false g3]
                exact no1 _ (fun g => g3 g.2.2.1.2.2)
            · rw [if_neg g2]
              exact no1 _ (fun g => g2 g.2.2.1.2.1)
          · rw [if_neg g1]
            exact no1 _ (fun g => g1 g.2.2.1.1)
        · have e4 : ((acc.length : Int) != (base.length : Int)) = true := bne_iff_ne.2 h4
          rw [e4]
          exact no _ (fun g => by have := g.2.1; omega)
      · rw [if_neg h3]
        exact no _ (fun g => by have := g.2.1; omega)
    · rw [if_neg h1]
      exact no _ (fun g => by have := g.2.1; omega)
  · rw [if_neg hb]
    exact no _ (fun g => hb g.1)

theorem wf8 {a : Int} (h : (Lit.int .u8 a).wf = true) : 0 ≤ a ∧ a ≤ 255 := by
  simp [Lit.wf, IntKind.min, IntKind.max, IntKind.signed, IntKind.bits] at h
  omega
theorem inR_at {l : List Int} {a b : Int} (h : inR l a b) {i : Int} (h0 : 0 ≤ i) (h1 : i < l.length) : a ≤ rd l i ∧ rd l i ≤ b := by
  have := h i.toNat (by omega)
  rwa [Int.toNat_of_nonneg h0] at this
/-- a step in packed rows -/
def nextM (base dflt chk val : List Int) (a c : Int) : Int := if rd base a + c < chk.length ∧ rd chk (rd base a + c) = a then rd val (rd base a + c) else rd dflt a
theorem sStep {b base dflt chk val acc : List Int} (h : packedOk b base dflt chk val acc) {a c : Int} (a0 : 0 ≤ a) (a1 : a < base.length) (c0 : 0 ≤ c) (c1 : c < 256) :
    spec_l10Next.f b base dflt chk val acc a c = some (nextM base dflt chk val a c) := by
  have hb := inR_at h.2.2.1.1 a0 a1
  have hl := h.2.1.2.2.1
  have hv := h.2.2.2.1.1
  unfold spec_l10Next.f nextM
  rw [w64 (by omega) (by omega), if_pos a0, if_pos a1]
  by_cases h1 : rd base a + c < chk.length
  · rw [if_pos h1, if_pos (by omega)]
    by_cases h2 : rd chk (rd base a + c) = a
    · rw [if_pos h2, if_pos (by omega), if_pos ⟨h1, h2⟩]
    · rw [if_neg h2, if_pos (by omega), if_neg (fun g => h2 g.2)]
  · rw [if_neg h1, if_pos (by omega), if_neg (fun g => h1 g.1)]
theorem iStep {b base dflt chk val acc : List Int} (h : packedOk b base dflt chk val acc) {a c : Int} (a0 : 0 ≤ a) (a1 : a < base.length) (c0 : 0 ≤ c) (c1 : c < 256) :
    impl_Packed_next.f b base dflt chk val acc a c = some (nextM base dflt chk val a c) := by
  have hb := inR_at h.2.2.1.1 a0 a1
  have hl := h.2.1.2.2.1
  have hv := h.2.2.2.1.1
  unfold impl_Packed_next.f nextM impl_size_int64.f
  simp only [Option.bind_some]
  rw [w64 (by omega) (by omega), if_pos a0, if_pos a1]
  by_cases h1 : rd base a + c < chk.length
  · rw [if_pos h1, if_pos (by omega), if_pos h1]
    by_cases h2 : rd chk (rd base a + c) = a
    · rw [if_pos h2, if_pos (by omega), if_pos ⟨h1, h2⟩]
    · rw [if_neg h2, if_pos (by omega), if_neg (fun g => h2 g.2)]
  · rw [if_neg h1, if_pos (by omega), if_neg (fun g => h1 g.1)]
theorem blk {b base dflt chk val acc : List Int} (h : packedOk b base dflt chk val acc) {c : Int} (c0 : 0 ≤ c) (c1 : c < 256) : c < b.length ∧ 0 ≤ rd b c ∧ rd b c < 256 := by
  obtain ⟨m, hm⟩ := Option.isSome_iff_exists.1 h.1
  have hb := blocksM_some hm
  have hc := hb.2.2.2 c.toNat (by omega)
  rw [Int.toNat_of_nonneg c0] at hc
  exact ⟨by omega, by omega, by omega⟩
open Classical in
noncomputable def nextInM (b base dflt chk val acc : List Int) (a c : Int) : Int := if packedOk b base dflt chk val acc ∧ 0 ≤ a ∧ a ≤ (base.length : Int) - 1 then nextM base dflt chk val a (rd b c) else -1
open Classical in
theorem sNextIn (b base dflt chk val acc : List Int) (hl : base.length ≤ 1048576) (a c : Int) (c0 : 0 ≤ c) (c1 : c < 256) (k : Nat) (hk : 2000000 ≤ k) : spec_NextIn.f k b base dflt chk val acc a c = some (nextInM b base dflt chk val acc a c) := by
  unfold spec_NextIn.f
  rw [sPackedOk b base dflt chk val acc k (by omega), sIn, w64 (by omega) (by omega)]
  simp only [Option.bind_some]
  unfold nextInM
  by_cases h : packedOk b base dflt chk val acc
  · rw [decide_eq_true h, if_pos rfl]
    by_cases ha : 0 ≤ a ∧ a ≤ (base.length : Int) - 1
    · have hc := blk h c0 c1
      rw [decide_eq_true ha, if_pos rfl, if_pos c0, if_pos hc.1, sStep h ha.1 (by omega) hc.2.1 hc.2.2, if_pos ⟨h, ha⟩]
      rfl
    · rw [decide_eq_false ha, if_neg (by simp), if_neg (fun g => ha g.2)]
  · rw [decide_eq_false h, if_neg (by simp), if_neg (fun g => h g.1)]
open Classical in
theorem iNextIn (b base dflt chk val acc : List Int) (hbl : b.length ≤ 1048576) (hl : base.length ≤ 1048576) (a c : Int) (c0 : 0 ≤ c) (c1 : c < 256) (k : Nat) (hk : 2000000 ≤ k) : impl_NextIn.f k b base dflt chk val acc a c = some (nextInM b base dflt chk val acc a c) := by
  unfold impl_NextIn.f impl_size_int64.f
  rw [iPackedOk b base dflt chk val acc hbl k (by omega)]
  simp only [Option.bind_some]
  rw [iWithin, w64 (by omega) (by omega)]
  simp only [Option.bind_some]
  unfold nextInM
  by_cases ha : 0 ≤ a ∧ a ≤ (base.length : Int) - 1
  · rw [decide_eq_true ha, if_pos rfl]
    by_cases h : packedOk b base dflt chk val acc
    · have hc := blk h c0 c1
      rw [decide_eq_true h, if_pos rfl, if_pos c0, if_pos hc.1, iStep h ha.1 (by omega) hc.2.1 hc.2.2, if_pos ⟨h, ha⟩]
      rfl
    · rw [decide_eq_false h, if_neg (by simp), if_neg (fun g => h g.1)]
  · rw [decide_eq_false ha, if_neg (by simp), if_neg (fun g => ha g.2)]
theorem FnExactNextIn (x : List Int × List Int × List Int × List Int × List Int × List Int) (g : gd_Int64S x.1 ∧ gd_Int64S x.2.1 ∧ gd_Int64S x.2.2.1 ∧ gd_Int64S x.2.2.2.1 ∧ gd_Int64S x.2.2.2.2.1 ∧ gd_Int64S x.2.2.2.2.2)
    (a : Int) (_ : (Lit.int .i64 a).wf = true) (c : Int) (hc : (Lit.int .u8 c).wf = true) :
    ∃ k, laws_FnExactNextIn.f k x.1 x.2.1 x.2.2.1 x.2.2.2.1 x.2.2.2.2.1 x.2.2.2.2.2 a c = some true := by
  obtain ⟨b, base, dflt, chk, val, acc⟩ := x
  suffices ∀ k, 10000000 ≤ k → laws_FnExactNextIn.f k b base dflt chk val acc a c = some true from ⟨10000000, this _ (Nat.le_refl _)⟩
  intro k hk
  have hc := wf8 hc
  obtain ⟨r, e, _, _, h⟩ := szL_Packed k (by omega) b base dflt chk val acc g 1048576 (by omega)
  unfold laws_FnExactNextIn.f
  first | rw [e] | (rw [show laws_szPacked.f b base dflt chk val acc 1048576 = some r from e])
  simp only [Option.bind_some]
  by_cases hr : r < 0
  · rw [if_pos hr]
  · have hb := h (by omega)
    rw [if_neg hr, toL_Packed k (by omega) b base dflt chk val acc hb]
    simp only [Option.bind_some]
    rw [sNextIn b base dflt chk val acc hb.2.1 a c hc.1 (by omega) k (by omega), iNextIn b base dflt chk val acc hb.1 hb.2.1 a c hc.1 (by omega) k (by omega)]
    simp only [Option.bind_some]
    rw [eqL_Packed k (by omega) b base dflt chk val acc hb]
    simp
end Go.Proofs.Ytledhlgfiekmgaa.Pure
