/- The program's Folded and the reference's come to one expression: whatever the nodes. -/
import Derived.Test.YtbijmhooamjgoaaPFnExactFoldedx14
import Derived.Test.YtbijmhooamjgoaaKit
import Derived.Test.YtbijmhooamjgoaaKitClass
namespace Go.Proofs.Ytbijmhooamjgoaa.Pure
open Go.RowKit Go.Proofs.Ytbijmhooamjgoaa.PFnExactFolded Go.Proofs.YtbijmhooamjgoaaW.PrintWords Go.Proofs.YtbijmhooamjgoaaW.PrintLast Go.Proofs.YtbijmhooamjgoaaW.PrintMore Go.Proofs.Ytbijmhooamjgoaa.Kit
set_option linter.unusedVariables false
theorem sIn (a b c : Int) : spec_l1In.f a b c = some (decide (b ≤ a ∧ a ≤ c)) := by
  unfold spec_l1In.f
  by_cases h : a ≥ b
  · rw [if_pos h]; congr 1; simp; omega
  · rw [if_neg h]; congr 1; simp; omega
theorem iWithin (a b c : Int) : impl_within.f a b c = some (decide (b ≤ a ∧ a ≤ c)) := by
  unfold impl_within.f
  by_cases h : a ≥ b
  · rw [if_pos h]; congr 1; simp; omega
  · rw [if_neg h]; congr 1; simp; omega
def toP (x : S33) : Int × Int := (x.f0, x.f1)
theorem toP_lo (l : List S33) (i : Int) : (rd_T33 l i).f0 = lo (l.map toP) i.toNat := by
  unfold rd_T33 lo
  rw [List.getD_eq_getElem?_getD, List.getD_eq_getElem?_getD, List.getElem?_map]
  cases l[i.toNat]? <;> rfl
theorem toP_hi (l : List S33) (i : Int) : (rd_T33 l i).f1 = hi (l.map toP) i.toNat := by
  unfold rd_T33 hi
  rw [List.getD_eq_getElem?_getD, List.getD_eq_getElem?_getD, List.getElem?_map]
  cases l[i.toNat]? <;> rfl
def gd_Span (x : S195) : Prop := ((Lit.int .i64 x.f0).wf = true) ∧ ((Lit.int .i64 x.f1).wf = true)
def c_Span (x : S195) : S33 := ⟨x.f0, x.f1⟩
def gd_SpanS (x : List S195) : Prop := x.length ≤ maxLen ∧ ∀ y ∈ x, gd_Span y
def bd_SpanS (x : List S195) : Prop := x.length ≤ 1048576
def bi_SpanS (x : List S33) : Prop := x.length ≤ 1048576
def gd_Int64S (x : List Int) : Prop := x.length ≤ maxLen ∧ ∀ y ∈ x, (Lit.int .i64 y).wf = true
def bd_Int64S (x : List Int) : Prop := x.length ≤ 1048576
def bi_Int64S (x : List Int) : Prop := x.length ≤ 1048576
def gd_RNode (x : S235) : Prop := ((Lit.int .i64 x.f0).wf = true) ∧ (x.f1.length ≤ maxLen ∧ ∀ y ∈ x.f1, gd_Span y) ∧ (x.f2.length ≤ maxLen ∧ ∀ y ∈ x.f2, (Lit.int .i64 y).wf = true) ∧ ((Lit.int .i64 x.f3).wf = true) ∧ ((Lit.int .i64 x.f4).wf = true)
def bd_RNode (x : S235) : Prop := (x.f1.length ≤ 1048576) ∧ (x.f2.length ≤ 1048576)
def bi_RNode (x : S181) : Prop := (x.f1.length ≤ 1048576) ∧ (x.f2.length ≤ 1048576)
def c_RNode (x : S235) : S181 := ⟨x.f0, x.f1.map c_Span, x.f2, x.f3, x.f4⟩
theorem bi_of_RNode (x : S235) (h : bd_RNode x) : bi_RNode (c_RNode x) := ⟨(by show (List.map _ _).length ≤ _; rw [List.length_map]; exact h.1), h.2⟩
def gd_RNodeS (x : List S235) : Prop := x.length ≤ maxLen ∧ ∀ y ∈ x, gd_RNode y
def bd_RNodeS (x : List S235) : Prop := x.length ≤ 1048576 ∧ ∀ y ∈ x, bd_RNode y
def bi_RNodeS (x : List S181) : Prop := x.length ≤ 1048576 ∧ ∀ y ∈ x, bi_RNode y
def gd_Rx (x : S102) : Prop := (x.f0.length ≤ maxLen ∧ ∀ y ∈ x.f0, gd_RNode y)
def bd_Rx (x : S102) : Prop := (x.f0.length ≤ 1048576 ∧ ∀ y ∈ x.f0, bd_RNode y)
def bi_Rx (x : S106) : Prop := (x.f0.length ≤ 1048576 ∧ ∀ y ∈ x.f0, bi_RNode y)
def c_Rx (x : S102) : S106 := ⟨x.f0.map c_RNode⟩
theorem bi_of_Rx (x : S102) (h : bd_Rx x) : bi_Rx (c_Rx x) := ⟨by show (List.map _ _).length ≤ _; rw [List.length_map]; exact (h).1, fun y hy => by obtain ⟨z, hz, rfl⟩ := List.mem_map.1 hy; exact bi_of_RNode z ((h).2 z hz)⟩
theorem szL_SpanS (k : Nat) (hk : 1048578 ≤ k) (l : List S195) (g : l.length ≤ maxLen ∧ ∀ y ∈ l, gd_Span y) (n : Int) (hn : 0 ≤ n ∧ n ≤ 1048576) : ∃ r, laws_szSpanS.f l n = some r ∧ -1 ≤ r ∧ r ≤ n ∧ (0 ≤ r → l.length ≤ 1048576) := by
  have hl := g.1
  unfold maxLen at hl
  unfold laws_szSpanS.f
  rw [w64 (by omega) (by omega)]
  by_cases h : n - (l.length : Int) < 0
  · rw [if_pos h]; exact ⟨-1, rfl, by omega, by omega, fun h => by omega⟩
  · rw [if_neg h]; exact ⟨_, rfl, by omega, by omega, fun _ => by omega⟩
theorem szL_Int64S (k : Nat) (hk : 1048578 ≤ k) (l : List Int) (g : l.length ≤ maxLen ∧ ∀ y ∈ l, (Lit.int .i64 y).wf = true) (n : Int) (hn : 0 ≤ n ∧ n ≤ 1048576) : ∃ r, laws_szInt64S.f l n = some r ∧ -1 ≤ r ∧ r ≤ n ∧ (0 ≤ r → l.length ≤ 1048576) := by
  have hl := g.1
  unfold maxLen at hl
  unfold laws_szInt64S.f
  rw [w64 (by omega) (by omega)]
  by_cases h : n - (l.length : Int) < 0
  · rw [if_pos h]; exact ⟨-1, rfl, by omega, by omega, fun h => by omega⟩
  · rw [if_neg h]; exact ⟨_, rfl, by omega, by omega, fun _ => by omega⟩
theorem szL_RNode (k : Nat) (hk : 1048578 ≤ k) (f0 : Int) (f1 : List S195) (f2 : List Int) (f3 : Int) (f4 : Int) (g : ((Lit.int .i64 f0).wf = true) ∧ (f1.length ≤ maxLen ∧ ∀ y ∈ f1, gd_Span y) ∧ (f2.length ≤ maxLen ∧ ∀ y ∈ f2, (Lit.int .i64 y).wf = true) ∧ ((Lit.int .i64 f3).wf = true) ∧ ((Lit.int .i64 f4).wf = true)) (n : Int) (hn : 0 ≤ n ∧ n ≤ 1048576) : ∃ r, laws_szRNode.f f0 f1 f2 f3 f4 n = some r ∧ -1 ≤ r ∧ r ≤ n ∧ (0 ≤ r → (f1.length ≤ 1048576) ∧ (f2.length ≤ 1048576)) := by
  unfold laws_szRNode.f
  obtain ⟨r1, e1, a1, b1, d1⟩ := szL_SpanS k (by omega) f1 g.2.1 n (by omega)
  rw [e1]
  simp only [Option.bind_some]
  by_cases c1 : r1 < 0
  · rw [if_pos c1]; exact ⟨-1, rfl, by omega, by omega, fun h => by omega⟩
  rw [if_neg c1]
  obtain ⟨r2, e2, a2, b2, d2⟩ := szL_Int64S k (by omega) f2 g.2.2.1 r1 (by omega)
  rw [e2]
  simp only [Option.bind_some]
  by_cases c2 : r2 < 0
  · rw [if_pos c2]; exact ⟨-1, rfl, by omega, by omega, fun h => by omega⟩
  rw [if_neg c2]
  exact ⟨r2, rfl, by omega, by omega, fun _ => ⟨(d1 (by omega)), (d2 (by omega))⟩⟩
theorem szL_RNodeS_l (l : List S235) (g : ∀ y ∈ l, gd_RNode y) (hl : l.length ≤ 1048576) (d : Nat) : ∀ (k : Nat) (x i : Int), d + 1048578 < k → 0 ≤ i → (l.length : Int) - i = d → 0 ≤ x → x ≤ 1048576 →
    ∃ r, laws_szRNodeS.l0 k l x i = some r ∧ -1 ≤ r ∧ r ≤ x ∧ (0 ≤ r → ∀ j : Nat, i ≤ (j : Int) → (h : j < l.length) → bd_RNode l[j]) := by
  induction d with
  | zero =>
    intro k x i hk h0 hd g0 g1
    obtain ⟨k, rfl⟩ : ∃ m, k = m + 1 := ⟨k - 1, by omega⟩
    refine ⟨x, ?_, by omega, by omega, fun _ j h1 h2 => by omega⟩
    simp only [laws_szRNodeS.l0]
    rw [if_neg (by omega)]
  | succ d ih =>
    intro k x i hk h0 hd g0 g1
    obtain ⟨k, rfl⟩ : ∃ m, k = m + 1 := ⟨k - 1, by omega⟩
    have hi : i.toNat < l.length := by omega
    have e : rd_T235 l i = l[i.toNat] := by
      unfold rd_T235
      rw [List.getD_eq_getElem?_getD, List.getElem?_eq_getElem hi]
      rfl
    have hg := g l[i.toNat] (List.getElem_mem hi)
    obtain ⟨r, er, r1, r2, r3⟩ := szL_RNode k (by omega) l[i.toNat].f0 l[i.toNat].f1 l[i.toNat].f2 l[i.toNat].f3 l[i.toNat].f4 hg x ⟨g0, g1⟩
    simp only [laws_szRNodeS.l0, e]
    rw [if_pos (by omega), if_pos h0, er]
    simp only [Option.bind_some]
    by_cases hr : r < 0
    · rw [if_pos hr]; exact ⟨-1, rfl, by omega, by omega, fun h => by omega⟩
    · rw [if_neg hr, w64 (by omega) (by omega)]
      obtain ⟨q, eq, q1, q2, q3⟩ := ih k r (i + 1) (by omega) (by omega) (by omega) (by omega) (by omega)
      refine ⟨q, eq, q1, by omega, fun h j h1 h2 => ?_⟩
      by_cases hj : (j : Int) = i
      · have : j = i.toNat := by omega
        subst this; exact r3 (by omega)
      · exact q3 h j (by omega) h2
theorem szL_RNodeS (k : Nat) (hk : 2097156 ≤ k) (l : List S235) (g : l.length ≤ maxLen ∧ ∀ y ∈ l, gd_RNode y) (n : Int) (hn : 0 ≤ n ∧ n ≤ 1048576) : ∃ r, laws_szRNodeS.f k l n = some r ∧ -1 ≤ r ∧ r ≤ n ∧ (0 ≤ r → l.length ≤ 1048576 ∧ ∀ y ∈ l, bd_RNode y) := by
  have hl := g.1
  unfold maxLen at hl
  unfold laws_szRNodeS.f
  rw [w64 (x := n - (l.length : Int)) (by omega) (by omega)]
  by_cases h : n - (l.length : Int) < 0
  · rw [if_pos h]; exact ⟨-1, rfl, by omega, by omega, fun h => by omega⟩
  · rw [if_neg h]
    obtain ⟨r, e, r1, r2, r3⟩ := szL_RNodeS_l l g.2 (by omega) l.length k (n - (l.length : Int)) 0 (by omega) (by omega) (by omega) (by omega) (by omega)
    exact ⟨r, e, r1, by omega, fun hr => ⟨by omega, fun y hy => by
      obtain ⟨j, hj, rfl⟩ := List.mem_iff_getElem.1 hy
      exact r3 hr j (by omega) hj⟩⟩
theorem szL_Rx (k : Nat) (hk : 2097156 ≤ k) (f0 : List S235) (g : (f0.length ≤ maxLen ∧ ∀ y ∈ f0, gd_RNode y)) (n : Int) (hn : 0 ≤ n ∧ n ≤ 1048576) : ∃ r, laws_szRx.f k f0 n = some r ∧ -1 ≤ r ∧ r ≤ n ∧ (0 ≤ r → (f0.length ≤ 1048576 ∧ ∀ y ∈ f0, bd_RNode y)) := by
  unfold laws_szRx.f
  obtain ⟨r1, e1, a1, b1, d1⟩ := szL_RNodeS k (by omega) f0 g n (by omega)
  rw [e1]
  simp only [Option.bind_some]
  by_cases c1 : r1 < 0
  · rw [if_pos c1]; exact ⟨-1, rfl, by omega, by omega, fun h => by omega⟩
  rw [if_neg c1]
  exact ⟨r1, rfl, by omega, by omega, fun _ => (d1 (by omega))⟩
theorem toL_Span (k : Nat) (hk : 0 ≤ k) (f0 : Int) (f1 : Int) (g : True) : laws_toSpan.f f0 f1 = some (f0, f1) := by
  unfold laws_toSpan.f
  all_goals (first | rfl | simp)
theorem toL_SpanS_l (l : List S195) (hl : l.length ≤ 1048576) (d : Nat) : ∀ (k : Nat) (acc : List S33) (i : Int), d + 0 < k → 0 ≤ i → (l.length : Int) - i = d → acc.length = l.length →
    laws_toSpanS.l0 k l acc i = some (acc.take i.toNat ++ (l.map c_Span).drop i.toNat) := by
  induction d with
  | zero =>
    intro k acc i hk h0 hd ha
    obtain ⟨k, rfl⟩ : ∃ m, k = m + 1 := ⟨k - 1, by omega⟩
    simp only [laws_toSpanS.l0]
    rw [if_neg (by omega), List.take_of_length_le (by omega), List.drop_eq_nil_of_le (by first | omega | (rw [List.length_map]; omega)), List.append_nil]
  | succ d ih =>
    intro k acc i hk h0 hd ha
    obtain ⟨k, rfl⟩ : ∃ m, k = m + 1 := ⟨k - 1, by omega⟩
    have hi : i.toNat < l.length := by omega
    have e : rd_T195 l i = l[i.toNat] := by
      unfold rd_T195
      rw [List.getD_eq_getElem?_getD, List.getElem?_eq_getElem hi]
      rfl
    have ee := toL_Span k (by omega) l[i.toNat].f0 l[i.toNat].f1 trivial
    simp only [laws_toSpanS.l0, e]
    rw [if_pos (by omega), if_pos h0, ee]
    simp only [Option.bind_some]
    rw [if_pos (by omega), w64 (by omega) (by omega)]
    rw [ih k _ _ (by omega) (by omega) (by omega) (by simpa using ha)]
    have e1 : (i + 1).toNat = i.toNat + 1 := by omega
    rw [e1, List.take_succ_eq_append_getElem (by simp; omega), List.take_set_of_le (Nat.le_refl _), List.getElem_set_self, List.append_assoc, List.singleton_append]
    congr 2
    rw [List.drop_eq_getElem_cons (i := i.toNat) (by simpa using hi), List.getElem_map]
    try rfl
theorem toL_SpanS (k : Nat) (hk : 1048578 ≤ k) (l : List S195) (g : l.length ≤ 1048576) : laws_toSpanS.f k l = some (l.map c_Span) := by
  have hl : l.length ≤ 1048576 := g
  unfold laws_toSpanS.f
  rw [if_pos (by omega), if_pos (by omega), toL_SpanS_l l hl l.length k _ 0 (by omega) (by omega) (by omega) (by simp)]
  simp
theorem toL_Int64S_l (l : List Int) (hl : l.length ≤ 1048576) (d : Nat) : ∀ (k : Nat) (acc : List Int) (i : Int), d + 0 < k → 0 ≤ i → (l.length : Int) - i = d → acc.length = l.length →
    laws_toInt64S.l0 k l acc i = some (acc.take i.toNat ++ (l).drop i.toNat) := by
  induction d with
  | zero =>
    intro k acc i hk h0 hd ha
    obtain ⟨k, rfl⟩ : ∃ m, k = m + 1 := ⟨k - 1, by omega⟩
    simp only [laws_toInt64S.l0]
    rw [if_neg (by omega), List.take_of_length_le (by omega), List.drop_eq_nil_of_le (by first | omega | (rw [List.length_map]; omega)), List.append_nil]
  | succ d ih =>
    intro k acc i hk h0 hd ha
    obtain ⟨k, rfl⟩ : ∃ m, k = m + 1 := ⟨k - 1, by omega⟩
    have hi : i.toNat < l.length := by omega
    have e : rd l i = l[i.toNat] := by
      unfold rd
      rw [List.getD_eq_getElem?_getD, List.getElem?_eq_getElem hi]
      rfl
    simp only [laws_toInt64S.l0, e]
    rw [if_pos (by omega), if_pos h0, if_pos (by omega), w64 (by omega) (by omega), ih k _ _ (by omega) (by omega) (by omega) (by simpa using ha)]
    have e1 : (i + 1).toNat = i.toNat + 1 := by omega
    rw [e1, List.take_succ_eq_append_getElem (by simp; omega), List.take_set_of_le (Nat.le_refl _), List.getElem_set_self, List.append_assoc, List.singleton_append]
    congr 2
    rw [List.drop_eq_getElem_cons (i := i.toNat) hi]
theorem toL_Int64S (k : Nat) (hk : 1048578 ≤ k) (l : List Int) (g : l.length ≤ 1048576) : laws_toInt64S.f k l = some (l) := by
  have hl : l.length ≤ 1048576 := g
  unfold laws_toInt64S.f
  rw [if_pos (by omega), if_pos (by omega), toL_Int64S_l l hl l.length k _ 0 (by omega) (by omega) (by omega) (by simp)]
  simp
theorem toL_RNode (k : Nat) (hk : 1048578 ≤ k) (f0 : Int) (f1 : List S195) (f2 : List Int) (f3 : Int) (f4 : Int) (g : (f1.length ≤ 1048576) ∧ (f2.length ≤ 1048576)) : laws_toRNode.f k f0 f1 f2 f3 f4 = some (f0, f1.map c_Span, f2, f3, f4) := by
  unfold laws_toRNode.f
  rw [toL_SpanS k (by omega) f1 (g.1)]
  simp only [Option.bind_some]
  rw [toL_Int64S k (by omega) f2 (g.2)]
  simp only [Option.bind_some]
  all_goals (first | rfl | simp)
theorem toL_RNodeS_l (l : List S235) (g : ∀ y ∈ l, bd_RNode y) (hl : l.length ≤ 1048576) (d : Nat) : ∀ (k : Nat) (acc : List S181) (i : Int), d + 1048578 < k → 0 ≤ i → (l.length : Int) - i = d → acc.length = l.length →
    laws_toRNodeS.l0 k l acc i = some (acc.take i.toNat ++ (l.map c_RNode).drop i.toNat) := by
  induction d with
  | zero =>
    intro k acc i hk h0 hd ha
    obtain ⟨k, rfl⟩ : ∃ m, k = m + 1 := ⟨k - 1, by omega⟩
    simp only [laws_toRNodeS.l0]
    rw [if_neg (by omega), List.take_of_length_le (by omega), List.drop_eq_nil_of_le (by first | omega | (rw [List.length_map]; omega)), List.append_nil]
  | succ d ih =>
    intro k acc i hk h0 hd ha
    obtain ⟨k, rfl⟩ : ∃ m, k = m + 1 := ⟨k - 1, by omega⟩
    have hi : i.toNat < l.length := by omega
    have e : rd_T235 l i = l[i.toNat] := by
      unfold rd_T235
      rw [List.getD_eq_getElem?_getD, List.getElem?_eq_getElem hi]
      rfl
    have ee := toL_RNode k (by omega) l[i.toNat].f0 l[i.toNat].f1 l[i.toNat].f2 l[i.toNat].f3 l[i.toNat].f4 (g l[i.toNat] (List.getElem_mem hi))
    simp only [laws_toRNodeS.l0, e]
    rw [if_pos (by omega), if_pos h0, ee]
    simp only [Option.bind_some]
    rw [if_pos (by omega), w64 (by omega) (by omega)]
    rw [ih k _ _ (by omega) (by omega) (by omega) (by simpa using ha)]
    have e1 : (i + 1).toNat = i.toNat + 1 := by omega
    rw [e1, List.take_succ_eq_append_getElem (by simp; omega), List.take_set_of_le (Nat.le_refl _), List.getElem_set_self, List.append_assoc, List.singleton_append]
    congr 2
    rw [List.drop_eq_getElem_cons (i := i.toNat) (by simpa using hi), List.getElem_map]
    try rfl
theorem toL_RNodeS (k : Nat) (hk : 2097156 ≤ k) (l : List S235) (g : l.length ≤ 1048576 ∧ ∀ y ∈ l, bd_RNode y) : laws_toRNodeS.f k l = some (l.map c_RNode) := by
  have hl : l.length ≤ 1048576 := g.1
  unfold laws_toRNodeS.f
  rw [if_pos (by omega), if_pos (by omega), toL_RNodeS_l l g.2 hl l.length k _ 0 (by omega) (by omega) (by omega) (by simp)]
  simp
theorem toL_Rx (k : Nat) (hk : 2097156 ≤ k) (f0 : List S235) (g : (f0.length ≤ 1048576 ∧ ∀ y ∈ f0, bd_RNode y)) : laws_toRx.f k f0 = some (f0.map c_RNode) := by
  unfold laws_toRx.f
  rw [toL_RNodeS k (by omega) f0 (g)]
  simp only [Option.bind_some]
  all_goals (first | rfl | simp)
theorem eqL_Span (k : Nat) (hk : 0 ≤ k) (f0 : Int) (f1 : Int) (g : True) : laws_eqSpan.f f0 f1 f0 f1 = some true := by
  unfold laws_eqSpan.f
  simp
theorem eqL_SpanS_l (l : List S33) (hl : l.length ≤ 1048576) (d : Nat) : ∀ (k : Nat) (i : Int), d + 0 < k → 0 ≤ i → (l.length : Int) - i = d → laws_eqSpanS.l0 k l l i = some true := by
  induction d with
  | zero =>
    intro k i hk h0 hd
    obtain ⟨k, rfl⟩ : ∃ m, k = m + 1 := ⟨k - 1, by omega⟩
    simp only [laws_eqSpanS.l0]
    rw [if_neg (by omega)]
  | succ d ih =>
    intro k i hk h0 hd
    obtain ⟨k, rfl⟩ : ∃ m, k = m + 1 := ⟨k - 1, by omega⟩
    have hi : i.toNat < l.length := by omega
    have e : rd_T33 l i = l[i.toNat] := by
      unfold rd_T33
      rw [List.getD_eq_getElem?_getD, List.getElem?_eq_getElem hi]
      rfl
    have ee := eqL_Span k (by omega) l[i.toNat].f0 l[i.toNat].f1 trivial
    simp only [laws_eqSpanS.l0, e]
    rw [if_pos (by omega), if_pos h0, if_pos (by omega), ee]
    simp only [Option.bind_some, if_true]
    rw [w64 (by omega) (by omega)]
    exact ih k _ (by omega) (by omega) (by omega)
theorem eqL_SpanS (k : Nat) (hk : 1048578 ≤ k) (l : List S33) (g : l.length ≤ 1048576) : laws_eqSpanS.f k l l = some true := by
  have hl : l.length ≤ 1048576 := g
  unfold laws_eqSpanS.f
  simp only [if_true]
  exact eqL_SpanS_l l hl l.length k 0 (by omega) (by omega) (by omega)
theorem eqL_Int64S_l (l : List Int) (hl : l.length ≤ 1048576) (d : Nat) : ∀ (k : Nat) (i : Int), d + 0 < k → 0 ≤ i → (l.length : Int) - i = d → laws_eqInt64S.l0 k l l i = some true := by
  induction d with
  | zero =>
    intro k i hk h0 hd
    obtain ⟨k, rfl⟩ : ∃ m, k = m + 1 := ⟨k - 1, by omega⟩
    simp only [laws_eqInt64S.l0]
    rw [if_neg (by omega)]
  | succ d ih =>
    intro k i hk h0 hd
    obtain ⟨k, rfl⟩ : ∃ m, k = m + 1 := ⟨k - 1, by omega⟩
    have hi : i.toNat < l.length := by omega
    simp only [laws_eqInt64S.l0]
    rw [if_pos (by omega), if_pos h0, if_pos (by omega)]
    simp only [if_true]
    rw [w64 (by omega) (by omega)]
    exact ih k _ (by omega) (by omega) (by omega)
theorem eqL_Int64S (k : Nat) (hk : 1048578 ≤ k) (l : List Int) (g : l.length ≤ 1048576) : laws_eqInt64S.f k l l = some true := by
  have hl : l.length ≤ 1048576 := g
  unfold laws_eqInt64S.f
  simp only [if_true]
  exact eqL_Int64S_l l hl l.length k 0 (by omega) (by omega) (by omega)
theorem eqL_RNode (k : Nat) (hk : 1048578 ≤ k) (f0 : Int) (f1 : List S33) (f2 : List Int) (f3 : Int) (f4 : Int) (g : (f1.length ≤ 1048576) ∧ (f2.length ≤ 1048576)) : laws_eqRNode.f k f0 f1 f2 f3 f4 f0 f1 f2 f3 f4 = some true := by
  unfold laws_eqRNode.f
  simp [eqL_SpanS k (by omega) f1 (g.1), eqL_Int64S k (by omega) f2 (g.2)]
theorem eqL_RNodeS_l (l : List S181) (g : ∀ y ∈ l, bi_RNode y) (hl : l.length ≤ 1048576) (d : Nat) : ∀ (k : Nat) (i : Int), d + 1048578 < k → 0 ≤ i → (l.length : Int) - i = d → laws_eqRNodeS.l0 k l l i = some true := by
  induction d with
  | zero =>
    intro k i hk h0 hd
    obtain ⟨k, rfl⟩ : ∃ m, k = m + 1 := ⟨k - 1, by omega⟩
    simp only [laws_eqRNodeS.l0]
    rw [if_neg (by omega)]
  | succ d ih =>
    intro k i hk h0 hd
    obtain ⟨k, rfl⟩ : ∃ m, k = m + 1 := ⟨k - 1, by omega⟩
    have hi : i.toNat < l.length := by omega
    have e : rd_T181 l i = l[i.toNat] := by
      unfold rd_T181
      rw [List.getD_eq_getElem?_getD, List.getElem?_eq_getElem hi]
      rfl
    have ee := eqL_RNode k (by omega) l[i.toNat].f0 l[i.toNat].f1 l[i.toNat].f2 l[i.toNat].f3 l[i.toNat].f4 (g l[i.toNat] (List.getElem_mem hi))
    simp only [laws_eqRNodeS.l0, e]
    rw [if_pos (by omega), if_pos h0, if_pos (by omega), ee]
    simp only [Option.bind_some, if_true]
    rw [w64 (by omega) (by omega)]
    exact ih k _ (by omega) (by omega) (by omega)
theorem eqL_RNodeS (k : Nat) (hk : 2097156 ≤ k) (l : List S181) (g : l.length ≤ 1048576 ∧ ∀ y ∈ l, bi_RNode y) : laws_eqRNodeS.f k l l = some true := by
  have hl : l.length ≤ 1048576 := g.1
  unfold laws_eqRNodeS.f
  simp only [if_true]
  exact eqL_RNodeS_l l g.2 hl l.length k 0 (by omega) (by omega) (by omega)
theorem eqL_Rx (k : Nat) (hk : 2097156 ≤ k) (f0 : List S181) (g : (f0.length ≤ 1048576 ∧ ∀ y ∈ f0, bi_RNode y)) : laws_eqRx.f k f0 f0 = some true := by
  unfold laws_eqRx.f
  simp [eqL_RNodeS k (by omega) f0 (g)]
open Classical in
theorem iClassOk_l (l : List S33) (hl : l.length ≤ 1048576) (d : Nat) : ∀ (k : Nat) (i : Nat), d < k → l.length - i = d → i ≤ l.length → (∀ j, j < i → okAt (l.map toP) j) →
    impl_ClassOk.l0 k l l (l.length : Int) (i : Int) = some (decide (okFrom (l.map toP) i)) := by
  induction d with
  | zero =>
    intro k i hk hd hle _
    obtain ⟨k, rfl⟩ : ∃ m, k = m + 1 := ⟨k - 1, by omega⟩
    simp only [impl_ClassOk.l0]
    rw [if_neg (by omega), decide_eq_true (okFrom_end (by simp; omega))]
  | succ d ih =>
    intro k i hk hd hle hp
    obtain ⟨k, rfl⟩ : ∃ m, k = m + 1 := ⟨k - 1, by omega⟩
    have hlt : i < (l.map toP).length := by simp; omega
    have hst := okFrom_step (l := l.map toP) hlt
    have hne : ¬ okAt (l.map toP) i → decide (okFrom (l.map toP) i) = false := fun h => decide_eq_false (fun g => h (hst.1 g).1)
    simp only [impl_ClassOk.l0, toP_lo, toP_hi]
    rw [if_pos (by omega), if_pos (by omega), if_pos (by omega)]
    have ei : ((i : Nat) : Int).toNat = i := by omega
    rw [ei]
    by_cases h1 : lo (l.map toP) i < 0
    · rw [if_pos h1, hne (fun g => by have := g.1; omega)]
    · rw [if_neg h1]
      by_cases h2 : lo (l.map toP) i > hi (l.map toP) i
      · rw [if_pos h2, hne (fun g => by have := g.2.1; omega)]
      · rw [if_neg h2]
        by_cases h3 : hi (l.map toP) i > 255
        · rw [if_pos h3, hne (fun g => by have := g.2.2.1; omega)]
        · rw [if_neg h3]
          have en : wrap64 ((i : Int) + 1) = ((i + 1 : Nat) : Int) := by rw [w64 (by omega) (by omega)]; omega
          have go : okAt (l.map toP) i → impl_ClassOk.l0 k l l (l.length : Int) (wrap64 ((i : Int) + 1)) = some (decide (okFrom (l.map toP) i)) := by
            intro g
            rw [en, ih k (i + 1) (by omega) (by omega) (by omega) (fun j hj => by
              rcases Nat.lt_or_eq_of_le (Nat.le_of_lt_succ hj) with h | h
              · exact hp j h
              · exact h ▸ g)]
            congr 1
            exact decide_eq_decide.2 ⟨fun h => hst.2 ⟨g, h⟩, fun h => (hst.1 h).2⟩
          by_cases h4 : (i : Int) > 0
          · have hq := hp (i - 1) (by omega)
            have e1 : (wrap64 ((i : Int) - 1)) = ((i - 1 : Nat) : Int) := by rw [w64 (by omega) (by omega)]; omega
            have e2 : (((i - 1 : Nat) : Int)).toNat = i - 1 := by omega
            have q1 := hq.1
            have q2 := hq.2.1
            have q3 := hq.2.2.1
            rw [if_pos h4, e1, if_pos (by omega), if_pos (by omega), e2, w64 (x := hi (l.map toP) (i - 1) + 2) (by omega) (by omega)]
            by_cases h5 : lo (l.map toP) i < hi (l.map toP) (i - 1) + 2
            · rw [if_pos h5, hne (fun g => by have := g.2.2.2 (by omega); omega)]
            · rw [if_neg h5]
              exact go ⟨by omega, by omega, by omega, fun _ => by omega⟩
          · rw [if_neg h4]
            exact go ⟨by omega, by omega, by omega, fun h => by omega⟩
open Classical in
theorem iClassOk (l : List S33) (hl : l.length ≤ 1048576) (k : Nat) (hk : l.length < k) : impl_ClassOk.f k l = some (decide (classOk (l.map toP))) := by
  unfold impl_ClassOk.f
  have e : impl_ClassOk.l0 k l l (l.length : Int) 0 = some (decide (okFrom (l.map toP) 0)) := iClassOk_l l hl l.length k 0 hk (by omega) (by omega) (fun j hj => by omega)
  rw [e]
  congr 1
  exact decide_eq_decide.2 (okFrom_zero _)
open Classical in
theorem sClassOk_l (l : List S33) (hl : l.length ≤ 1048576) (d : Nat) : ∀ (k : Nat) (i : Nat), d < k → l.length - i = d → i ≤ l.length → (∀ j, j < i → okAt (l.map toP) j) →
    spec_ClassOk.l0 k l (i : Int) = some (decide (okFrom (l.map toP) i)) := by
  induction d with
  | zero =>
    intro k i hk hd hle _
    obtain ⟨k, rfl⟩ : ∃ m, k = m + 1 := ⟨k - 1, by omega⟩
    simp only [spec_ClassOk.l0]
    rw [if_neg (by omega), decide_eq_true (okFrom_end (by simp; omega))]
  | succ d ih =>
    intro k i hk hd hle hp
    obtain ⟨k, rfl⟩ : ∃ m, k = m + 1 := ⟨k - 1, by omega⟩
    have hlt : i < (l.map toP).length := by simp; omega
    have hst := okFrom_step (l := l.map toP) hlt
    have hne : ¬ okAt (l.map toP) i → decide (okFrom (l.map toP) i) = false := fun h => decide_eq_false (fun g => h (hst.1 g).1)
    simp only [spec_ClassOk.l0, toP_lo, toP_hi, sIn, Option.bind_some, decide_eq_true_eq]
    rw [if_pos (by omega), if_pos (by omega)]
    have ei : ((i : Nat) : Int).toNat = i := by omega
    rw [ei]
    by_cases h1 : 0 ≤ lo (l.map toP) i ∧ lo (l.map toP) i ≤ 255
    · rw [if_pos h1]
      by_cases h2 : lo (l.map toP) i ≤ hi (l.map toP) i ∧ hi (l.map toP) i ≤ 255
      · rw [if_pos h2]
        have en : wrap64 ((i : Int) + 1) = ((i + 1 : Nat) : Int) := by rw [w64 (by omega) (by omega)]; omega
        have go : okAt (l.map toP) i → spec_ClassOk.l0 k l (wrap64 ((i : Int) + 1)) = some (decide (okFrom (l.map toP) i)) := by
          intro g
          rw [en, ih k (i + 1) (by omega) (by omega) (by omega) (fun j hj => by
            rcases Nat.lt_or_eq_of_le (Nat.le_of_lt_succ hj) with h | h
            · exact hp j h
            · exact h ▸ g)]
          congr 1
          exact decide_eq_decide.2 ⟨fun h => hst.2 ⟨g, h⟩, fun h => (hst.1 h).2⟩
        by_cases h4 : (i : Int) > 0
        · have hq := hp (i - 1) (by omega)
          have e1 : (wrap64 ((i : Int) - 1)) = ((i - 1 : Nat) : Int) := by rw [w64 (by omega) (by omega)]; omega
          have e2 : (((i - 1 : Nat) : Int)).toNat = i - 1 := by omega
          have q1 := hq.1
          have q2 := hq.2.1
          have q3 := hq.2.2.1
          rw [if_pos h4, e1, if_pos (by omega), if_pos (by omega), e2, w64 (x := hi (l.map toP) (i - 1) + 2) (by omega) (by omega)]
          by_cases h5 : lo (l.map toP) i < hi (l.map toP) (i - 1) + 2
          · rw [if_pos h5, hne (fun g => by have := g.2.2.2 (by omega); omega)]
          · rw [if_neg h5]
            exact go ⟨by omega, by omega, by omega, fun _ => by omega⟩
        · rw [if_neg h4]
          exact go ⟨by omega, by omega, by omega, fun h => by omega⟩
      · rw [if_neg h2, hne (fun g => h2 ⟨g.2.1, g.2.2.1⟩)]
    · rw [if_neg h1, hne (fun g => h1 ⟨g.1, by have := g.2.1; have := g.2.2.1; omega⟩)]
open Classical in
theorem sClassOk (l : List S33) (hl : l.length ≤ 1048576) (k : Nat) (hk : l.length < k) : spec_ClassOk.f k l = some (decide (classOk (l.map toP))) := by
  unfold spec_ClassOk.f
  by_cases h : (l.length : Int) > 128
  · rw [if_pos h, decide_eq_false]
    intro g
    have := classOk_len g
    simp at this
    omega
  · rw [if_neg h]
    have e : spec_ClassOk.l0 k l 0 = some (decide (okFrom (l.map toP) 0)) := sClassOk_l l hl l.length k 0 hk (by omega) (by omega) (fun j hj => by omega)
    rw [e]
    congr 1
    exact decide_eq_decide.2 (okFrom_zero _)
theorem lo_snoc (l : List (Int × Int)) (v : Int × Int) (i : Nat) : lo (l ++ [v]) i = if i < l.length then lo l i else if i = l.length then v.1 else 0 := by
  unfold lo
  rw [List.getD_eq_getElem?_getD, List.getD_eq_getElem?_getD, List.getElem?_append]
  by_cases h : i < l.length
  · rw [if_pos h, if_pos h]
  · rw [if_neg h, if_neg h]
    by_cases e : i = l.length
    · rw [if_pos e, e, Nat.sub_self]; rfl
    · rw [if_neg e, List.getElem?_eq_none (by simp; omega)]; rfl
theorem hi_snoc (l : List (Int × Int)) (v : Int × Int) (i : Nat) : hi (l ++ [v]) i = if i < l.length then hi l i else if i = l.length then v.2 else 0 := by
  unfold hi
  rw [List.getD_eq_getElem?_getD, List.getD_eq_getElem?_getD, List.getElem?_append]
  by_cases h : i < l.length
  · rw [if_pos h, if_pos h]
  · rw [if_neg h, if_neg h]
    by_cases e : i = l.length
    · rw [if_pos e, e, Nat.sub_self]; rfl
    · rw [if_neg e, List.getElem?_eq_none (by simp; omega)]; rfl
theorem lo_set (l : List (Int × Int)) (v : Int × Int) (j i : Nat) (hj : j < l.length) : lo (l.set j v) i = if i = j then v.1 else lo l i := by
  unfold lo
  rw [List.getD_eq_getElem?_getD, List.getD_eq_getElem?_getD]
  by_cases e : i = j
  · rw [if_pos e, e, List.getElem?_set_self hj]; rfl
  · rw [if_neg e, List.getElem?_set_ne (fun h => e h.symm)]
theorem hi_set (l : List (Int × Int)) (v : Int × Int) (j i : Nat) (hj : j < l.length) : hi (l.set j v) i = if i = j then v.2 else hi l i := by
  unfold hi
  rw [List.getD_eq_getElem?_getD, List.getD_eq_getElem?_getD]
  by_cases e : i = j
  · rw [if_pos e, e, List.getElem?_set_self hj]; rfl
  · rw [if_neg e, List.getElem?_set_ne (fun h => e h.symm)]
/-- the class of the marked bytes below b -/
structure ClOf (m : List Bool) (l : List (Int × Int)) (b : Nat) : Prop where
  ok : classOk l
  top : ∀ i, i < l.length → hi l i < b
  is : ∀ c, c < 256 → (InTo l l.length c ↔ c < b ∧ m.getD c false = true)
theorem ClOf.skip {m l b} (h : ClOf m l b) (hb : ¬ m.getD b false = true) : ClOf m l (b + 1) :=
  ⟨h.ok, fun i hi' => by have := h.top i hi'; omega, fun c hc => by
    rw [h.is c hc]
    constructor
    · rintro ⟨h1, h2⟩
      exact ⟨by omega, h2⟩
    · rintro ⟨h1, h2⟩
      refine ⟨?_, h2⟩
      by_cases e : c = b
      · subst e; exact absurd h2 hb
      · omega⟩
theorem ClOf.more {m l b} (h : ClOf m l b) (hb : m.getD b false = true) (hlt : b < 256) (n : Nat) (hn : l.length = n + 1) (hl : hi l n = (b : Int) - 1) : ClOf m (l.set n (lo l n, (b : Int))) (b + 1) := by
  have hlen : (l.set n (lo l n, (b : Int))).length = l.length := List.length_set
  have eL : ∀ i, lo (l.set n (lo l n, (b : Int))) i = lo l i := fun i => by
    rw [lo_set _ _ _ _ (by omega)]
    by_cases e : i = n
    · rw [if_pos e, e]
    · rw [if_neg e]
  have eH : ∀ i, hi (l.set n (lo l n, (b : Int))) i = if i = n then (b : Int) else hi l i := fun i => hi_set _ _ _ _ (by omega)
  refine ⟨fun i hi' => ?_, fun i hi' => ?_, fun c hc => ?_⟩
  · rw [hlen] at hi'
    have o := h.ok i hi'
    obtain ⟨o0, o1, o2, o3⟩ := o
    refine ⟨by rw [eL]; exact o0, ?_, ?_, fun h0 => ?_⟩
    · rw [eL, eH]
      by_cases e : i = n
      · subst e; rw [if_pos rfl]; omega
      · rw [if_neg e]; exact o1
    · rw [eH]
      by_cases e : i = n
      · rw [if_pos e]; omega
      · rw [if_neg e]; exact o2
    · rw [eL, eH, if_neg (by omega)]
      exact o3 h0
  · rw [hlen] at hi'
    have := h.top i hi'
    rw [eH]
    by_cases e : i = n
    · rw [if_pos e]; omega
    · rw [if_neg e]; omega
  · rw [hlen]
    have key : InTo (l.set n (lo l n, (b : Int))) l.length c ↔ InTo l l.length c ∨ c = b := by
      constructor
      · rintro ⟨i, h1, h2, h3⟩
        rw [eL] at h2
        rw [eH] at h3
        by_cases e : i = n
        · subst e
          rw [if_pos rfl] at h3
          by_cases e2 : c = b
          · exact .inr e2
          · exact .inl ⟨i, h1, h2, by omega⟩
        · rw [if_neg e] at h3
          exact .inl ⟨i, h1, h2, h3⟩
      · rintro (⟨i, h1, h2, h3⟩ | h1)
        · refine ⟨i, h1, by rw [eL]; exact h2, ?_⟩
          rw [eH]
          by_cases e : i = n
          · subst e; rw [if_pos rfl]; omega
          · rw [if_neg e]; exact h3
        · refine ⟨n, by omega, by rw [eL, h1]; have := (h.ok n (by omega)).2.1; omega, by rw [eH, if_pos rfl, h1]; omega⟩
    rw [key, h.is c hc]
    constructor
    · rintro (⟨h1, h2⟩ | h1)
      · exact ⟨by omega, h2⟩
      · subst h1; exact ⟨by omega, hb⟩
    · rintro ⟨h1, h2⟩
      by_cases e : c = b
      · exact .inr e
      · exact .inl ⟨by omega, h2⟩
theorem ClOf.new {m l b} (h : ClOf m l b) (hb : m.getD b false = true) (hlt : b < 256) (hl : ∀ n, l.length = n + 1 → hi l n ≠ (b : Int) - 1) : ClOf m (l ++ [((b : Int), (b : Int))]) (b + 1) := by
  have hlen : (l ++ [((b : Int), (b : Int))]).length = l.length + 1 := by simp
  refine ⟨fun i hi' => ?_, fun i hi' => ?_, fun c hc => ?_⟩
  · rw [hlen] at hi'
    by_cases e : i < l.length
    · obtain ⟨o0, o1, o2, o3⟩ := h.ok i e
      refine ⟨by rw [lo_snoc, if_pos e]; exact o0, by rw [lo_snoc, hi_snoc, if_pos e, if_pos e]; exact o1, by rw [hi_snoc, if_pos e]; exact o2, fun h0 => ?_⟩
      rw [lo_snoc, hi_snoc, if_pos e, if_pos (by omega)]
      exact o3 h0
    · have e2 : i = l.length := by omega
      subst e2
      refine ⟨?_, ?_, ?_, fun h0 => ?_⟩
      · rw [lo_snoc, if_neg e, if_pos rfl]; simp only; omega
      · rw [lo_snoc, hi_snoc, if_neg e, if_neg e, if_pos rfl]; exact Int.le_refl _
      · rw [hi_snoc, if_neg e, if_pos rfl]; simp only; omega
      · rw [lo_snoc, hi_snoc, if_neg e, if_pos (by omega), if_pos rfl]
        have h1 := h.top (l.length - 1) (by omega)
        have h2 := hl (l.length - 1) (by omega)
        simp only
        omega
  · rw [hlen] at hi'
    rw [hi_snoc]
    by_cases e : i < l.length
    · rw [if_pos e]; have := h.top i e; omega
    · rw [if_neg e, if_pos (by omega)]; simp only; omega
  · rw [hlen]
    have key : InTo (l ++ [((b : Int), (b : Int))]) (l.length + 1) c ↔ InTo l l.length c ∨ c = b := by
      constructor
      · rintro ⟨i, h1, h2, h3⟩
        rw [lo_snoc] at h2
        rw [hi_snoc] at h3
        by_cases e : i < l.length
        · rw [if_pos e] at h2 h3
          exact .inl ⟨i, e, h2, h3⟩
        · rw [if_neg e, if_pos (by omega)] at h2 h3
          simp only at h2 h3
          exact .inr (by omega)
      · rintro (⟨i, h1, h2, h3⟩ | h1)
        · exact ⟨i, by omega, by rw [lo_snoc, if_pos h1]; exact h2, by rw [hi_snoc, if_pos h1]; exact h3⟩
        · refine ⟨l.length, by omega, by rw [lo_snoc, if_neg (by omega), if_pos rfl, h1]; exact Int.le_refl _, by rw [hi_snoc, if_neg (by omega), if_pos rfl, h1]; exact Int.le_refl _⟩
    rw [key, h.is c hc]
    constructor
    · rintro (⟨h1, h2⟩ | h1)
      · exact ⟨by omega, h2⟩
      · subst h1; exact ⟨by omega, hb⟩
    · rintro ⟨h1, h2⟩
      by_cases e : c = b
      · exact .inr e
      · exact .inl ⟨by omega, h2⟩
theorem classR_l (m : List Bool) (hm : m.length = 256) (d : Nat) : ∀ (k : Nat) (acc : List S33) (b : Nat), d < k → 256 - b = d → b ≤ 256 → ClOf m (acc.map toP) b → ∃ r, spec_l1Class.l0 k m acc (b : Int) = some r ∧ ClOf m (r.map toP) 256 := by
  induction d with
  | zero =>
    intro k acc b hk hd hb ha
    obtain ⟨k, rfl⟩ : ∃ m, k = m + 1 := ⟨k - 1, by omega⟩
    obtain rfl : b = 256 := by omega
    simp only [spec_l1Class.l0]
    rw [if_neg (by omega)]
    exact ⟨acc, rfl, ha⟩
  | succ d ih =>
    intro k acc b hk hd hb ha
    obtain ⟨k, rfl⟩ : ∃ m, k = m + 1 := ⟨k - 1, by omega⟩
    have hl : acc.length ≤ 128 := by have := classOk_len ha.ok; simpa using this
    have eb : rdOf false m (b : Int) = m.getD b false := by unfold rdOf; rw [Int.toNat_natCast]
    simp only [spec_l1Class.l0, eb, toP_hi]
    rw [if_pos (by omega), if_pos (by omega), if_pos (by omega), nat_next (by omega)]
    by_cases h : m.getD b false = true
    · rw [if_pos h]
      have app : (∀ n, (acc.map toP).length = n + 1 → hi (acc.map toP) n ≠ (b : Int) - 1) → ∃ r, (if acc.length < 8796093022208 then spec_l1Class.l0 k m (acc ++ [(⟨(b : Int), (b : Int)⟩ : S33)]) ((b + 1 : Nat) : Int) else none) = some r ∧ ClOf m (r.map toP) 256 := by
        intro hn
        rw [if_pos (by omega)]
        refine ih k _ (b + 1) (by omega) (by omega) (by omega) ?_
        rw [List.map_append]
        exact ha.new h (by omega) hn
      by_cases h0 : (acc.length : Int) > 0
      · rw [if_pos h0, w64 (x := (acc.length : Int) - 1) (by omega) (by omega), if_pos (by omega), if_pos (by omega), w64 (x := (b : Int) - 1) (by omega) (by omega)]
        have en : (((acc.length : Int) - 1) : Int).toNat = acc.length - 1 := by omega
        rw [en]
        by_cases h1 : hi (acc.map toP) (acc.length - 1) = (b : Int) - 1
        · rw [if_pos h1]
          refine ih k _ (b + 1) (by omega) (by omega) (by omega) ?_
          have := ha.more h (by omega) (acc.length - 1) (by simp; omega) h1
          rw [List.map_set]
          have e3 : toP (⟨(rd_T33 acc ((acc.length : Int) - 1)).f0, (b : Int)⟩ : S33) = (lo (acc.map toP) (acc.length - 1), (b : Int)) := by
            unfold toP
            rw [toP_lo, en]
            rfl
          rw [e3]
          exact this
        · rw [if_neg h1]
          refine app (fun n hn => ?_)
          have : n = acc.length - 1 := by simp at hn; omega
          rw [this]
          exact h1
      · rw [if_neg h0]
        exact app (fun n hn => by simp at hn; omega)
    · rw [if_neg h]
      exact ih k _ (b + 1) (by omega) (by omega) (by omega) (ha.skip h)
/-- the class of marked bytes is right, and has just these -/
theorem classR (m : List Bool) (hm : m.length = 256) (k : Nat) (hk : 300 ≤ k) : ∃ r, spec_l1Class.f k m = some r ∧ classOk (r.map toP) ∧ ∀ c, c < 256 → (InTo (r.map toP) r.length c ↔ m.getD c false = true) := by
  obtain ⟨r, e, h⟩ := classR_l m hm 256 k [] 0 (by omega) (by omega) (by omega) ⟨fun i hi => by simp at hi, fun i hi => by simp at hi, fun c hc => ⟨fun ⟨i, h, _⟩ => by simp at h, fun h => by omega⟩⟩
  refine ⟨r, e, h.ok, fun c hc => ?_⟩
  have := h.is c hc
  rw [List.length_map] at this
  rw [this]
  exact ⟨fun h => h.2, fun h => ⟨hc, h⟩⟩
theorem spP_toP : spP = toP := rfl
/-- the flags of a class's bytes -/
def markOk (l : List S33) (m : List Bool) : Prop := m.length = 256 ∧ ∀ c, c < 256 → (m.getD c false = true ↔ InTo (l.map toP) l.length c)
theorem sMarks_l1 (l : List S33) (hok : classOk (l.map toP)) (i : Nat) (hi' : i < l.length) (K : Nat)
    (G : ∀ k m, K < k → m.length = 256 → (∀ c, c < 256 → (m.getD c false = true ↔ InTo (l.map toP) (i + 1) c)) → ∃ r, spec_l1Marks.l0 k l m ((i + 1 : Nat) : Int) = some r ∧ markOk l r) (e : Nat) :
    ∀ (k : Nat) (m : List Bool) (b : Int), K + e + 1 < k → (hi (l.map toP) i - b + 1).toNat = e → lo (l.map toP) i ≤ b → b ≤ hi (l.map toP) i + 1 → m.length = 256 → (∀ c, c < 256 → (m.getD c false = true ↔ InTo (l.map toP) i c ∨ (lo (l.map toP) i ≤ (c : Int) ∧ (c : Int) < b))) →
      ∃ r, spec_l1Marks.l1 k l m (i : Int) b = some r ∧ markOk l r := by
  have ho := hok i (by simpa using hi')
  have o0 := ho.1
  have o1 := ho.2.2.1
  have hl : l.length ≤ 128 := by have := classOk_len hok; simpa using this
  induction e with
  | zero =>
    intro k m b hk he hb0 hb1 hm hM
    obtain ⟨k, rfl⟩ : ∃ m, k = m + 1 := ⟨k - 1, by omega⟩
    simp only [spec_l1Marks.l1, toP_hi, Int.toNat_natCast]
    rw [if_pos (by omega), if_pos (by omega), if_neg (by omega), nat_next (by omega)]
    refine G k m (by omega) hm (fun c hc => ?_)
    rw [hM c hc, InTo_step]
    constructor
    · rintro (h | h)
      · exact .inl h
      · exact .inr (by omega)
    · rintro (h | h)
      · exact .inl h
      · exact .inr (by omega)
  | succ e ih =>
    intro k m b hk he hb0 hb1 hm hM
    obtain ⟨k, rfl⟩ : ∃ m, k = m + 1 := ⟨k - 1, by omega⟩
    simp only [spec_l1Marks.l1, toP_hi, Int.toNat_natCast]
    rw [if_pos (by omega), if_pos (by omega), if_pos (by omega), if_pos (by omega), if_pos (by omega), w64 (x := b + 1) (by omega) (by omega)]
    refine ih k _ (b + 1) (by omega) (by omega) (by omega) (by omega) (by simpa using hm) (fun c hc => ?_)
    rw [getD_set _ _ _ (by omega), hM c hc]
    constructor
    · rintro ((h | h) | h)
      · exact .inl h
      · exact .inr (by omega)
      · exact .inr (by omega)
    · rintro (h | h)
      · exact .inl (.inl h)
      · by_cases q : c = b.toNat
        · exact .inr q
        · exact .inl (.inr (by omega))
theorem sMarks_l0 (l : List S33) (hok : classOk (l.map toP)) (d : Nat) : ∀ (k i : Nat) (m : List Bool), d * 300 < k → l.length - i = d → i ≤ l.length → m.length = 256 → (∀ c, c < 256 → (m.getD c false = true ↔ InTo (l.map toP) i c)) →
    ∃ r, spec_l1Marks.l0 k l m (i : Int) = some r ∧ markOk l r := by
  have hl : l.length ≤ 128 := by have := classOk_len hok; simpa using this
  induction d with
  | zero =>
    intro k i m hk hd hi' hm hM
    obtain ⟨k, rfl⟩ : ∃ m, k = m + 1 := ⟨k - 1, by omega⟩
    obtain rfl : i = l.length := by omega
    simp only [spec_l1Marks.l0]
    rw [if_neg (by omega)]
    exact ⟨m, rfl, hm, hM⟩
  | succ d ih =>
    intro k i m hk hd hi' hm hM
    obtain ⟨k, rfl⟩ : ∃ m, k = m + 1 := ⟨k - 1, by omega⟩
    have ho := hok i (by simp; omega)
    have o0 := ho.1
    have o1 := ho.2.2.1
    have o2 := ho.2.1
    simp only [spec_l1Marks.l0, toP_lo, Int.toNat_natCast]
    rw [if_pos (by omega), if_pos (by omega)]
    refine sMarks_l1 l hok i (by omega) (d * 300) (fun k m hk hm hM => ih k (i + 1) m hk (by omega) (by omega) hm hM) _ k m _ ?_ rfl (Int.le_refl _) (by omega) hm (fun c hc => ?_)
    · omega
    · rw [hM c hc]
      constructor
      · exact .inl
      · rintro (h | h)
        · exact h
        · omega
theorem sMarks (l : List S33) (hok : classOk (l.map toP)) (k : Nat) (hk : 40000 ≤ k) : ∃ r, spec_l1Marks.f k l = some r ∧ markOk l r := by
  have hl : l.length ≤ 128 := by have := classOk_len hok; simpa using this
  unfold spec_l1Marks.f
  rw [if_pos (by omega)]
  refine sMarks_l0 l hok l.length k 0 _ (by omega) (by omega) (by omega) List.length_replicate (fun c hc => ?_)
  constructor
  · intro h
    rw [List.getD_eq_getElem?_getD, List.getElem?_replicate] at h
    split at h <;> simp at h
  · rintro ⟨i, h, _⟩
    omega
theorem class_l (m : List Bool) (hm : m.length = 256) (d : Nat) : ∀ (k : Nat) (acc : List S33) (b : Nat), d < k → 256 - b = d → b ≤ 256 → acc.length ≤ b → ∃ r, spec_l1Class.l0 k m acc (b : Int) = some r ∧ r.length ≤ 256 := by
  induction d with
  | zero =>
    intro k acc b hk hd hb ha
    obtain ⟨k, rfl⟩ : ∃ m, k = m + 1 := ⟨k - 1, by omega⟩
    simp only [spec_l1Class.l0]
    rw [if_neg (by omega)]
    exact ⟨acc, rfl, by omega⟩
  | succ d ih =>
    intro k acc b hk hd hb ha
    obtain ⟨k, rfl⟩ : ∃ m, k = m + 1 := ⟨k - 1, by omega⟩
    simp only [spec_l1Class.l0]
    rw [if_pos (by omega), if_pos (by omega), if_pos (by omega), nat_next (by omega)]
    have app : ∃ r, (if acc.length < 8796093022208 then spec_l1Class.l0 k m (acc ++ [(⟨(b : Int), (b : Int)⟩ : S33)]) ((b + 1 : Nat) : Int) else none) = some r ∧ r.length ≤ 256 := by
      rw [if_pos (by omega)]
      exact ih k _ (b + 1) (by omega) (by omega) (by omega) (by simp; omega)
    by_cases h : rdOf false m (b : Int) = true
    · rw [if_pos h]
      by_cases h0 : (acc.length : Int) > 0
      · rw [if_pos h0, w64 (x := (acc.length : Int) - 1) (by omega) (by omega), if_pos (by omega), if_pos (by omega)]
        by_cases h1 : (rd_T33 acc ((acc.length : Int) - 1)).f1 = wrap64 ((b : Int) - 1)
        · rw [if_pos h1]
          exact ih k _ (b + 1) (by omega) (by omega) (by omega) (by rw [List.length_set]; omega)
        · rw [if_neg h1]
          exact app
      · rw [if_neg h0]
        exact app
    · rw [if_neg h]
      exact ih k _ (b + 1) (by omega) (by omega) (by omega) (by omega)
theorem classS (m : List Bool) (hm : m.length = 256) (k : Nat) (hk : 300 ≤ k) : ∃ r, spec_l1Class.f k m = some r ∧ r.length ≤ 256 := by
  unfold spec_l1Class.f
  exact class_l m hm 256 k [] 0 (by omega) (by omega) (by omega) (by simp)
theorem class_at (m : List Bool) {r : List S33} {k : Nat} (h : spec_l1Class.f k m = some r) : ∀ j, spec_l1Class.f (k + j) m = some r
  | 0 => h
  | j + 1 => spec_l1Class.mono m (k + j) r (class_at m h j)
def kk (op : Int) : Int := if op = 3 ∨ op = 4 then 2 else if 5 ≤ op ∧ op ≤ 8 then 1 else 0
theorem sKids (k : Nat) (op : Int) : spec_l3Kids.f (k + 1) op = some (kk op) := by
  unfold spec_l3Kids.f kk
  by_cases h3 : op = 3
  · subst h3; simp [spec_l3Kids.j0]
  · rw [if_neg h3]
    by_cases h4 : op = 4
    · subst h4; simp [spec_l3Kids.j0]
    · have : (op == 4) = false := beq_eq_false_iff_ne.2 h4
      rw [this, if_neg (show ¬ (op = 3 ∨ op = 4) by omega)]
      simp only [spec_l3Kids.j0]
      rw [if_neg (by decide)]
      by_cases h5 : op = 5
      · rw [if_pos h5, if_pos (by omega)]
      · rw [if_neg h5]
        by_cases h6 : op = 6
        · rw [if_pos h6, if_pos (by omega)]
        · rw [if_neg h6]
          by_cases h7 : op = 7
          · rw [if_pos h7, if_pos (by omega)]
          · rw [if_neg h7]
            by_cases h8 : op = 8
            · rw [if_pos h8, if_pos (by omega)]
            · rw [if_neg h8, if_neg (by omega)]
theorem iKids (k : Nat) (op : Int) : impl_kidsOf.f (k + 2) op = some (if 1 ≤ op ∧ op ≤ 8 then kk op else -1) := by
  have e1 : impl_kidsOf.f (k + 2) op = impl_kidsOf.j0 (k + 2) op (decide (op = 1 ∨ op = 2)) := by
    unfold impl_kidsOf.f
    by_cases h : op = 1
    · rw [if_pos h]; congr 1; simp [h]
    · rw [if_neg h]; congr 1
      by_cases h2 : op = 2 <;> simp [h, h2]
  have e2 : ∀ k', (if op = 3 then impl_kidsOf.j1 k' op (op == 3) else impl_kidsOf.j1 k' op (op == 4)) = impl_kidsOf.j1 k' op (decide (op = 3 ∨ op = 4)) := by
    intro k'
    by_cases h : op = 3
    · rw [if_pos h]; congr 1; simp [h]
    · rw [if_neg h]; congr 1
      by_cases h2 : op = 4 <;> simp [h, h2]
  rw [e1]
  simp only [impl_kidsOf.j0]
  rw [e2]
  simp only [impl_kidsOf.j1, decide_eq_true_eq]
  unfold kk
  by_cases h12 : op = 1 ∨ op = 2
  · rw [if_pos h12, if_pos (by omega), if_neg (by omega), if_neg (by omega)]
  · rw [if_neg h12]
    by_cases h34 : op = 3 ∨ op = 4
    · rw [if_pos h34, if_pos (by omega), if_pos h34]
    · rw [if_neg h34]
      by_cases h58 : 5 ≤ op ∧ op ≤ 8
      · rw [if_pos (show 1 ≤ op ∧ op ≤ 8 by omega), if_neg h34, if_pos h58]
        by_cases h5 : op = 5
        · rw [if_pos h5]
        · rw [if_neg h5]
          by_cases h6 : op = 6
          · rw [if_pos h6]
          · rw [if_neg h6]
            by_cases h7 : op = 7
            · rw [if_pos h7]
            · rw [if_neg h7, if_pos (by omega)]
      · rw [if_neg (by omega), if_neg (by omega), if_neg (by omega), if_neg (by omega), if_neg (by omega)]
open Classical in
/-- what a node's last part answers -/
noncomputable def nodeT (op : Int) (set : List S33) (mn mx' : Int) : Bool :=
  decide (if op = 2 then classOk (set.map toP) ∧ set.length ≠ 0 else set.length = 0) && decide (if op = 8 then 0 ≤ mn ∧ mn ≤ 30 ∧ (mx' = -1 ∨ (mn ≤ mx' ∧ mx' ≤ 30 ∧ mx' ≠ 0)) else mn = 0 ∧ mx' = 0)
open Classical in
theorem sTail (k : Nat) (b : Bool) (op : Int) (set : List S33) (ks : List Int) (mn mx' : Int) : spec_l3Node.j2 (k + 1) b op set ks mn mx' = some (!b && decide (if op = 8 then 0 ≤ mn ∧ mn ≤ 30 ∧ (mx' = -1 ∨ (mn ≤ mx' ∧ mx' ≤ 30 ∧ mx' ≠ 0)) else mn = 0 ∧ mx' = 0)) := by
  simp only [spec_l3Node.j2, sIn, Option.bind_some, decide_eq_true_eq]
  cases b with
  | true => simp
  | false =>
    rw [if_neg (by decide)]
    simp only [Bool.not_false, Bool.true_and]
    by_cases h8 : op = 8
    · simp only [if_pos h8]
      by_cases h1 : 0 ≤ mn ∧ mn ≤ 30
      · rw [if_pos h1]
        by_cases h2 : mx' = -1
        · rw [if_pos h2, decide_eq_true (by omega)]
        · rw [if_neg h2]
          congr 1
          refine decide_eq_decide.2 ?_
          unfold mx
          split <;> omega
      · rw [if_neg h1, decide_eq_false (by omega)]
    · simp only [if_neg h8]
      by_cases h1 : mn = 0
      · rw [if_pos h1]
        by_cases h2 : mx' = 0 <;> simp [h1, h2]
      · rw [if_neg h1]; simp [h1]
open Classical in
theorem sNode_l (op : Int) (set : List S33) (ks : List Int) (mn mx' p : Int) (hs : set.length ≤ 1048576) (hp : 0 ≤ p ∧ p ≤ 1000000) (hl : ks.length ≤ 1048576) (d : Nat) : ∀ (k i : Nat), d + 1048580 < k → ks.length - i = d → i ≤ ks.length → (∀ j, j < i → 0 ≤ ks.getD j 0 ∧ ks.getD j 0 ≤ p - 1) →
    spec_l3Node.l0 k p (i : Int) op set ks mn mx' = some (decide (∀ x ∈ ks, 0 ≤ x ∧ x ≤ p - 1) && nodeT op set mn mx') := by
  induction d with
  | zero =>
    intro k i hk hd hi hm
    obtain ⟨k, rfl⟩ : ∃ m, k = m + 2 := ⟨k - 2, by omega⟩
    obtain rfl : i = ks.length := by omega
    simp only [spec_l3Node.l0]
    rw [if_neg (by omega), decide_eq_true (show ∀ x ∈ ks, 0 ≤ x ∧ x ≤ p - 1 from fun x hx => by
      obtain ⟨j, hj, rfl⟩ := List.mem_iff_getElem.1 hx
      have := hm j hj
      rw [List.getD_eq_getElem?_getD, List.getElem?_eq_getElem hj] at this
      exact this)]
    simp only [Bool.true_and]
    unfold nodeT
    by_cases h2 : op = 2
    · rw [if_pos h2, sClassOk set hs _ (by omega)]
      simp only [Option.bind_some, decide_eq_true_eq, sTail, if_pos h2]
      by_cases hc : classOk (set.map toP)
      · rw [if_pos hc]
        by_cases h0 : (set.length : Int) = 0
        · rw [if_pos h0]; have : set.length = 0 := by omega
          simp [this]
        · rw [if_neg h0]; have : set.length ≠ 0 := by omega
          rw [decide_eq_true (show classOk (set.map toP) ∧ set.length ≠ 0 from ⟨hc, this⟩)]; rfl
      · rw [if_neg hc]; simp [hc]
    · rw [if_neg h2, sTail]
      simp only [if_neg h2]
      congr 2
      by_cases h0 : set.length = 0
      · simp [h0]
      · rw [decide_eq_true (show (set.length : Int) > 0 by omega), decide_eq_false h0]; rfl
  | succ d ih =>
    intro k i hk hd hi hm
    obtain ⟨k, rfl⟩ : ∃ m, k = m + 1 := ⟨k - 1, by omega⟩
    have hlt : i < ks.length := by omega
    have er : rd ks (i : Int) = ks.getD i 0 := by unfold rd; rw [Int.toNat_natCast]
    simp only [spec_l3Node.l0, sIn, Option.bind_some, decide_eq_true_eq]
    rw [if_pos (by omega), if_pos (by omega), w64 (x := p - 1) (by omega) (by omega), er, nat_next (by omega)]
    by_cases h : 0 ≤ ks.getD i 0 ∧ ks.getD i 0 ≤ p - 1
    · rw [if_pos h]
      refine ih k (i + 1) (by omega) (by omega) (by omega) (fun j hj => ?_)
      rcases Nat.lt_or_eq_of_le (Nat.le_of_lt_succ hj) with g | g
      · exact hm j g
      · subst g; exact h
    · rw [if_neg h, decide_eq_false]
      · rfl
      · intro g
        refine h ?_
        rw [List.getD_eq_getElem?_getD, List.getElem?_eq_getElem hlt]
        exact g _ (List.getElem_mem hlt)
open Classical in
/-- what a node answers -/
noncomputable def nodeB (op : Int) (set : List S33) (ks : List Int) (mn mx' p : Int) : Bool :=
  decide (1 ≤ op ∧ op ≤ 8) && decide ((ks.length : Int) = kk op) && (decide (∀ x ∈ ks, 0 ≤ x ∧ x ≤ p - 1) && nodeT op set mn mx')
open Classical in
theorem sNode (op : Int) (set : List S33) (ks : List Int) (mn mx' p : Int) (hs : set.length ≤ 1048576) (hl : ks.length ≤ 1048576) (hp : 0 ≤ p ∧ p ≤ 1000000) (k : Nat) (hk : 2200000 < k) :
    spec_l3Node.f k op set ks mn mx' p = some (nodeB op set ks mn mx' p) := by
  obtain ⟨k, rfl⟩ : ∃ m, k = m + 1 := ⟨k - 1, by omega⟩
  unfold spec_l3Node.f nodeB
  simp only [sIn, Option.bind_some, decide_eq_true_eq, sKids]
  by_cases h : 1 ≤ op ∧ op ≤ 8
  · rw [if_pos h, decide_eq_true h]
    simp only [spec_l3Node.j0, bne_iff_ne]
    by_cases h2 : (ks.length : Int) = kk op
    · rw [if_neg (fun g => g h2), decide_eq_true h2]
      exact sNode_l op set ks mn mx' p hs hp hl _ k 0 (by omega) rfl (by omega) (fun j hj => by omega)
    · rw [if_pos h2, decide_eq_false h2]; simp
  · rw [if_neg h, decide_eq_false h]; simp [spec_l3Node.j0]
open Classical in
theorem iNode (op : Int) (set : List S33) (ks : List Int) (mn mx' p : Int) (hs : set.length ≤ 1048576) (hp : 0 ≤ p ∧ p ≤ 1000000) (k : Nat) (hk : 2200000 < k) :
    impl_nodeOk.f k op set ks mn mx' p = some (nodeB op set ks mn mx' p) := by
  obtain ⟨k, rfl⟩ : ∃ m, k = m + 2 := ⟨k - 2, by omega⟩
  unfold impl_nodeOk.f nodeB
  simp only [iKids, Option.bind_some]
  rw [iClassOk set hs _ (by omega), w64 (x := p - 1) (by omega) (by omega)]
  simp only [Option.bind_some, decide_eq_true_eq]
  by_cases h : 1 ≤ op ∧ op ≤ 8
  · rw [if_pos h, decide_eq_true h, Bool.true_and]
    by_cases h2 : (ks.length : Int) = kk op
    · rw [if_pos h2, decide_eq_true h2, Bool.true_and]
      by_cases h3 : ∀ x ∈ ks, 0 ≤ x ∧ x ≤ p - 1
      · rw [if_pos h3, decide_eq_true h3, Bool.true_and]
        unfold nodeT
        by_cases h4 : op = 2
        · simp only [if_pos h4, if_neg (show ¬ op = 8 by omega)]
          by_cases hc : classOk (set.map toP)
          · rw [if_pos hc]
            by_cases h0 : (set.length : Int) = 0
            · rw [if_pos h0]; have : set.length = 0 := by omega
              simp [this]
            · rw [if_neg h0]; have : set.length ≠ 0 := by omega
              rw [decide_eq_true (show classOk (set.map toP) ∧ set.length ≠ 0 from ⟨hc, this⟩)]
              by_cases g1 : mn = 0 <;> by_cases g2 : mx' = 0 <;> simp [g1, g2]
          · rw [if_neg hc]; simp [hc]
        · simp only [if_neg h4]
          by_cases h0 : set.length = 0
          · rw [if_neg (by omega), decide_eq_true h0]
            by_cases h8 : op = 8
            · simp only [if_pos h8]
              unfold impl_timesOk.f
              simp only [iWithin, Option.bind_some, decide_eq_true_eq]
              by_cases g1 : 0 ≤ mn ∧ mn ≤ 30
              · rw [if_pos g1]
                by_cases g2 : mx' = -1
                · rw [if_pos g2, decide_eq_true (by omega)]; rfl
                · rw [if_neg g2]
                  by_cases g3 : mn ≤ mx' ∧ mx' ≤ 30
                  · rw [if_pos g3]
                    by_cases g4 : mx' = 0
                    · rw [decide_eq_false (by omega)]; simp [g4]
                    · rw [decide_eq_true (by omega)]; simp [g4]
                  · rw [if_neg g3, decide_eq_false (by omega)]; rfl
              · rw [if_neg g1, decide_eq_false (by omega)]; rfl
            · simp only [if_neg h8]
              by_cases g1 : mn = 0 <;> by_cases g2 : mx' = 0 <;> simp [g1, g2]
          · rw [if_pos (by omega), decide_eq_false h0]; rfl
      · rw [if_neg h3, decide_eq_false h3]; rfl
    · rw [if_neg h2, decide_eq_false h2]; rfl
  · rw [if_neg h, decide_eq_false h]
    rw [if_neg (by omega)]; rfl
def kidsAt (N : List S181) (i : Nat) : List Int := (rd_T181 N (i : Int)).f2
open Classical in
noncomputable def okN (N : List S181) (i : Nat) : Bool := nodeB (rd_T181 N (i : Int)).f0 (rd_T181 N (i : Int)).f1 (rd_T181 N (i : Int)).f2 (rd_T181 N (i : Int)).f3 (rd_T181 N (i : Int)).f4 (i : Int)
theorem kk_le (op : Int) : kk op ≤ 2 := by unfold kk; split <;> (try split) <;> omega
theorem okN_kids {N : List S181} {i : Nat} (h : okN N i = true) : (kidsAt N i).length ≤ 2 ∧ ∀ x ∈ kidsAt N i, 0 ≤ x ∧ x ≤ (i : Int) - 1 := by
  unfold okN nodeB at h
  simp only [Bool.and_eq_true, decide_eq_true_eq] at h
  have := kk_le (rd_T181 N (i : Int)).f0
  have h2 := h.1.2
  exact ⟨by unfold kidsAt; omega, h.2.1⟩
theorem getD_set_int (l : List Int) (a : Nat) (v : Int) (j : Nat) (h : a < l.length) : (l.set a v).getD j 0 = if a = j then v else l.getD j 0 := by
  rw [List.getD_eq_getElem?_getD, List.getD_eq_getElem?_getD, List.getElem?_set]
  by_cases e : a = j
  · subst e; simp [h]
  · simp [e]
theorem rdn (l : List Int) (j : Nat) : rd l (j : Int) = l.getD j 0 := by unfold rd; rw [Int.toNat_natCast]
theorem rdp (l : List Int) (x : Int) : rd l x = l.getD x.toNat 0 := rfl
theorem countStep (c : List Int) (m : Nat) (hm : m < c.length) (j : Nat) (h0 : 0 ≤ c.getD m 0) : (c.drop m).count (j : Int) = (c.drop (m + 1)).count (j : Int) + (if (c.getD m 0).toNat = j then 1 else 0) := by
  have e : c.getD m 0 = c[m] := by rw [List.getD_eq_getElem?_getD, List.getElem?_eq_getElem hm]; rfl
  rw [e] at h0 ⊢
  rw [List.drop_eq_getElem_cons hm, List.count_cons]
  congr 1
  by_cases h : c[m] = (j : Int)
  · rw [if_pos (show c[m].toNat = j by omega)]; simp [h]
  · rw [if_neg (show ¬ c[m].toNat = j by omega)]; simp [h]
def dn (l : List Int) (i : Int) : List Int → List Int
  | [] => l
  | x :: t => dn (l.set x.toNat (wrap64 (rd l i + 1))) i t
theorem dn_len (i : Int) (t : List Int) : ∀ l : List Int, (dn l i t).length = l.length := by
  induction t with
  | nil => intro l; rfl
  | cons x t ih => intro l; simp only [dn]; rw [ih, List.length_set]
theorem dn_drop (l : List Int) (i : Int) (c : List Int) (m : Nat) (hm : m < c.length) : dn l i (c.drop m) = dn (l.set (c.getD m 0).toNat (wrap64 (rd l i + 1))) i (c.drop (m + 1)) := by
  have e : c.getD m 0 = c[m] := by rw [List.getD_eq_getElem?_getD, List.getElem?_eq_getElem hm]; rfl
  rw [List.drop_eq_getElem_cons hm, e]; rfl
theorem s_l1 (N : List S181) (i : Nat) (hi : i < N.length) (n : Int) (hN : N.length ≤ 300) (hlen : (kidsAt N i).length ≤ 2) (hk : ∀ x ∈ kidsAt N i, 0 ≤ x ∧ x ≤ (i : Int) - 1) (k d : Nat) : ∀ (m : Nat) (x4 : List Int) (B : Nat), (kidsAt N i).length - m = d → m ≤ (kidsAt N i).length → x4.length = N.length → B + d ≤ 100000 → (∀ j, j < N.length → 0 ≤ x4.getD j 0 ∧ x4.getD j 0 ≤ B) →
    ∃ x', spec_RxOk.l1 (d + 1 + k) n x4 i m N = spec_RxOk.l0 k n x' ((i + 1 : Nat) : Int) N ∧ x'.length = N.length ∧ ∀ j, j < N.length → x'.getD j 0 = x4.getD j 0 + (((kidsAt N i).drop m).count (j : Int) : Nat) := by
  induction d with
  | zero =>
    intro m x4 B hd hm hx hB hb
    obtain rfl : m = (kidsAt N i).length := by omega
    refine ⟨x4, ?_, hx, fun j hj => by simp⟩
    rw [show 0 + 1 + k = k + 1 by omega]
    simp only [spec_RxOk.l1]
    rw [if_pos (by omega), if_pos (by omega), if_neg (by show ¬ ((kidsAt N i).length : Int) < ((kidsAt N i).length : Int); omega), nat_next (by omega)]
  | succ d ih =>
    intro m x4 B hd hm hx hB hb
    have hlt : m < (kidsAt N i).length := by omega
    have hg : 0 ≤ (kidsAt N i).getD m 0 ∧ (kidsAt N i).getD m 0 ≤ (i : Int) - 1 := by
      rw [List.getD_eq_getElem?_getD, List.getElem?_eq_getElem hlt]; exact hk _ (List.getElem_mem hlt)
    have er : rd (rd_T181 N (i : Int)).f2 (m : Int) = (kidsAt N i).getD m 0 := rdn _ _
    have hv := hb ((kidsAt N i).getD m 0).toNat (by omega)
    rw [show d + 1 + 1 + k = (d + 1 + k) + 1 by omega]
    simp only [spec_RxOk.l1, er, rdp x4]
    rw [if_pos (by omega), if_pos (by omega), if_pos (by show (m : Int) < ((kidsAt N i).length : Int); omega), if_pos (by omega), if_pos hg.1, if_pos (by omega), nat_next (by omega), w64 (by omega) (by omega)]
    obtain ⟨x', e, hl, hc⟩ := ih (m + 1) (x4.set ((kidsAt N i).getD m 0).toNat (x4.getD ((kidsAt N i).getD m 0).toNat 0 + 1)) (B + 1) (by omega) (by omega) (by rw [List.length_set]; exact hx) (by omega) (fun j hj => by
      rw [getD_set_int _ _ _ _ (by omega)]
      have := hb j hj
      split <;> omega)
    refine ⟨x', e, hl, fun j hj => ?_⟩
    rw [hc j hj, getD_set_int _ _ _ _ (by omega), countStep _ _ hlt _ hg.1]
    by_cases q : ((kidsAt N i).getD m 0).toNat = j
    · subst q; simp only [if_true]; omega
    · rw [if_neg q, if_neg q]; simp
theorem i_l1 (N : List S181) (i : Nat) (hi : i < N.length) (n : Int) (hN : N.length ≤ 300) (hlen : (kidsAt N i).length ≤ 2) (hk : ∀ x ∈ kidsAt N i, 0 ≤ x ∧ x ≤ (i : Int) - 1) (k d : Nat) : ∀ (m : Nat) (x4 x5 : List Int) (B : Nat), (kidsAt N i).length - m = d → m ≤ (kidsAt N i).length → x4.length = N.length → x5.length = N.length → B + d ≤ 100000 → (∀ j, j < N.length → 0 ≤ x4.getD j 0 ∧ x4.getD j 0 ≤ B) →
    ∃ x', impl_RxOk.l1 (d + 1 + k) n x4 x5 i (kidsAt N i) ((kidsAt N i).length : Int) m N = impl_RxOk.l0 k n x' (dn x5 i ((kidsAt N i).drop m)) ((i : Int) - 1) N ∧ x'.length = N.length ∧ ∀ j, j < N.length → x'.getD j 0 = x4.getD j 0 + (((kidsAt N i).drop m).count (j : Int) : Nat) := by
  induction d with
  | zero =>
    intro m x4 x5 B hd hm hx hx5 hB hb
    obtain rfl : m = (kidsAt N i).length := by omega
    refine ⟨x4, ?_, hx, fun j hj => by simp⟩
    rw [show 0 + 1 + k = k + 1 by omega]
    simp only [impl_RxOk.l1]
    rw [if_neg (by omega), w64 (by omega) (by omega), List.drop_length]
    rfl
  | succ d ih =>
    intro m x4 x5 B hd hm hx hx5 hB hb
    have hlt : m < (kidsAt N i).length := by omega
    have hg : 0 ≤ (kidsAt N i).getD m 0 ∧ (kidsAt N i).getD m 0 ≤ (i : Int) - 1 := by
      rw [List.getD_eq_getElem?_getD, List.getElem?_eq_getElem hlt]; exact hk _ (List.getElem_mem hlt)
    have er : rd (kidsAt N i) (m : Int) = (kidsAt N i).getD m 0 := rdn _ _
    have hv := hb ((kidsAt N i).getD m 0).toNat (by omega)
    rw [show d + 1 + 1 + k = (d + 1 + k) + 1 by omega, dn_drop _ _ _ _ hlt]
    simp only [impl_RxOk.l1, er, rdp x4]
    rw [if_pos (by omega), if_pos (by omega), if_pos (by omega), if_pos hg.1, if_pos (by omega), if_pos (by omega), if_pos (by omega), if_pos (by omega), nat_next (by omega), w64 (x := x4.getD ((kidsAt N i).getD m 0).toNat 0 + 1) (by omega) (by omega)]
    obtain ⟨x', e, hl, hc⟩ := ih (m + 1) (x4.set ((kidsAt N i).getD m 0).toNat (x4.getD ((kidsAt N i).getD m 0).toNat 0 + 1)) (x5.set ((kidsAt N i).getD m 0).toNat (wrap64 (rd x5 i + 1))) (B + 1) (by omega) (by omega) (by rw [List.length_set]; exact hx) (by rw [List.length_set]; exact hx5) (by omega) (fun j hj => by
      rw [getD_set_int _ _ _ _ (by omega)]
      have := hb j hj
      split <;> omega)
    refine ⟨x', e, hl, fun j hj => ?_⟩
    rw [hc j hj, getD_set_int _ _ _ _ (by omega), countStep _ _ hlt _ hg.1]
    by_cases q : ((kidsAt N i).getD m 0).toNat = j
    · subst q; simp only [if_true]; omega
    · rw [if_neg q, if_neg q]; simp
theorem s_l3 (N : List S181) (i : Nat) (hi : i < N.length) (n : Int) (x4 : List Int) (hN : N.length ≤ 300) (hlen : (kidsAt N i).length ≤ 2) (hk : ∀ x ∈ kidsAt N i, 0 ≤ x ∧ x ≤ (i : Int) - 1) (k d : Nat) : ∀ (m : Nat) (x7 : List Int), (kidsAt N i).length - m = d → m ≤ (kidsAt N i).length → x7.length = N.length →
    spec_RxOk.l3 (d + 1 + k) n x4 x7 i m N = spec_RxOk.l2 k n x4 (dn x7 i ((kidsAt N i).drop m)) ((i : Int) - 1) N := by
  induction d with
  | zero =>
    intro m x7 hd hm hx
    obtain rfl : m = (kidsAt N i).length := by omega
    rw [show 0 + 1 + k = k + 1 by omega]
    simp only [spec_RxOk.l3]
    rw [if_pos (by omega), if_pos (by omega), if_neg (by show ¬ ((kidsAt N i).length : Int) < ((kidsAt N i).length : Int); omega), w64 (by omega) (by omega), List.drop_length]
    rfl
  | succ d ih =>
    intro m x7 hd hm hx
    have hlt : m < (kidsAt N i).length := by omega
    have hg : 0 ≤ (kidsAt N i).getD m 0 ∧ (kidsAt N i).getD m 0 ≤ (i : Int) - 1 := by
      rw [List.getD_eq_getElem?_getD, List.getElem?_eq_getElem hlt]; exact hk _ (List.getElem_mem hlt)
    have er : rd (rd_T181 N (i : Int)).f2 (m : Int) = (kidsAt N i).getD m 0 := rdn _ _
    rw [show d + 1 + 1 + k = (d + 1 + k) + 1 by omega, dn_drop _ _ _ _ hlt]
    simp only [spec_RxOk.l3, er]
    rw [if_pos (by omega), if_pos (by omega), if_pos (by show (m : Int) < ((kidsAt N i).length : Int); omega), if_pos (by omega), if_pos (by omega), if_pos hg.1, if_pos (by omega), nat_next (by omega)]
    exact ih (m + 1) _ (by omega) (by omega) (by rw [List.length_set]; exact hx)
def bounded (N : List S181) : Prop := ∀ i : Nat, (rd_T181 N (i : Int)).f1.length ≤ 1048576 ∧ (rd_T181 N (i : Int)).f2.length ≤ 1048576
/-- the kids of the first nodes -/
def allKids (N : List S181) : Nat → List Int
  | 0 => []
  | i + 1 => allKids N i ++ kidsAt N i
theorem allKids_len {N : List S181} : ∀ i, (∀ j, j < i → okN N j = true) → (allKids N i).length ≤ 2 * i
  | 0, _ => by simp [allKids]
  | i + 1, h => by
    have := allKids_len i (fun j hj => h j (by omega))
    have := (okN_kids (h i (by omega))).1
    simp only [allKids, List.length_append]; omega
theorem allKids_lt {N : List S181} : ∀ i, (∀ j, j < i → okN N j = true) → ∀ x ∈ allKids N i, x ≤ (i : Int) - 2
  | 0, _, x, hx => by simp [allKids] at hx
  | i + 1, h, x, hx => by
    simp only [allKids, List.mem_append] at hx
    rcases hx with hx | hx
    · have := allKids_lt i (fun j hj => h j (by omega)) x hx; omega
    · have := ((okN_kids (h i (by omega))).2 x hx).2; omega
theorem allKids_self {N : List S181} (i : Nat) (h : ∀ j, j < i + 1 → okN N j = true) : (allKids N (i + 1)).count (i : Int) = 0 := by
  rw [List.count_eq_zero]
  intro hx
  have := allKids_lt (i + 1) h _ hx
  omega
theorem s_l0 (N : List S181) (hN : N.length ≤ 300) (hb : bounded N) (d : Nat) : ∀ (i k : Nat) (x4 : List Int), N.length - i = d → i ≤ N.length → 2300000 + 4 * d ≤ k → (∀ j, j < i → okN N j = true) → x4.length = N.length → (∀ j, j < N.length → x4.getD j 0 = ((allKids N i).count (j : Int) : Nat)) →
    ((∀ j, j < N.length → okN N j = true) → ∃ k' x', 2290000 ≤ k' ∧ spec_RxOk.l0 k (N.length : Int) x4 (i : Int) N = spec_RxOk.l2 k' (N.length : Int) x' (List.replicate N.length 0) ((N.length : Int) - 1) N ∧ x'.length = N.length ∧ ∀ j, j < N.length → x'.getD j 0 = ((allKids N N.length).count (j : Int) : Nat)) ∧
    ((∃ j, j < N.length ∧ okN N j = false) → spec_RxOk.l0 k (N.length : Int) x4 (i : Int) N = some false) := by
  induction d with
  | zero =>
    intro i k x4 hd hi hk hok hx hc
    obtain rfl : i = N.length := by omega
    obtain ⟨k, rfl⟩ : ∃ m, k = m + 1 := ⟨k - 1, by omega⟩
    refine ⟨fun _ => ⟨k, x4, by omega, ?_, hx, hc⟩, fun ⟨j, hj, hf⟩ => by rw [hok j hj] at hf; exact absurd hf (by decide)⟩
    simp only [spec_RxOk.l0]
    rw [if_neg (by omega), if_pos (by omega), if_pos (by omega), w64 (by omega) (by omega), Int.toNat_natCast]
  | succ d ih =>
    intro i k x4 hd hi hk hok hx hc
    have hlt : i < N.length := by omega
    obtain ⟨k, rfl⟩ : ∃ m, k = m + 1 := ⟨k - 1, by omega⟩
    have en := sNode (rd_T181 N (i : Int)).f0 (rd_T181 N (i : Int)).f1 (rd_T181 N (i : Int)).f2 (rd_T181 N (i : Int)).f3 (rd_T181 N (i : Int)).f4 (i : Int) (hb i).1 (hb i).2 (by omega) k (by omega)
    have e0 : spec_RxOk.l0 (k + 1) (N.length : Int) x4 (i : Int) N = (if okN N i = true then spec_RxOk.l1 k (N.length : Int) x4 i 0 N else some false) := by
      simp only [spec_RxOk.l0]
      rw [if_pos (by omega), if_pos (by omega), if_pos (by omega), en]
      rfl
    rw [e0]
    cases ho : okN N i with
    | false => exact ⟨fun h => by rw [h i hlt] at ho; exact absurd ho (by decide), fun _ => by rw [if_neg (by decide)]⟩
    | true =>
      rw [if_pos rfl]
      have hkd := okN_kids ho
      have hL := allKids_len i hok
      obtain ⟨q, rfl⟩ : ∃ q, k = (kidsAt N i).length + 1 + q := ⟨k - ((kidsAt N i).length + 1), by omega⟩
      obtain ⟨x', e, hl', hc'⟩ := s_l1 N i hlt (N.length : Int) hN hkd.1 hkd.2 q (kidsAt N i).length 0 x4 600 (by omega) (by omega) hx (by omega) (fun j hj => by
        rw [hc j hj]
        have := List.count_le_length (a := (j : Int)) (l := allKids N i)
        omega)
      have e' : spec_RxOk.l1 ((kidsAt N i).length + 1 + q) (N.length : Int) x4 i 0 N = spec_RxOk.l0 q (N.length : Int) x' ((i + 1 : Nat) : Int) N := e
      rw [e']
      exact ih (i + 1) q x' (by omega) (by omega) (by omega) (fun j hj => by
        rcases Nat.lt_or_eq_of_le (Nat.le_of_lt_succ hj) with g | g
        · exact hok j g
        · subst g; exact ho) hl' (fun j hj => by
        rw [hc' j hj, hc j hj, List.drop_zero]
        simp only [allKids, List.count_append]
        omega)
/-- the kids of the last nodes -/
def restKids (N : List S181) : Nat → Nat → List Int
  | 0, _ => []
  | d + 1, i => kidsAt N i ++ restKids N d (i + 1)
theorem kids_split (N : List S181) : ∀ d i, allKids N (i + d) = allKids N i ++ restKids N d i
  | 0, i => by simp [restKids]
  | d + 1, i => by
    rw [show i + (d + 1) = (i + 1) + d by omega, kids_split N d (i + 1)]
    simp only [restKids, allKids, List.append_assoc]
theorem i_step (N : List S181) (hN : N.length ≤ 300) (hb : bounded N) (i : Nat) (hlt : i < N.length) (k : Nat) (hk : 2210000 ≤ k) (x4 x5 : List Int) (h4 : x4.length = N.length) (h5 : x5.length = N.length) :
    impl_RxOk.l0 (k + 2) ((N.length : Int) - 1) x4 x5 (i : Int) N = (if okN N i = true then (if (i : Int) < (N.length : Int) - 1 ∧ x4.getD i 0 ≠ 1 ∨ x5.getD i 0 > 150 then some false else impl_RxOk.l1 k ((N.length : Int) - 1) x4 x5 i (kidsAt N i) ((kidsAt N i).length : Int) 0 N) else some false) := by
  have en := iNode (rd_T181 N (i : Int)).f0 (rd_T181 N (i : Int)).f1 (rd_T181 N (i : Int)).f2 (rd_T181 N (i : Int)).f3 (rd_T181 N (i : Int)).f4 (i : Int) (hb i).1 (by omega) (k + 1) (by omega)
  simp only [impl_RxOk.l0]
  rw [if_pos (by omega), if_pos (by omega), if_pos (by omega), en]
  simp only [Option.bind_some, impl_RxOk.j1, rdn, decide_eq_true_eq]
  show (if okN N i = true then _ else _) = _
  cases ho : okN N i with
  | false => rw [if_neg (show ¬ (false = true) by decide), if_pos trivial, if_neg (show ¬ (false = true) by decide)]
  | true =>
    rw [if_pos rfl, if_pos rfl]
    by_cases c1 : (i : Int) < (N.length : Int) - 1
    · rw [if_pos c1, if_pos (by omega)]
      by_cases c2 : x4.getD i 0 = 1
      · rw [if_pos c2, if_pos (by omega)]
        by_cases c3 : x5.getD i 0 > 150
        · rw [if_pos c3, if_pos (.inr c3)]
        · rw [if_neg c3, if_neg (by omega)]; rfl
      · rw [if_neg c2, if_pos trivial, if_pos (.inl ⟨c1, c2⟩)]
    · rw [if_neg c1, if_pos (by omega)]
      by_cases c3 : x5.getD i 0 > 150
      · rw [if_pos c3, if_pos (.inr c3)]
      · rw [if_neg c3, if_neg (by omega)]; rfl
theorem s_step (N : List S181) (hN : N.length ≤ 300) (i : Nat) (hlt : i < N.length) (k : Nat) (x4 x7 : List Int) (h4 : x4.length = N.length) (h7 : x7.length = N.length) :
    spec_RxOk.l2 (k + 2) (N.length : Int) x4 x7 (i : Int) N = (if (i : Int) < (N.length : Int) - 1 ∧ x4.getD i 0 ≠ 1 ∨ x7.getD i 0 > 150 then some false else spec_RxOk.l3 k (N.length : Int) x4 x7 i 0 N) := by
  simp only [spec_RxOk.l2, spec_RxOk.j4, rdn, decide_eq_true_eq]
  rw [if_pos (by omega), w64 (x := (N.length : Int) - 1) (by omega) (by omega)]
  by_cases c1 : (i : Int) < (N.length : Int) - 1
  · rw [if_pos c1, if_pos (by omega), if_pos (by omega)]
    by_cases c2 : x4.getD i 0 = 1
    · rw [if_pos c2, if_pos (by omega)]
      by_cases c3 : x7.getD i 0 > 150
      · rw [if_pos c3, if_pos (.inr c3)]
      · rw [if_neg c3, if_neg (by omega)]
    · rw [if_neg c2, if_pos trivial, if_pos (.inl ⟨c1, c2⟩)]
  · rw [if_neg c1, if_pos (by omega), if_pos (by omega)]
    by_cases c3 : x7.getD i 0 > 150
    · rw [if_pos c3, if_pos (.inr c3)]
    · rw [if_neg c3, if_neg (by omega)]
theorem i_bad (N : List S181) (hN : N.length ≤ 300) (hb : bounded N) : ∀ (m k : Nat) (x4 x5 : List Int), m ≤ N.length → 2210000 + 6 * m ≤ k → x4.length = N.length → x5.length = N.length → (∀ j, j < N.length → 0 ≤ x4.getD j 0 ∧ x4.getD j 0 ≤ ((2 * (N.length - m) : Nat) : Int)) → (∃ j, j < m ∧ okN N j = false) →
    impl_RxOk.l0 k ((N.length : Int) - 1) x4 x5 ((m : Int) - 1) N = some false
  | 0, _, _, _, _, _, _, _, _, ⟨_, h, _⟩ => by omega
  | m + 1, k, x4, x5, hm, hk, h4, h5, hB, ⟨j, hj, hf⟩ => by
    obtain ⟨k, rfl⟩ : ∃ q, k = q + 2 := ⟨k - 2, by omega⟩
    rw [show ((m + 1 : Nat) : Int) - 1 = (m : Int) by omega, i_step N hN hb m (by omega) k (by omega) x4 x5 h4 h5]
    cases ho : okN N m with
    | false => rw [if_neg (by decide)]
    | true =>
      rw [if_pos rfl]
      split
      · rfl
      · have hkd := okN_kids ho
        obtain ⟨q, rfl⟩ : ∃ q, k = (kidsAt N m).length + 1 + q := ⟨k - ((kidsAt N m).length + 1), by omega⟩
        obtain ⟨x', e, hl', hc'⟩ := i_l1 N m (by omega) ((N.length : Int) - 1) hN hkd.1 hkd.2 q (kidsAt N m).length 0 x4 x5 (2 * (N.length - (m + 1))) (by omega) (by omega) h4 h5 (by omega) hB
        have e' : impl_RxOk.l1 ((kidsAt N m).length + 1 + q) ((N.length : Int) - 1) x4 x5 m (kidsAt N m) ((kidsAt N m).length : Int) 0 N = _ := e
        rw [e']
        refine i_bad N hN hb m q x' _ (by omega) (by omega) hl' (by rw [dn_len]; exact h5) (fun j hj => ?_) ⟨j, ?_, hf⟩
        · have := hB j hj
          rw [hc' j hj]
          have := List.count_le_length (a := (j : Int)) (l := (kidsAt N m).drop 0)
          rw [List.drop_zero] at *
          omega
        · rcases Nat.lt_or_eq_of_le (Nat.le_of_lt_succ hj) with g | g
          · exact g
          · subst g; rw [ho] at hf; exact absurd hf (by decide)
theorem both_down (N : List S181) (hN : N.length ≤ 300) (h1 : 1 ≤ N.length) (hb : bounded N) (ok : ∀ j, j < N.length → okN N j = true) (U : List Int) (hU : U.length = N.length) (hUc : ∀ j, j < N.length → U.getD j 0 = ((allKids N N.length).count (j : Int) : Nat)) : ∀ (m k k' : Nat) (x4 x5 : List Int), m ≤ N.length → 2210000 + 6 * m ≤ k → 2210000 + 6 * m ≤ k' → x4.length = N.length → x5.length = N.length → (∀ j, j < N.length → x4.getD j 0 = ((restKids N (N.length - m) m).count (j : Int) : Nat)) →
    ∃ b, impl_RxOk.l0 k ((N.length : Int) - 1) x4 x5 ((m : Int) - 1) N = some b ∧ spec_RxOk.l2 k' (N.length : Int) U x5 ((m : Int) - 1) N = some b
  | 0, k, k', x4, x5, hm, hk, hk', h4, h5, hc => by
    obtain ⟨k, rfl⟩ : ∃ q, k = q + 1 := ⟨k - 1, by omega⟩
    obtain ⟨k', rfl⟩ : ∃ q, k' = q + 1 := ⟨k' - 1, by omega⟩
    refine ⟨true, ?_, ?_⟩
    · have el : rd x4 ((N.length : Int) - 1) = 0 := by
        rw [show (N.length : Int) - 1 = ((N.length - 1 : Nat) : Int) by omega, rdn, hc _ (by omega)]
        have := kids_split N (N.length - 0) 0
        rw [show 0 + (N.length - 0) = N.length - 1 + 1 by omega] at this
        have z := allKids_self (N := N) (N.length - 1) (fun j hj => ok j (by omega))
        rw [this] at z
        simp only [allKids, List.nil_append] at z
        rw [z]; rfl
      simp only [impl_RxOk.l0]
      rw [if_neg (by omega), if_pos (by omega), if_pos (by omega), el]
      rfl
    · simp only [spec_RxOk.l2]
      rw [if_neg (by omega)]
  | m + 1, k, k', x4, x5, hm, hk, hk', h4, h5, hc => by
    obtain ⟨k, rfl⟩ : ∃ q, k = q + 2 := ⟨k - 2, by omega⟩
    obtain ⟨k', rfl⟩ : ∃ q, k' = q + 2 := ⟨k' - 2, by omega⟩
    have ho := ok m (by omega)
    have hkd := okN_kids ho
    have eU : U.getD m 0 = x4.getD m 0 := by
      rw [hUc m (by omega), hc m (by omega)]
      have := kids_split N (N.length - (m + 1)) (m + 1)
      rw [show m + 1 + (N.length - (m + 1)) = N.length by omega] at this
      rw [this, List.count_append, allKids_self m (fun j hj => ok j (by omega)), Nat.zero_add]
    rw [show ((m + 1 : Nat) : Int) - 1 = (m : Int) by omega, i_step N hN hb m (by omega) k (by omega) x4 x5 h4 h5, s_step N hN m (by omega) k' U x5 hU h5, if_pos ho, eU]
    split
    · exact ⟨false, rfl, rfl⟩
    · have hR : (restKids N (N.length - (m + 1)) (m + 1)).length ≤ 600 := by
        have := kids_split N (N.length - (m + 1)) (m + 1)
        rw [show m + 1 + (N.length - (m + 1)) = N.length by omega] at this
        have l := allKids_len N.length ok
        rw [this, List.length_append] at l
        omega
      obtain ⟨q, rfl⟩ : ∃ q, k = (kidsAt N m).length + 1 + q := ⟨k - ((kidsAt N m).length + 1), by omega⟩
      obtain ⟨q', rfl⟩ : ∃ q, k' = (kidsAt N m).length + 1 + q := ⟨k' - ((kidsAt N m).length + 1), by omega⟩
      obtain ⟨x', e, hl', hc'⟩ := i_l1 N m (by omega) ((N.length : Int) - 1) hN hkd.1 hkd.2 q (kidsAt N m).length 0 x4 x5 600 (by omega) (by omega) h4 h5 (by omega) (fun j hj => by
        rw [hc j hj]
        have := List.count_le_length (a := (j : Int)) (l := restKids N (N.length - (m + 1)) (m + 1))
        omega)
      have e' : impl_RxOk.l1 ((kidsAt N m).length + 1 + q) ((N.length : Int) - 1) x4 x5 m (kidsAt N m) ((kidsAt N m).length : Int) 0 N = _ := e
      have s' : spec_RxOk.l3 ((kidsAt N m).length + 1 + q') (N.length : Int) U x5 m 0 N = _ := s_l3 N m (by omega) (N.length : Int) U hN hkd.1 hkd.2 q' (kidsAt N m).length 0 x5 (by omega) (by omega) h5
      rw [e', s']
      refine both_down N hN h1 hb ok U hU hUc m q q' x' _ (by omega) (by omega) (by omega) hl' (by rw [dn_len]; exact h5) (fun j hj => ?_)
      rw [hc' j hj, hc j hj, List.drop_zero, show N.length - m = (N.length - (m + 1)) + 1 by omega]
      simp only [restKids, List.count_append]
      omega
theorem rxOk_same (N : List S181) (hl : N.length ≤ 1048576) (hb : bounded N) (k : Nat) (hk : 10000000 ≤ k) : ∃ b, spec_RxOk.f k N = some b ∧ impl_RxOk.f k N = some b ∧ (b = true → 1 ≤ N.length ∧ N.length ≤ 300 ∧ ∀ j, j < N.length → okN N j = true) := by
  have es : spec_RxOk.f k N = spec_RxOk.j0 k (N.length : Int) (decide ((N.length : Int) < 1 ∨ (N.length : Int) > 300)) N := by
    unfold spec_RxOk.f
    by_cases h : (N.length : Int) < 1
    · rw [if_pos h, decide_eq_true (.inl h)]
    · rw [if_neg h]; congr 1; exact decide_eq_decide.2 (by omega)
  rw [es]
  unfold impl_RxOk.f impl_RNode.f
  obtain ⟨k, rfl⟩ : ∃ q, k = q + 1 := ⟨k - 1, by omega⟩
  simp only [Option.bind_some, iWithin, decide_eq_true_eq, spec_RxOk.j0]
  by_cases h : 1 ≤ (N.length : Int) ∧ (N.length : Int) ≤ 300
  · rw [if_neg (by omega), if_pos (by omega), if_pos (by omega), if_pos h, if_pos (by omega), if_pos (by omega), w64 (by omega) (by omega), Int.toNat_natCast]
    have rep : ∀ j, (List.replicate N.length (0 : Int)).getD j 0 = 0 := fun j => by
      rw [List.getD_eq_getElem?_getD, List.getElem?_replicate]; split <;> rfl
    obtain ⟨sA, sB⟩ := s_l0 N (by omega) hb N.length 0 k (List.replicate N.length 0) (by omega) (by omega) (by omega) (fun j hj => by omega) (by simp) (fun j hj => by rw [rep]; simp [allKids])
    by_cases ok : ∀ j, j < N.length → okN N j = true
    · obtain ⟨k', x', hk', e, hx', hc'⟩ := sA ok
      have e' : spec_RxOk.l0 k (N.length : Int) (List.replicate N.length 0) 0 N = _ := e
      rw [e']
      obtain ⟨b, h1, h2⟩ := both_down N (by omega) (by omega) hb ok x' hx' hc' N.length (k + 1) k' (List.replicate N.length 0) (List.replicate N.length 0) (by omega) (by omega) (by omega) (by simp) (by simp) (fun j hj => by
        rw [rep, Nat.sub_self]; simp [restKids])
      exact ⟨b, h2, h1, fun _ => ⟨by omega, by omega, ok⟩⟩
    · have bad : ∃ j, j < N.length ∧ okN N j = false := by
        rw [Classical.not_forall] at ok
        obtain ⟨j, hj⟩ := ok
        rw [Classical.not_imp] at hj
        exact ⟨j, hj.1, Bool.eq_false_iff.2 hj.2⟩
      have e' : spec_RxOk.l0 k (N.length : Int) (List.replicate N.length 0) 0 N = _ := sB bad
      exact ⟨false, e', i_bad N (by omega) hb N.length (k + 1) _ _ (by omega) (by omega) (by simp) (by simp) (fun j hj => by rw [rep]; omega) bad, fun q => by cases q⟩
  · rw [if_pos (by omega), if_neg h]
    exact ⟨false, rfl, rfl, fun q => by cases q⟩
/-- marks of a row, and that they are held -/
theorem mkI_l (d : Nat) : ∀ (l : List Int) (m : Int) (i : Nat), l.length - i = d → i ≤ l.length → l.length ≤ 1099511627776 → 0 ≤ m → m + d ≤ 4611686018427387904 →
    ∃ l', l'.length = l.length ∧ (∀ j, j < i → rd l' (j : Int) = rd l (j : Int)) ∧ ∀ k, d < k → laws_markInt64S.l0 k l m (i : Int) = some (m + d, l') ∧ laws_heldInt64S.l0 k l' m (i : Int) = some (m + d) := by
  induction d with
  | zero =>
    intro l m i hd hi hl hm hmd
    refine ⟨l, rfl, fun _ _ => rfl, fun k hk => ?_⟩
    obtain ⟨k, rfl⟩ : ∃ m, k = m + 1 := ⟨k - 1, by omega⟩
    rw [laws_markInt64S.l0, laws_heldInt64S.l0, if_neg (by omega), if_neg (by omega)]
    exact ⟨by simp, by simp⟩
  | succ d ih =>
    intro l m i hd hi hl hm hmd
    obtain ⟨l', h1, h2, h3⟩ := ih (l.set i m) (m + 1) (i + 1) (by rw [List.length_set]; omega) (by rw [List.length_set]; omega) (by rw [List.length_set]; omega) (by omega) (by omega)
    rw [List.length_set] at h1
    have hri : rd l' (i : Int) = m := by
      rw [h2 i (by omega)]
      unfold rd
      rw [Int.toNat_natCast, List.getD_eq_getElem?_getD, List.getElem?_set_self (by omega)]; rfl
    refine ⟨l', h1, fun j hj => ?_, fun k hk => ?_⟩
    · rw [h2 j (by omega)]
      unfold rd
      rw [Int.toNat_natCast, List.getD_eq_getElem?_getD, List.getD_eq_getElem?_getD, List.getElem?_set_ne (by omega)]
    · obtain ⟨k, rfl⟩ : ∃ m, k = m + 1 := ⟨k - 1, by omega⟩
      obtain ⟨h4, h5⟩ := h3 k (by omega)
      rw [laws_markInt64S.l0, laws_heldInt64S.l0, if_pos (by omega), if_pos (by omega), if_pos (by omega), if_pos (by omega), if_pos hri, nat_next (by omega), w64 (x := m + 1) (by omega) (by omega), Int.toNat_natCast, h4, h5]
      exact ⟨by congr 2; omega, by congr 1; omega⟩
theorem mkI (l : List Int) (hl : l.length ≤ 1099511627776) (m : Int) (hm : 0 ≤ m) (hm2 : m ≤ 4000000000000000000) :
    ∃ l', l'.length = l.length ∧ ∀ k, l.length < k → laws_markInt64S.f k l m = some (m + l.length, l') ∧ laws_heldInt64S.f k l' m = some (m + l.length) := by
  obtain ⟨l', h1, _, h3⟩ := mkI_l l.length l m 0 (by omega) (by omega) hl hm (by omega)
  exact ⟨l', h1, h3⟩
theorem rdS_set (l : List S33) (i : Nat) (v : S33) (h : i < l.length) : rd_T33 (l.set i v) (i : Int) = v := by
  unfold rd_T33
  rw [Int.toNat_natCast, List.getD_eq_getElem?_getD, List.getElem?_set_self h]; rfl
theorem mkP_l (d : Nat) : ∀ (l : List S33) (m : Int) (i : Nat), l.length - i = d → i ≤ l.length → l.length ≤ 1099511627776 → 0 ≤ m → m + 2 * d ≤ 4611686018427387904 →
    ∃ l', l'.length = l.length ∧ (∀ j, j < i → rd_T33 l' (j : Int) = rd_T33 l (j : Int)) ∧ ∀ k, d < k → laws_markSpanS.l0 k l m (i : Int) = some (m + 2 * d, l') ∧ laws_heldSpanS.l0 k l' m (i : Int) = some (m + 2 * d) := by
  induction d with
  | zero =>
    intro l m i hd hi hl hm hmd
    refine ⟨l, rfl, fun _ _ => rfl, fun k hk => ?_⟩
    obtain ⟨k, rfl⟩ : ∃ m, k = m + 1 := ⟨k - 1, by omega⟩
    rw [laws_markSpanS.l0, laws_heldSpanS.l0, if_neg (by omega), if_neg (by omega)]
    exact ⟨by simp, by simp⟩
  | succ d ih =>
    intro l m i hd hi hl hm hmd
    obtain ⟨l', h1, h2, h3⟩ := ih (l.set i ⟨m, m + 1⟩) (m + 2) (i + 1) (by rw [List.length_set]; omega) (by rw [List.length_set]; omega) (by rw [List.length_set]; omega) (by omega) (by omega)
    rw [List.length_set] at h1
    have hri : rd_T33 l' (i : Int) = ⟨m, m + 1⟩ := by
      rw [h2 i (by omega), rdS_set _ _ _ (by omega)]
    refine ⟨l', h1, fun j hj => ?_, fun k hk => ?_⟩
    · rw [h2 j (by omega)]
      unfold rd_T33
      rw [Int.toNat_natCast, List.getD_eq_getElem?_getD, List.getD_eq_getElem?_getD, List.getElem?_set_ne (by omega)]
    · obtain ⟨k, rfl⟩ : ∃ m, k = m + 1 := ⟨k - 1, by omega⟩
      obtain ⟨h4, h5⟩ := h3 k (by omega)
      rw [laws_markSpanS.l0, laws_heldSpanS.l0, if_pos (by omega), if_pos (by omega), if_pos (by omega), if_pos (by omega), if_pos (by rw [hri]), if_pos (by rw [hri, w64 (by omega) (by omega)]), Option.bind_some, nat_next (by omega), w64 (x := m + 1) (by omega) (by omega), w64 (x := m + 1 + 1) (by omega) (by omega), Int.toNat_natCast, rdS_set _ _ _ (by omega), List.set_set, show m + 1 + 1 = m + 2 by omega, h4, h5]
      exact ⟨by congr 2; omega, by congr 1; omega⟩
theorem mkP (l : List S33) (hl : l.length ≤ 1099511627776) (m : Int) (hm : 0 ≤ m) (hm2 : m ≤ 4000000000000000000) :
    ∃ l', l'.length = l.length ∧ ∀ k, l.length < k → laws_markSpanS.f k l m = some (m + 2 * l.length, l') ∧ laws_heldSpanS.f k l' m = some (m + 2 * l.length) := by
  obtain ⟨l', h1, _, h3⟩ := mkP_l l.length l m 0 (by omega) (by omega) hl hm (by omega)
  exact ⟨l', h1, h3⟩
theorem rdN_set (l : List S181) (i : Nat) (v : S181) (h : i < l.length) : rd_T181 (l.set i v) (i : Int) = v := by
  unfold rd_T181
  rw [Int.toNat_natCast, List.getD_eq_getElem?_getD, List.getElem?_set_self h]; rfl
theorem rdN_other (l : List S181) (i j : Nat) (v : S181) (h : i ≠ j) : rd_T181 (l.set i v) (j : Int) = rd_T181 l (j : Int) := by
  unfold rd_T181
  rw [Int.toNat_natCast, List.getD_eq_getElem?_getD, List.getD_eq_getElem?_getD, List.getElem?_set_ne h]
theorem mkN_l (d : Nat) : ∀ (l : List S181) (m : Int) (i : Nat), l.length - i = d → i ≤ l.length → l.length ≤ 1048576 → (∀ j, i ≤ j → (rd_T181 l (j : Int)).f1.length ≤ 1048576 ∧ (rd_T181 l (j : Int)).f2.length ≤ 1048576) → 0 ≤ m → m + 4000000 * d ≤ 4000000000000000000 →
    ∃ m' l', l'.length = l.length ∧ (∀ j, j < i → rd_T181 l' (j : Int) = rd_T181 l (j : Int)) ∧ m ≤ m' ∧ m' ≤ m + 4000000 * d ∧ ∀ k, d + 1048580 < k → laws_markRNodeS.l0 k l m (i : Int) = some (m', l') ∧ laws_heldRNodeS.l0 k l' m (i : Int) = some m' := by
  induction d with
  | zero =>
    intro l m i hd hi hl hb hm hmd
    refine ⟨m, l, rfl, fun _ _ => rfl, Int.le_refl _, by omega, fun k hk => ?_⟩
    obtain ⟨k, rfl⟩ : ∃ m, k = m + 1 := ⟨k - 1, by omega⟩
    rw [laws_markRNodeS.l0, laws_heldRNodeS.l0, if_neg (by omega), if_neg (by omega)]
    exact ⟨rfl, rfl⟩
  | succ d ih =>
    intro l m i hd hi hl hb hm hmd
    obtain ⟨b1, b2⟩ := hb i (Nat.le_refl _)
    obtain ⟨s, s1, s2⟩ := mkP (rd_T181 l (i : Int)).f1 (by omega) (m + 1) (by omega) (by omega)
    obtain ⟨t, t1, t2⟩ := mkI (rd_T181 l (i : Int)).f2 (by omega) (m + 1 + 2 * (rd_T181 l (i : Int)).f1.length) (by omega) (by omega)
    generalize hq : m + 1 + 2 * ((rd_T181 l (i : Int)).f1.length : Int) + ((rd_T181 l (i : Int)).f2.length : Int) = q at *
    obtain ⟨m', l', h1, h2, h6, h7, h3⟩ := ih (l.set i ⟨m, s, t, q, q + 1⟩) (q + 2) (i + 1) (by rw [List.length_set]; omega) (by rw [List.length_set]; omega) (by rw [List.length_set]; omega) (fun j hj => by rw [rdN_other _ _ _ _ (by omega)]; exact hb j (by omega)) (by omega) (by omega)
    rw [List.length_set] at h1
    have hri : rd_T181 l' (i : Int) = ⟨m, s, t, q, q + 1⟩ := by
      rw [h2 i (by omega), rdN_set _ _ _ (by omega)]
    refine ⟨m', l', h1, fun j hj => ?_, by omega, by omega, fun k hk => ?_⟩
    · rw [h2 j (by omega), rdN_other _ _ _ _ (by omega)]
    · obtain ⟨k, rfl⟩ : ∃ m, k = m + 1 := ⟨k - 1, by omega⟩
      obtain ⟨h4, h5⟩ := h3 k (by omega)
      obtain ⟨s3, s4⟩ := s2 k (by omega)
      obtain ⟨t3, t4⟩ := t2 k (by omega)
      have ew : wrap64 (m + 1) = m + 1 := w64 (by omega) (by omega)
      constructor
      · rw [laws_markRNodeS.l0, if_pos (by omega), if_pos (by omega), ew, s3, Option.bind_some, t3, Option.bind_some, nat_next (by omega)]
        simp only [Int.toNat_natCast]
        rw [w64 (x := q + 1) (by omega) (by omega), w64 (by omega) (by omega), show q + 1 + 1 = q + 2 by omega, h4]
      · rw [laws_heldRNodeS.l0, if_pos (by omega), if_pos (by omega), hri, if_pos rfl, ew]
        simp only []
        rw [s4, Option.bind_some, if_neg (by omega), t4, Option.bind_some, if_neg (by omega), if_pos rfl, w64 (x := q + 1) (by omega) (by omega), if_pos rfl, nat_next (by omega), w64 (by omega) (by omega), show q + 1 + 1 = q + 2 by omega, h5]
theorem mkRx (l : List S181) (hl : l.length ≤ 1048576) (hb : ∀ j : Nat, (rd_T181 l (j : Int)).f1.length ≤ 1048576 ∧ (rd_T181 l (j : Int)).f2.length ≤ 1048576) :
    ∃ m l', 1 ≤ m ∧ ∀ k, 3000000 < k → laws_markRx.f k l 1 = some (m, l') ∧ laws_heldRx.f k l' 1 = some m := by
  obtain ⟨m, l', h1, _, h2, h3, h4⟩ := mkN_l l.length l 1 0 (by omega) (by omega) hl (fun j _ => hb j) (by omega) (by omega)
  refine ⟨m, l', h2, fun k hk => ?_⟩
  obtain ⟨h5, h6⟩ := h4 k (by omega)
  refine ⟨h5, ?_⟩
  unfold laws_heldRx.f
  rw [show laws_heldRNodeS.f k l' 1 = _ from h6, Option.bind_some, if_neg (by omega)]
theorem take_snocN (N : List S181) (i : Nat) (h : i < N.length) : N.take i ++ [rd_T181 N (i : Int)] = N.take (i + 1) := by
  unfold rd_T181
  rw [Int.toNat_natCast, List.getD_eq_getElem?_getD, List.getElem?_eq_getElem h, Option.getD_some, List.take_succ_eq_append_getElem h]
theorem sCopy_l (N : List S181) (hl : N.length ≤ 1048576) (hb : bounded N) (d : Nat) : ∀ (k i : Nat), d < k → N.length - i = d → i ≤ N.length → spec_l3Copy.l0 k (i : Int) N (N.take i) = some N := by
  induction d with
  | zero =>
    intro k i hk hd hi
    obtain ⟨k, rfl⟩ : ∃ m, k = m + 1 := ⟨k - 1, by omega⟩
    rw [spec_l3Copy.l0, if_neg (by omega), List.take_of_length_le (by omega)]
  | succ d ih =>
    intro k i hk hd hi
    obtain ⟨k, rfl⟩ : ∃ m, k = m + 1 := ⟨k - 1, by omega⟩
    have b := hb i
    rw [spec_l3Copy.l0, if_pos (by omega), if_pos (by omega), Option.bind_some, if_pos (by simp only [List.length_nil]; omega), Option.bind_some, if_pos (by simp only [List.length_nil]; omega), if_pos (by rw [List.length_take]; omega), nat_next (by omega), List.nil_append, List.nil_append]
    have e : (⟨(rd_T181 N (i : Int)).f0, (rd_T181 N (i : Int)).f1, (rd_T181 N (i : Int)).f2, (rd_T181 N (i : Int)).f3, (rd_T181 N (i : Int)).f4⟩ : S181) = rd_T181 N (i : Int) := rfl
    rw [e, take_snocN N i (by omega)]
    exact ih k (i + 1) (by omega) (by omega) (by omega)
theorem iCopy_l (N : List S181) (hl : N.length ≤ 1048576) (hb : bounded N) (d : Nat) : ∀ (k i : Nat), d < k → N.length - i = d → i ≤ N.length → impl_copyRx.l0 k N (N.length : Int) (i : Int) (N.take i) = some N := by
  induction d with
  | zero =>
    intro k i hk hd hi
    obtain ⟨k, rfl⟩ : ∃ m, k = m + 1 := ⟨k - 1, by omega⟩
    rw [impl_copyRx.l0, if_neg (by omega), List.take_of_length_le (by omega)]
  | succ d ih =>
    intro k i hk hd hi
    obtain ⟨k, rfl⟩ : ∃ m, k = m + 1 := ⟨k - 1, by omega⟩
    have b := hb i
    rw [impl_copyRx.l0, if_pos (by omega), if_pos (by omega), if_pos (by omega), impl_Span.f, if_pos (by omega), Option.bind_some, slices_Clone_int64_int64.f, if_pos (by omega), Option.bind_some, if_pos (by rw [List.length_take]; omega), nat_next (by omega)]
    have e : (⟨(rd_T181 N (i : Int)).f0, (rd_T181 N (i : Int)).f1, (rd_T181 N (i : Int)).f2, (rd_T181 N (i : Int)).f3, (rd_T181 N (i : Int)).f4⟩ : S181) = rd_T181 N (i : Int) := rfl
    rw [e, take_snocN N i (by omega)]
    exact ih k (i + 1) (by omega) (by omega) (by omega)
theorem rdOf_b (m : List Bool) (i : Nat) : rdOf false m (i : Int) = m.getD i false := by
  unfold rdOf
  rw [Int.toNat_natCast]
theorem foldM_get (m : List Bool) (i : Nat) : True := trivial
theorem sFold_l (x4 : Nat) (m : List Bool) (hm : m.length = 256) (N : List S181) (K : Nat) (d : Nat) : ∀ (i : Nat), 26 - i = d → i ≤ 26 →
    spec_Folded.l1 (K + 1 + d) (x4 : Int) (foldM m i) (97 + (i : Int)) N = spec_Folded.l1 (K + 1) (x4 : Int) (foldM m 26) 123 N := by
  induction d with
  | zero =>
    intro i hd hi
    obtain rfl : i = 26 := by omega
    rfl
  | succ d ih =>
    intro i hd hi
    have hl := foldM_len m i
    rw [← ih (i + 1) (by omega) (by omega), show K + 1 + (d + 1) = (K + 1 + d) + 1 by omega, spec_Folded.l1, if_pos (by omega), if_pos (by omega), if_pos (by omega), w64 (x := 97 + (i : Int) - 32) (by omega) (by omega), w64 (x := 97 + (i : Int) + 1) (by omega) (by omega), if_pos (show 0 ≤ 97 + (i : Int) - 32 by omega), if_pos (show 97 + (i : Int) - 32 < _ by omega), if_pos (show 0 ≤ 97 + (i : Int) - 32 by omega), if_pos (show 97 + (i : Int) - 32 < _ by omega)]
    have e1 : (97 + (i : Int)) = ((97 + i : Nat) : Int) := by omega
    have e2 : (97 + (i : Int) - 32) = ((65 + i : Nat) : Int) := by omega
    have e3 : (97 + (i : Int) + 1) = 97 + ((i + 1 : Nat) : Int) := by omega
    rw [e3, e2, e1, Int.toNat_natCast, Int.toNat_natCast, rdOf_b, rdOf_b]
    have e4 : foldM m (i + 1) = ((foldM m i).set (97 + i) (foldE (foldM m i) i)).set (65 + i) (foldE (foldM m i) i) := rfl
    rw [e4]
    unfold foldE
    cases h : (foldM m i).getD (97 + i) false with
    | true => rw [if_pos rfl, Bool.true_or]
    | false => rw [if_neg (by decide), Bool.false_or]
theorem class_up (m : List Bool) (hm : m.length = 256) : ∃ r : List S33, r.length ≤ 256 ∧ ∀ k, 300 ≤ k → spec_l1Class.f k m = some r := by
  obtain ⟨r, e, h⟩ := classS m hm 300 (Nat.le_refl _)
  refine ⟨r, h, fun k hk => ?_⟩
  obtain ⟨j, rfl⟩ : ∃ j, k = 300 + j := ⟨k - 300, by omega⟩
  exact class_at m e j
/-- nodes whose classes are right -/
def setsOk (N : List S181) (i : Nat) : Prop := ∀ j, i ≤ j → j < N.length → (rd_T181 N (j : Int)).f0 = 2 → classOk ((rd_T181 N (j : Int)).f1.map toP)
theorem fold_l (d : Nat) : ∀ (N : List S181) (i : Nat), N.length - i = d → i ≤ N.length → N.length ≤ 1048576 → bounded N → setsOk N i →
    ∃ r, r.length = N.length ∧ bounded r ∧ ∀ k, d * 100 + 100000 < k → spec_Folded.l0 k (i : Int) N = some r ∧ impl_Folded.l0 k N i = some r := by
  induction d with
  | zero =>
    intro N i hd hi hl hb ho
    refine ⟨N, rfl, hb, fun k hk => ?_⟩
    obtain ⟨k, rfl⟩ : ∃ m, k = m + 1 := ⟨k - 1, by omega⟩
    rw [spec_Folded.l0, impl_Folded.l0, if_neg (by omega), if_neg (by omega)]
    exact ⟨rfl, rfl⟩
  | succ d ih =>
    intro N i hd hi hl hb ho
    by_cases h2 : (rd_T181 N (i : Int)).f0 = 2
    · have hc := ho i (Nat.le_refl _) (by omega) h2
      have hm0 : (marks0 (rd_T181 N (i : Int)).f1).length = 256 := marks0_len _
      obtain ⟨c, c1, c2⟩ := class_up (foldM (marks0 (rd_T181 N (i : Int)).f1) 26) (by rw [foldM_len, hm0])
      obtain ⟨r, r1, r2, r3⟩ := ih (N.set i ⟨(rd_T181 N (i : Int)).f0, c, (rd_T181 N (i : Int)).f2, (rd_T181 N (i : Int)).f3, (rd_T181 N (i : Int)).f4⟩) (i + 1) (by rw [List.length_set]; omega) (by rw [List.length_set]; omega) (by rw [List.length_set]; omega) (fun j => by
          by_cases e : i = j
          · subst e; rw [rdN_set _ _ _ (by omega)]; exact ⟨by simp only; omega, (hb i).2⟩
          · rw [rdN_other _ _ _ _ e]; exact hb j) (fun j hj hjl => by
          rw [List.length_set] at hjl
          rw [rdN_other _ _ _ _ (by omega)]
          exact ho j (by omega) hjl)
      rw [List.length_set] at r1
      refine ⟨r, r1, r2, fun k hk => ?_⟩
      obtain ⟨k, rfl⟩ : ∃ m, k = m + 1 + 26 + 1 := ⟨k - 28, by omega⟩
      constructor
      · rw [spec_Folded.l0, if_pos (by omega), if_pos (by omega), if_pos h2]
        obtain ⟨m, em, hm⟩ := sMarks _ hc (k + 1 + 26) (by omega)
        have e := marks0_of (rd_T181 N (i : Int)).f1 m hm.1 hm.2
        rw [em, Option.bind_some, e, show (97 : Int) = 97 + ((0 : Nat) : Int) by omega]
        have q := sFold_l i (marks0 (rd_T181 N (i : Int)).f1) hm0 N k 26 0 (by omega) (by omega)
        refine q.trans ?_
        rw [spec_Folded.l1, if_neg (by omega), c2 k (by omega), Option.bind_some, if_pos (by omega), if_pos (by omega), nat_next (by omega), Int.toNat_natCast]
        exact (r3 k (by omega)).1
      · rw [impl_Folded.l0, if_pos (by omega), if_pos h2, impl_folded.f, if_pos (show classOk (List.map spP _) from hc), c2 _ (by omega), Option.bind_some]
        exact (r3 _ (by omega)).2
    · obtain ⟨r, r1, r2, r3⟩ := ih N (i + 1) (by omega) (by omega) hl hb (fun j hj => ho j (by omega))
      refine ⟨r, r1, r2, fun k hk => ?_⟩
      obtain ⟨k, rfl⟩ : ∃ m, k = m + 1 := ⟨k - 1, by omega⟩
      obtain ⟨r4, r5⟩ := r3 k (by omega)
      rw [spec_Folded.l0, impl_Folded.l0, if_pos (by omega), if_pos (by omega), if_neg h2, if_pos (by omega), if_neg h2, nat_next (by omega)]
      exact ⟨r4, r5⟩
theorem folded_both (N : List S181) (hl : N.length ≤ 1048576) (hb : bounded N) (k : Nat) (hk : 11000000 ≤ k) : ∃ r, r.length ≤ 1048576 ∧ bounded r ∧ spec_Folded.f k N = some r ∧ impl_Folded.f k N = some r := by
  obtain ⟨b, e1, e2, e3⟩ := rxOk_same N hl hb k (by omega)
  unfold spec_Folded.f impl_Folded.f
  rw [e1, e2, Option.bind_some, Option.bind_some]
  cases b with
  | false => exact ⟨[], by simp, fun i => by unfold rd_T181; exact ⟨Nat.zero_le _, Nat.zero_le _⟩, by rw [if_neg (by decide)], by rw [if_neg (by decide)]⟩
  | true =>
    obtain ⟨h1, h2, h3⟩ := e3 rfl
    have c1 : spec_l3Copy.f k N = some N := sCopy_l N hl hb N.length k 0 (by omega) (by omega) (by omega)
    have c2 : impl_copyRx.f k N = some N := iCopy_l N hl hb N.length k 0 (by omega) (by omega) (by omega)
    obtain ⟨r, r1, r2, r3⟩ := fold_l N.length N 0 (by omega) (by omega) hl hb (fun j _ hj h => by
      have q := h3 j hj
      unfold okN nodeB nodeT at q
      simp only [Bool.and_eq_true, decide_eq_true_eq, if_pos h] at q
      exact q.2.2.1.1)
    obtain ⟨r4, r5⟩ := r3 k (by omega)
    refine ⟨r, by omega, r2, ?_, ?_⟩
    · rw [if_pos rfl, c1, Option.bind_some]; exact r4
    · rw [if_pos rfl, c2, Option.bind_some]; exact r5
theorem FnExactFolded (x : List S235) (g : gd_RNodeS x) : ∃ k, laws_FnExactFolded.f k x = some true := by
  suffices ∀ k, 12000000 ≤ k → laws_FnExactFolded.f k x = some true from ⟨12000000, this _ (Nat.le_refl _)⟩
  intro k hk
  unfold laws_FnExactFolded.f
  obtain ⟨r, e, _, _, h⟩ := szL_Rx k (by omega) x g 1048576 (by omega)
  rw [e, Option.bind_some]
  by_cases hr : r < 0
  · rw [if_pos hr]
  · have hb := h (by omega)
    have hi : bi_RNodeS (x.map c_RNode) := ⟨by rw [List.length_map]; exact hb.1, fun y hy => by obtain ⟨z, hz, rfl⟩ := List.mem_map.1 hy; exact bi_of_RNode z (hb.2 z hz)⟩
    have hbd : bounded (x.map c_RNode) := by
      intro i
      unfold rd_T181
      rw [Int.toNat_natCast, List.getD_eq_getElem?_getD]
      by_cases hlt : i < (x.map c_RNode).length
      · rw [List.getElem?_eq_getElem hlt]
        have := hi.2 _ (List.getElem_mem hlt)
        exact ⟨this.1, this.2⟩
      · rw [List.getElem?_eq_none (by omega)]
        exact ⟨by decide, by decide⟩
    rw [if_neg hr, if_pos]
    obtain ⟨o, o1, o2, o3, o4⟩ := folded_both (x.map c_RNode) hi.1 hbd k (by omega)
    have ob : bi_RNodeS o := ⟨o1, fun y hy => by
      obtain ⟨j, hj, rfl⟩ := List.mem_iff_getElem.1 hy
      have q := o2 j
      unfold rd_T181 at q
      rw [Int.toNat_natCast, List.getD_eq_getElem?_getD, List.getElem?_eq_getElem hj] at q
      exact q⟩
    obtain ⟨m0, y0, q1, q2⟩ := mkRx (x.map c_RNode) hi.1 hbd
    obtain ⟨mr, z0, q3, q4⟩ := mkRx o o1 o2
    exact ⟨x.map c_RNode, o, m0, y0, mr, z0, toL_Rx k (by omega) x hb, o3, o4, eqL_Rx k (by omega) _ ob, eqL_Rx k (by omega) _ hi, (q2 k (by omega)).1, by omega, (q4 k (by omega)).1, (q4 k (by omega)).2, by omega⟩
end Go.Proofs.Ytbijmhooamjgoaa.Pure
