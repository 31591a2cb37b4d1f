/- The program's NfaOk and the reference's come to one answer: whatever the network. -/
import Derived.Test.YtledhlgfiekmgaaPFnExactNfaOkx8
import Derived.Test.YtledhlgfiekmgaaKit
import Derived.Test.YtledhlgfiekmgaaKitClass
namespace Go.Proofs.Ytledhlgfiekmgaa.Pure
open Go.RowKit Go.Proofs.Ytledhlgfiekmgaa.PFnExactNfaOk Go.Proofs.YtledhlgfiekmgaaW.PrintWords Go.Proofs.YtledhlgfiekmgaaW.PrintLast Go.Proofs.YtledhlgfiekmgaaW.PrintMore Go.Proofs.Ytledhlgfiekmgaa.Kit
set_option linter.unusedVariables false
theorem sIn (a b c : Int) : spec_l1In.f a b c = some (decide (b ≤ a ∧ a ≤ c)) := by
  unfold spec_l1In.f
  by_cases h : a ≥ b
  · rw [if_pos h]; congr 1; simp; omega
  · rw [if_neg h]; congr 1; simp; omega
theorem iWithin (a b c : Int) : impl_within.f a b c = some (decide (b ≤ a ∧ a ≤ c)) := by
  unfold impl_within.f
  by_cases h : a ≥ b
  · rw [if_pos h]; congr 1; simp; omega
  · rw [if_neg h]; congr 1; simp; omega
def gd_Span (x : S196) : Prop := ((Lit.int .i64 x.f0).wf = true) ∧ ((Lit.int .i64 x.f1).wf = true)
def c_Span (x : S196) : S146 := ⟨x.f0, x.f1⟩
def gd_SpanS (x : List S196) : Prop := x.length ≤ maxLen ∧ ∀ y ∈ x, gd_Span y
def bd_SpanS (x : List S196) : Prop := x.length ≤ 1048576
def bi_SpanS (x : List S146) : Prop := x.length ≤ 1048576
def gd_Edge (x : S189) : Prop := ((Lit.int .i64 x.f0).wf = true) ∧ ((Lit.int .i64 x.f1).wf = true) ∧ (x.f2.length ≤ maxLen ∧ ∀ y ∈ x.f2, gd_Span y)
def bd_Edge (x : S189) : Prop := (x.f2.length ≤ 1048576)
def bi_Edge (x : S153) : Prop := (x.f2.length ≤ 1048576)
def c_Edge (x : S189) : S153 := ⟨x.f0, x.f1, x.f2.map c_Span⟩
theorem bi_of_Edge (x : S189) (h : bd_Edge x) : bi_Edge (c_Edge x) := (by show (List.map _ _).length ≤ _; rw [List.length_map]; exact h)
def gd_EdgeS (x : List S189) : Prop := x.length ≤ maxLen ∧ ∀ y ∈ x, gd_Edge y
def bd_EdgeS (x : List S189) : Prop := x.length ≤ 1048576 ∧ ∀ y ∈ x, bd_Edge y
def bi_EdgeS (x : List S153) : Prop := x.length ≤ 1048576 ∧ ∀ y ∈ x, bi_Edge y
def gd_End (x : S192) : Prop := ((Lit.int .i64 x.f0).wf = true) ∧ ((Lit.int .i64 x.f1).wf = true)
def c_End (x : S192) : S156 := ⟨x.f0, x.f1⟩
def gd_EndS (x : List S192) : Prop := x.length ≤ maxLen ∧ ∀ y ∈ x, gd_End y
def bd_EndS (x : List S192) : Prop := x.length ≤ 1048576
def bi_EndS (x : List S156) : Prop := x.length ≤ 1048576
theorem szL_SpanS (k : Nat) (hk : 1048578 ≤ k) (l : List S196) (g : l.length ≤ maxLen ∧ ∀ y ∈ l, gd_Span y) (n : Int) (hn : 0 ≤ n ∧ n ≤ 1048576) : ∃ r, laws_szSpanS.f l n = some r ∧ -1 ≤ r ∧ r ≤ n ∧ (0 ≤ r → l.length ≤ 1048576) := by
  have hl := g.1
  unfold maxLen at hl
  unfold laws_szSpanS.f
  rw [w64 (by omega) (by omega)]
  by_cases h : n - (l.length : Int) < 0
  · rw [if_pos h]; exact ⟨-1, rfl, by omega, by omega, fun h => by omega⟩
  · rw [if_neg h]; exact ⟨_, rfl, by omega, by omega, fun _ => by omega⟩
theorem szL_Edge (k : Nat) (hk : 1048578 ≤ k) (f0 : Int) (f1 : Int) (f2 : List S196) (g : ((Lit.int .i64 f0).wf = true) ∧ ((Lit.int .i64 f1).wf = true) ∧ (f2.length ≤ maxLen ∧ ∀ y ∈ f2, gd_Span y)) (n : Int) (hn : 0 ≤ n ∧ n ≤ 1048576) : ∃ r, laws_szEdge.f f0 f1 f2 n = some r ∧ -1 ≤ r ∧ r ≤ n ∧ (0 ≤ r → (f2.length ≤ 1048576)) := by
  unfold laws_szEdge.f
  obtain ⟨r1, e1, a1, b1, d1⟩ := szL_SpanS k (by omega) f2 g.2.2 n (by omega)
  rw [e1]
  simp only [Option.bind_some]
  by_cases c1 : r1 < 0
  · rw [if_pos c1]; exact ⟨-1, rfl, by omega, by omega, fun h => by omega⟩
  rw [if_neg c1]
  exact ⟨r1, rfl, by omega, by omega, fun _ => (d1 (by omega))⟩
theorem szL_EdgeS_l (l : List S189) (g : ∀ y ∈ l, gd_Edge y) (hl : l.length ≤ 1048576) (d : Nat) : ∀ (k : Nat) (x i : Int), d + 1048578 < k → 0 ≤ i → (l.length : Int) - i = d → 0 ≤ x → x ≤ 1048576 →
    ∃ r, laws_szEdgeS.l0 k l x i = some r ∧ -1 ≤ r ∧ r ≤ x ∧ (0 ≤ r → ∀ j : Nat, i ≤ (j : Int) → (h : j < l.length) → bd_Edge l[j]) := by
  induction d with
  | zero =>
    intro k x i hk h0 hd g0 g1
    obtain ⟨k, rfl⟩ : ∃ m, k = m + 1 := ⟨k - 1, by omega⟩
    refine ⟨x, ?_, by omega, by omega, fun _ j h1 h2 => by omega⟩
    simp only [laws_szEdgeS.l0]
    rw [if_neg (by omega)]
  | succ d ih =>
    intro k x i hk h0 hd g0 g1
    obtain ⟨k, rfl⟩ : ∃ m, k = m + 1 := ⟨k - 1, by omega⟩
    have hi : i.toNat < l.length := by omega
    have e : rd_T189 l i = l[i.toNat] := by
      unfold rd_T189
      rw [List.getD_eq_getElem?_getD, List.getElem?_eq_getElem hi]
      rfl
    have hg := g l[i.toNat] (List.getElem_mem hi)
    obtain ⟨r, er, r1, r2, r3⟩ := szL_Edge k (by omega) l[i.toNat].f0 l[i.toNat].f1 l[i.toNat].f2 hg x ⟨g0, g1⟩
    simp only [laws_szEdgeS.l0, e]
    rw [if_pos (by omega), if_pos h0, er]
    simp only [Option.bind_some]
    by_cases hr : r < 0
    · rw [if_pos hr]; exact ⟨-1, rfl, by omega, by omega, fun h => by omega⟩
    · rw [if_neg hr, w64 (by omega) (by omega)]
      obtain ⟨q, eq, q1, q2, q3⟩ := ih k r (i + 1) (by omega) (by omega) (by omega) (by omega) (by omega)
      refine ⟨q, eq, q1, by omega, fun h j h1 h2 => ?_⟩
      by_cases hj : (j : Int) = i
      · have : j = i.toNat := by omega
        subst this; exact r3 (by omega)
      · exact q3 h j (by omega) h2
theorem szL_EdgeS (k : Nat) (hk : 2097156 ≤ k) (l : List S189) (g : l.length ≤ maxLen ∧ ∀ y ∈ l, gd_Edge y) (n : Int) (hn : 0 ≤ n ∧ n ≤ 1048576) : ∃ r, laws_szEdgeS.f k l n = some r ∧ -1 ≤ r ∧ r ≤ n ∧ (0 ≤ r → l.length ≤ 1048576 ∧ ∀ y ∈ l, bd_Edge y) := by
  have hl := g.1
  unfold maxLen at hl
  unfold laws_szEdgeS.f
  rw [w64 (x := n - (l.length : Int)) (by omega) (by omega)]
  by_cases h : n - (l.length : Int) < 0
  · rw [if_pos h]; exact ⟨-1, rfl, by omega, by omega, fun h => by omega⟩
  · rw [if_neg h]
    obtain ⟨r, e, r1, r2, r3⟩ := szL_EdgeS_l l g.2 (by omega) l.length k (n - (l.length : Int)) 0 (by omega) (by omega) (by omega) (by omega) (by omega)
    exact ⟨r, e, r1, by omega, fun hr => ⟨by omega, fun y hy => by
      obtain ⟨j, hj, rfl⟩ := List.mem_iff_getElem.1 hy
      exact r3 hr j (by omega) hj⟩⟩
theorem szL_EndS (k : Nat) (hk : 1048578 ≤ k) (l : List S192) (g : l.length ≤ maxLen ∧ ∀ y ∈ l, gd_End y) (n : Int) (hn : 0 ≤ n ∧ n ≤ 1048576) : ∃ r, laws_szEndS.f l n = some r ∧ -1 ≤ r ∧ r ≤ n ∧ (0 ≤ r → l.length ≤ 1048576) := by
  have hl := g.1
  unfold maxLen at hl
  unfold laws_szEndS.f
  rw [w64 (by omega) (by omega)]
  by_cases h : n - (l.length : Int) < 0
  · rw [if_pos h]; exact ⟨-1, rfl, by omega, by omega, fun h => by omega⟩
  · rw [if_neg h]; exact ⟨_, rfl, by omega, by omega, fun _ => by omega⟩
theorem szL_Nfa (k : Nat) (hk : 2097156 ≤ k) (f0 : Int) (f1 : List S189) (f2 : List S192) (g : ((Lit.int .i64 f0).wf = true) ∧ (f1.length ≤ maxLen ∧ ∀ y ∈ f1, gd_Edge y) ∧ (f2.length ≤ maxLen ∧ ∀ y ∈ f2, gd_End y)) (n : Int) (hn : 0 ≤ n ∧ n ≤ 1048576) : ∃ r, laws_szNfa.f k f0 f1 f2 n = some r ∧ -1 ≤ r ∧ r ≤ n ∧ (0 ≤ r → (f1.length ≤ 1048576 ∧ ∀ y ∈ f1, bd_Edge y) ∧ (f2.length ≤ 1048576)) := by
  unfold laws_szNfa.f
  obtain ⟨r1, e1, a1, b1, d1⟩ := szL_EdgeS k (by omega) f1 g.2.1 n (by omega)
  rw [e1]
  simp only [Option.bind_some]
  by_cases c1 : r1 < 0
  · rw [if_pos c1]; exact ⟨-1, rfl, by omega, by omega, fun h => by omega⟩
  rw [if_neg c1]
  obtain ⟨r2, e2, a2, b2, d2⟩ := szL_EndS k (by omega) f2 g.2.2 r1 (by omega)
  rw [e2]
  simp only [Option.bind_some]
  by_cases c2 : r2 < 0
  · rw [if_pos c2]; exact ⟨-1, rfl, by omega, by omega, fun h => by omega⟩
  rw [if_neg c2]
  exact ⟨r2, rfl, by omega, by omega, fun _ => ⟨(d1 (by omega)), (d2 (by omega))⟩⟩
theorem toL_Span (k : Nat) (hk : 0 ≤ k) (f0 : Int) (f1 : Int) (g : True) : laws_toSpan.f f0 f1 = some (f0, f1) := by
  unfold laws_toSpan.f
  all_goals (first | rfl | simp)
theorem toL_SpanS_l (l : List S196) (hl : l.length ≤ 1048576) (d : Nat) : ∀ (k : Nat) (acc : List S146) (i : Int), d + 0 < k → 0 ≤ i → (l.length : Int) - i = d → acc.length = l.length →
    laws_toSpanS.l0 k l acc i = some (acc.take i.toNat ++ (l.map c_Span).drop i.toNat) := by
  induction d with
  | zero =>
    intro k acc i hk h0 hd ha
    obtain ⟨k, rfl⟩ : ∃ m, k = m + 1 := ⟨k - 1, by omega⟩
    simp only [laws_toSpanS.l0]
    rw [if_neg (by omega), List.take_of_length_le (by omega), List.drop_eq_nil_of_le (by first | omega | (rw [List.length_map]; omega)), List.append_nil]
  | succ d ih =>
    intro k acc i hk h0 hd ha
    obtain ⟨k, rfl⟩ : ∃ m, k = m + 1 := ⟨k - 1, by omega⟩
    have hi : i.toNat < l.length := by omega
    have e : rd_T196 l i = l[i.toNat] := by
      unfold rd_T196
      rw [List.getD_eq_getElem?_getD, List.getElem?_eq_getElem hi]
      rfl
    have ee := toL_Span k (by omega) l[i.toNat].f0 l[i.toNat].f1 trivial
    simp only [laws_toSpanS.l0, e]
    rw [if_pos (by omega), if_pos h0, ee]
    simp only [Option.bind_some]
    rw [if_pos (by omega), w64 (by omega) (by omega)]
    rw [ih k _ _ (by omega) (by omega) (by omega) (by simpa using ha)]
    have e1 : (i + 1).toNat = i.toNat + 1 := by omega
    rw [e1, List.take_succ_eq_append_getElem (by simp; omega), List.take_set_of_le (Nat.le_refl _), List.getElem_set_self, List.append_assoc, List.singleton_append]
    congr 2
    rw [List.drop_eq_getElem_cons (i := i.toNat) (by simpa using hi), List.getElem_map]
    try rfl
theorem toL_SpanS (k : Nat) (hk : 1048578 ≤ k) (l : List S196) (g : l.length ≤ 1048576) : laws_toSpanS.f k l = some (l.map c_Span) := by
  have hl : l.length ≤ 1048576 := g
  unfold laws_toSpanS.f
  rw [if_pos (by omega), if_pos (by omega), toL_SpanS_l l hl l.length k _ 0 (by omega) (by omega) (by omega) (by simp)]
  simp
theorem toL_Edge (k : Nat) (hk : 1048578 ≤ k) (f0 : Int) (f1 : Int) (f2 : List S196) (g : (f2.length ≤ 1048576)) : laws_toEdge.f k f0 f1 f2 = some (f0, f1, f2.map c_Span) := by
  unfold laws_toEdge.f
  rw [toL_SpanS k (by omega) f2 (g)]
  simp only [Option.bind_some]
  all_goals (first | rfl | simp)
theorem toL_EdgeS_l (l : List S189) (g : ∀ y ∈ l, bd_Edge y) (hl : l.length ≤ 1048576) (d : Nat) : ∀ (k : Nat) (acc : List S153) (i : Int), d + 1048578 < k → 0 ≤ i → (l.length : Int) - i = d → acc.length = l.length →
    laws_toEdgeS.l0 k l acc i = some (acc.take i.toNat ++ (l.map c_Edge).drop i.toNat) := by
  induction d with
  | zero =>
    intro k acc i hk h0 hd ha
    obtain ⟨k, rfl⟩ : ∃ m, k = m + 1 := ⟨k - 1, by omega⟩
    simp only [laws_toEdgeS.l0]
    rw [if_neg (by omega), List.take_of_length_le (by omega), List.drop_eq_nil_of_le (by first | omega | (rw [List.length_map]; omega)), List.append_nil]
  | succ d ih =>
    intro k acc i hk h0 hd ha
    obtain ⟨k, rfl⟩ : ∃ m, k = m + 1 := ⟨k - 1, by omega⟩
    have hi : i.toNat < l.length := by omega
    have e : rd_T189 l i = l[i.toNat] := by
      unfold rd_T189
      rw [List.getD_eq_getElem?_getD, List.getElem?_eq_getElem hi]
      rfl
    have ee := toL_Edge k (by omega) l[i.toNat].f0 l[i.toNat].f1 l[i.toNat].f2 (g l[i.toNat] (List.getElem_mem hi))
    simp only [laws_toEdgeS.l0, e]
    rw [if_pos (by omega), if_pos h0, ee]
    simp only [Option.bind_some]
    rw [if_pos (by omega), w64 (by omega) (by omega)]
    rw [ih k _ _ (by omega) (by omega) (by omega) (by simpa using ha)]
    have e1 : (i + 1).toNat = i.toNat + 1 := by omega
    rw [e1, List.take_succ_eq_append_getElem (by simp; omega), List.take_set_of_le (Nat.le_refl _), List.getElem_set_self, List.append_assoc, List.singleton_append]
    congr 2
    rw [List.drop_eq_getElem_cons (i := i.toNat) (by simpa using hi), List.getElem_map]
    try rfl
theorem toL_EdgeS (k : Nat) (hk : 2097156 ≤ k) (l : List S189) (g : l.length ≤ 1048576 ∧ ∀ y ∈ l, bd_Edge y) : laws_toEdgeS.f k l = some (l.map c_Edge) := by
  have hl : l.length ≤ 1048576 := g.1
  unfold laws_toEdgeS.f
  rw [if_pos (by omega), if_pos (by omega), toL_EdgeS_l l g.2 hl l.length k _ 0 (by omega) (by omega) (by omega) (by simp)]
  simp
theorem toL_End (k : Nat) (hk : 0 ≤ k) (f0 : Int) (f1 : Int) (g : True) : laws_toEnd.f f0 f1 = some (f0, f1) := by
  unfold laws_toEnd.f
  all_goals (first | rfl | simp)
theorem toL_EndS_l (l : List S192) (hl : l.length ≤ 1048576) (d : Nat) : ∀ (k : Nat) (acc : List S156) (i : Int), d + 0 < k → 0 ≤ i → (l.length : Int) - i = d → acc.length = l.length →
    laws_toEndS.l0 k l acc i = some (acc.take i.toNat ++ (l.map c_End).drop i.toNat) := by
  induction d with
  | zero =>
    intro k acc i hk h0 hd ha
    obtain ⟨k, rfl⟩ : ∃ m, k = m + 1 := ⟨k - 1, by omega⟩
    simp only [laws_toEndS.l0]
    rw [if_neg (by omega), List.take_of_length_le (by omega), List.drop_eq_nil_of_le (by first | omega | (rw [List.length_map]; omega)), List.append_nil]
  | succ d ih =>
    intro k acc i hk h0 hd ha
    obtain ⟨k, rfl⟩ : ∃ m, k = m + 1 := ⟨k - 1, by omega⟩
    have hi : i.toNat < l.length := by omega
    have e : rd_T192 l i = l[i.toNat] := by
      unfold rd_T192
      rw [List.getD_eq_getElem?_getD, List.getElem?_eq_getElem hi]
      rfl
    have ee := toL_End k (by omega) l[i.toNat].f0 l[i.toNat].f1 trivial
    simp only [laws_toEndS.l0, e]
    rw [if_pos (by omega), if_pos h0, ee]
    simp only [Option.bind_some]
    rw [if_pos (by omega), w64 (by omega) (by omega)]
    rw [ih k _ _ (by omega) (by omega) (by omega) (by simpa using ha)]
    have e1 : (i + 1).toNat = i.toNat + 1 := by omega
    rw [e1, List.take_succ_eq_append_getElem (by simp; omega), List.take_set_of_le (Nat.le_refl _), List.getElem_set_self, List.append_assoc, List.singleton_append]
    congr 2
    rw [List.drop_eq_getElem_cons (i := i.toNat) (by simpa using hi), List.getElem_map]
    try rfl
theorem toL_EndS (k : Nat) (hk : 1048578 ≤ k) (l : List S192) (g : l.length ≤ 1048576) : laws_toEndS.f k l = some (l.map c_End) := by
  have hl : l.length ≤ 1048576 := g
  unfold laws_toEndS.f
  rw [if_pos (by omega), if_pos (by omega), toL_EndS_l l hl l.length k _ 0 (by omega) (by omega) (by omega) (by simp)]
  simp
theorem toL_Nfa (k : Nat) (hk : 2097156 ≤ k) (f0 : Int) (f1 : List S189) (f2 : List S192) (g : (f1.length ≤ 1048576 ∧ ∀ y ∈ f1, bd_Edge y) ∧ (f2.length ≤ 1048576)) : laws_toNfa.f k f0 f1 f2 = some (f0, f1.map c_Edge, f2.map c_End) := by
  unfold laws_toNfa.f
  rw [toL_EdgeS k (by omega) f1 (g.1)]
  simp only [Option.bind_some]
  rw [toL_EndS k (by omega) f2 (g.2)]
  simp only [Option.bind_some]
  all_goals (first | rfl | simp)
theorem eqL_Span (k : Nat) (hk : 0 ≤ k) (f0 : Int) (f1 : Int) (g : True) : laws_eqSpan.f f0 f1 f0 f1 = some true := by
  unfold laws_eqSpan.f
  simp
theorem eqL_SpanS_l (l : List S146) (hl : l.length ≤ 1048576) (d : Nat) : ∀ (k : Nat) (i : Int), d + 0 < k → 0 ≤ i → (l.length : Int) - i = d → laws_eqSpanS.l0 k l l i = some true := by
  induction d with
  | zero =>
    intro k i hk h0 hd
    obtain ⟨k, rfl⟩ : ∃ m, k = m + 1 := ⟨k - 1, by omega⟩
    simp only [laws_eqSpanS.l0]
    rw [if_neg (by omega)]
  | succ d ih =>
    intro k i hk h0 hd
    obtain ⟨k, rfl⟩ : ∃ m, k = m + 1 := ⟨k - 1, by omega⟩
    have hi : i.toNat < l.length := by omega
    have e : rd_T146 l i = l[i.toNat] := by
      unfold rd_T146
      rw [List.getD_eq_getElem?_getD, List.getElem?_eq_getElem hi]
      rfl
    have ee := eqL_Span k (by omega) l[i.toNat].f0 l[i.toNat].f1 trivial
    simp only [laws_eqSpanS.l0, e]
    rw [if_pos (by omega), if_pos h0, if_pos (by omega), ee]
    simp only [Option.bind_some, if_true]
    rw [w64 (by omega) (by omega)]
    exact ih k _ (by omega) (by omega) (by omega)
theorem eqL_SpanS (k : Nat) (hk : 1048578 ≤ k) (l : List S146) (g : l.length ≤ 1048576) : laws_eqSpanS.f k l l = some true := by
  have hl : l.length ≤ 1048576 := g
  unfold laws_eqSpanS.f
  simp only [if_true]
  exact eqL_SpanS_l l hl l.length k 0 (by omega) (by omega) (by omega)
theorem eqL_Edge (k : Nat) (hk : 1048578 ≤ k) (f0 : Int) (f1 : Int) (f2 : List S146) (g : (f2.length ≤ 1048576)) : laws_eqEdge.f k f0 f1 f2 f0 f1 f2 = some true := by
  unfold laws_eqEdge.f
  simp [eqL_SpanS k (by omega) f2 (g)]
theorem eqL_EdgeS_l (l : List S153) (g : ∀ y ∈ l, bi_Edge y) (hl : l.length ≤ 1048576) (d : Nat) : ∀ (k : Nat) (i : Int), d + 1048578 < k → 0 ≤ i → (l.length : Int) - i = d → laws_eqEdgeS.l0 k l l i = some true := by
  induction d with
  | zero =>
    intro k i hk h0 hd
    obtain ⟨k, rfl⟩ : ∃ m, k = m + 1 := ⟨k - 1, by omega⟩
    simp only [laws_eqEdgeS.l0]
    rw [if_neg (by omega)]
  | succ d ih =>
    intro k i hk h0 hd
    obtain ⟨k, rfl⟩ : ∃ m, k = m + 1 := ⟨k - 1, by omega⟩
    have hi : i.toNat < l.length := by omega
    have e : rd_T153 l i = l[i.toNat] := by
      unfold rd_T153
      rw [List.getD_eq_getElem?_getD, List.getElem?_eq_getElem hi]
      rfl
    have ee := eqL_Edge k (by omega) l[i.toNat].f0 l[i.toNat].f1 l[i.toNat].f2 (g l[i.toNat] (List.getElem_mem hi))
    simp only [laws_eqEdgeS.l0, e]
    rw [if_pos (by omega), if_pos h0, if_pos (by omega), ee]
    simp only [Option.bind_some, if_true]
    rw [w64 (by omega) (by omega)]
    exact ih k _ (by omega) (by omega) (by omega)
theorem eqL_EdgeS (k : Nat) (hk : 2097156 ≤ k) (l : List S153) (g : l.length ≤ 1048576 ∧ ∀ y ∈ l, bi_Edge y) : laws_eqEdgeS.f k l l = some true := by
  have hl : l.length ≤ 1048576 := g.1
  unfold laws_eqEdgeS.f
  simp only [if_true]
  exact eqL_EdgeS_l l g.2 hl l.length k 0 (by omega) (by omega) (by omega)
theorem eqL_End (k : Nat) (hk : 0 ≤ k) (f0 : Int) (f1 : Int) (g : True) : laws_eqEnd.f f0 f1 f0 f1 = some true := by
  unfold laws_eqEnd.f
  simp
theorem eqL_EndS_l (l : List S156) (hl : l.length ≤ 1048576) (d : Nat) : ∀ (k : Nat) (i : Int), d + 0 < k → 0 ≤ i → (l.length : Int) - i = d → laws_eqEndS.l0 k l l i = some true := by
  induction d with
  | zero =>
    intro k i hk h0 hd
    obtain ⟨k, rfl⟩ : ∃ m, k = m + 1 := ⟨k - 1, by omega⟩
    simp only [laws_eqEndS.l0]
    rw [if_neg (by omega)]
  | succ d ih =>
    intro k i hk h0 hd
    obtain ⟨k, rfl⟩ : ∃ m, k = m + 1 := ⟨k - 1, by omega⟩
    have hi : i.toNat < l.length := by omega
    have e : rd_T156 l i = l[i.toNat] := by
      unfold rd_T156
      rw [List.getD_eq_getElem?_getD, List.getElem?_eq_getElem hi]
      rfl
    have ee := eqL_End k (by omega) l[i.toNat].f0 l[i.toNat].f1 trivial
    simp only [laws_eqEndS.l0, e]
    rw [if_pos (by omega), if_pos h0, if_pos (by omega), ee]
    simp only [Option.bind_some, if_true]
    rw [w64 (by omega) (by omega)]
    exact ih k _ (by omega) (by omega) (by omega)
theorem eqL_EndS (k : Nat) (hk : 1048578 ≤ k) (l : List S156) (g : l.length ≤ 1048576) : laws_eqEndS.f k l l = some true := by
  have hl : l.length ≤ 1048576 := g
  unfold laws_eqEndS.f
  simp only [if_true]
  exact eqL_EndS_l l hl l.length k 0 (by omega) (by omega) (by omega)
theorem eqL_Nfa (k : Nat) (hk : 2097156 ≤ k) (f0 : Int) (f1 : List S153) (f2 : List S156) (g : (f1.length ≤ 1048576 ∧ ∀ y ∈ f1, bi_Edge y) ∧ (f2.length ≤ 1048576)) : laws_eqNfa.f k f0 f1 f2 f0 f1 f2 = some true := by
  unfold laws_eqNfa.f
  simp [eqL_EdgeS k (by omega) f1 (g.1), eqL_EndS k (by omega) f2 (g.2)]
def toP (x : S146) : Int × Int := (x.f0, x.f1)
theorem toP_lo (l : List S146) (i : Int) : (rd_T146 l i).f0 = lo (l.map toP) i.toNat := by
  unfold rd_T146 lo
  rw [List.getD_eq_getElem?_getD, List.getD_eq_getElem?_getD, List.getElem?_map]
  cases l[i.toNat]? <;> rfl
theorem toP_hi (l : List S146) (i : Int) : (rd_T146 l i).f1 = hi (l.map toP) i.toNat := by
  unfold rd_T146 hi
  rw [List.getD_eq_getElem?_getD, List.getD_eq_getElem?_getD, List.getElem?_map]
  cases l[i.toNat]? <;> rfl
open Classical in
theorem iClassOk_l (l : List S146) (hl : l.length ≤ 1048576) (d : Nat) : ∀ (k : Nat) (i : Nat), d < k → l.length - i = d → i ≤ l.length → (∀ j, j < i → okAt (l.map toP) j) →
    impl_ClassOk.l0 k l l (l.length : Int) (i : Int) = some (decide (okFrom (l.map toP) i)) := by
  induction d with
  | zero =>
    intro k i hk hd hle _
    obtain ⟨k, rfl⟩ : ∃ m, k = m + 1 := ⟨k - 1, by omega⟩
    simp only [impl_ClassOk.l0]
    rw [if_neg (by omega), decide_eq_true (okFrom_end (by simp; omega))]
  | succ d ih =>
    intro k i hk hd hle hp
    obtain ⟨k, rfl⟩ : ∃ m, k = m + 1 := ⟨k - 1, by omega⟩
    have hlt : i < (l.map toP).length := by simp; omega
    have hst := okFrom_step (l := l.map toP) hlt
    have hne : ¬ okAt (l.map toP) i → decide (okFrom (l.map toP) i) = false := fun h => decide_eq_false (fun g => h (hst.1 g).1)
    simp only [impl_ClassOk.l0, toP_lo, toP_hi]
    rw [if_pos (by omega), if_pos (by omega), if_pos (by omega)]
    have ei : ((i : Nat) : Int).toNat = i := by omega
    rw [ei]
    by_cases h1 : lo (l.map toP) i < 0
    · rw [if_pos h1, hne (fun g => by have := g.1; omega)]
    · rw [if_neg h1]
      by_cases h2 : lo (l.map toP) i > hi (l.map toP) i
      · rw [if_pos h2, hne (fun g => by have := g.2.1; omega)]
      · rw [if_neg h2]
        by_cases h3 : hi (l.map toP) i > 255
        · rw [if_pos h3, hne (fun g => by have := g.2.2.1; omega)]
        · rw [if_neg h3]
          have en : wrap64 ((i : Int) + 1) = ((i + 1 : Nat) : Int) := by rw [w64 (by omega) (by omega)]; omega
          have go : okAt (l.map toP) i → impl_ClassOk.l0 k l l (l.length : Int) (wrap64 ((i : Int) + 1)) = some (decide (okFrom (l.map toP) i)) := by
            intro g
            rw [en, ih k (i + 1) (by omega) (by omega) (by omega) (fun j hj => by
              rcases Nat.lt_or_eq_of_le (Nat.le_of_lt_succ hj) with h | h
              · exact hp j h
              · exact h ▸ g)]
            congr 1
            exact decide_eq_decide.2 ⟨fun h => hst.2 ⟨g, h⟩, fun h => (hst.1 h).2⟩
          by_cases h4 : (i : Int) > 0
          · have hq := hp (i - 1) (by omega)
            have e1 : (wrap64 ((i : Int) - 1)) = ((i - 1 : Nat) : Int) := by rw [w64 (by omega) (by omega)]; omega
            have e2 : (((i - 1 : Nat) : Int)).toNat = i - 1 := by omega
            have q1 := hq.1
            have q2 := hq.2.1
            have q3 := hq.2.2.1
            rw [if_pos h4, e1, if_pos (by omega), if_pos (by omega), e2, w64 (x := hi (l.map toP) (i - 1) + 2) (by omega) (by omega)]
            by_cases h5 : lo (l.map toP) i < hi (l.map toP) (i - 1) + 2
            · rw [if_pos h5, hne (fun g => by have := g.2.2.2 (by omega); omega)]
            · rw [if_neg h5]
              exact go ⟨by omega, by omega, by omega, fun _ => by omega⟩
          · rw [if_neg h4]
            exact go ⟨by omega, by omega, by omega, fun h => by omega⟩
open Classical in
theorem iClassOk (l : List S146) (hl : l.length ≤ 1048576) (k : Nat) (hk : l.length < k) : impl_ClassOk.f k l = some (decide (classOk (l.map toP))) := by
  unfold impl_ClassOk.f
  have e : impl_ClassOk.l0 k l l (l.length : Int) 0 = some (decide (okFrom (l.map toP) 0)) := iClassOk_l l hl l.length k 0 hk (by omega) (by omega) (fun j hj => by omega)
  rw [e]
  congr 1
  exact decide_eq_decide.2 (okFrom_zero _)
open Classical in
theorem sClassOk_l (l : List S146) (hl : l.length ≤ 1048576) (d : Nat) : ∀ (k : Nat) (i : Nat), d < k → l.length - i = d → i ≤ l.length → (∀ j, j < i → okAt (l.map toP) j) →
    spec_ClassOk.l0 k l (i : Int) = some (decide (okFrom (l.map toP) i)) := by
  induction d with
  | zero =>
    intro k i hk hd hle _
    obtain ⟨k, rfl⟩ : ∃ m, k = m + 1 := ⟨k - 1, by omega⟩
    simp only [spec_ClassOk.l0]
    rw [if_neg (by omega), decide_eq_true (okFrom_end (by simp; omega))]
  | succ d ih =>
    intro k i hk hd hle hp
    obtain ⟨k, rfl⟩ : ∃ m, k = m + 1 := ⟨k - 1, by omega⟩
    have hlt : i < (l.map toP).length := by simp; omega
    have hst := okFrom_step (l := l.map toP) hlt
    have hne : ¬ okAt (l.map toP) i → decide (okFrom (l.map toP) i) = false := fun h => decide_eq_false (fun g => h (hst.1 g).1)
    simp only [spec_ClassOk.l0, toP_lo, toP_hi, sIn, Option.bind_some, decide_eq_true_eq]
    rw [if_pos (by omega), if_pos (by omega)]
    have ei : ((i : Nat) : Int).toNat = i := by omega
    rw [ei]
    by_cases h1 : 0 ≤ lo (l.map toP) i ∧ lo (l.map toP) i ≤ 255
    · rw [if_pos h1]
      by_cases h2 : lo (l.map toP) i ≤ hi (l.map toP) i ∧ hi (l.map toP) i ≤ 255
      · rw [if_pos h2]
        have en : wrap64 ((i : Int) + 1) = ((i + 1 : Nat) : Int) := by rw [w64 (by omega) (by omega)]; omega
        have go : okAt (l.map toP) i → spec_ClassOk.l0 k l (wrap64 ((i : Int) + 1)) = some (decide (okFrom (l.map toP) i)) := by
          intro g
          rw [en, ih k (i + 1) (by omega) (by omega) (by omega) (fun j hj => by
            rcases Nat.lt_or_eq_of_le (Nat.le_of_lt_succ hj) with h | h
            · exact hp j h
            · exact h ▸ g)]
          congr 1
          exact decide_eq_decide.2 ⟨fun h => hst.2 ⟨g, h⟩, fun h => (hst.1 h).2⟩
        by_cases h4 : (i : Int) > 0
        · have hq := hp (i - 1) (by omega)
          have e1 : (wrap64 ((i : Int) - 1)) = ((i - 1 : Nat) : Int) := by rw [w64 (by omega) (by omega)]; omega
          have e2 : (((i - 1 : Nat) : Int)).toNat = i - 1 := by omega
          have q1 := hq.1
          have q2 := hq.2.1
          have q3 := hq.2.2.1
          rw [if_pos h4, e1, if_pos (by omega), if_pos (by omega), e2, w64 (x := hi (l.map toP) (i - 1) + 2) (by omega) (by omega)]
          by_cases h5 : lo (l.map toP) i < hi (l.map toP) (i - 1) + 2
          · rw [if_pos h5, hne (fun g => by have := g.2.2.2 (by omega); omega)]
          · rw [if_neg h5]
            exact go ⟨by omega, by omega, by omega, fun _ => by omega⟩
        · rw [if_neg h4]
          exact go ⟨by omega, by omega, by omega, fun h => by omega⟩
      · rw [if_neg h2, hne (fun g => h2 ⟨g.2.1, g.2.2.1⟩)]
    · rw [if_neg h1, hne (fun g => h1 ⟨g.1, by have := g.2.1; have := g.2.2.1; omega⟩)]
open Classical in
theorem sClassOk (l : List S146) (hl : l.length ≤ 1048576) (k : Nat) (hk : l.length < k) : spec_ClassOk.f k l = some (decide (classOk (l.map toP))) := by
  unfold spec_ClassOk.f
  by_cases h : (l.length : Int) > 128
  · rw [if_pos h, decide_eq_false]
    intro g
    have := classOk_len g
    simp at this
    omega
  · rw [if_neg h]
    have e : spec_ClassOk.l0 k l 0 = some (decide (okFrom (l.map toP) 0)) := sClassOk_l l hl l.length k 0 hk (by omega) (by omega) (fun j hj => by omega)
    rw [e]
    congr 1
    exact decide_eq_decide.2 (okFrom_zero _)
def edgeOk (n : Int) (e : S153) : Prop := (0 ≤ e.f0 ∧ e.f0 ≤ n - 1) ∧ (0 ≤ e.f1 ∧ e.f1 ≤ n - 1) ∧ classOk (e.f2.map toP)
def endOk (n : Int) (i : Nat) (e : S156) : Prop := (0 ≤ e.f0 ∧ e.f0 ≤ n - 1) ∧ e.f1 = i
def edgeP (n : Int) (l : List S153) (i : Nat) : Prop := edgeOk n (rd_T153 l i)
def endP (n : Int) (l : List S156) (i : Nat) : Prop := endOk n i (rd_T156 l i)
def nfaOk (n : Int) (es : List S153) (fs : List S156) : Prop := (1 ≤ n ∧ n ≤ 3000) ∧ (es.length ≤ 12000 ∧ fs.length ≤ 40) ∧ fromN (edgeP n es) es.length 0 ∧ fromN (endP n fs) fs.length 0

theorem edge_len {es : List S153} (g : ∀ y ∈ es, bi_Edge y) (i : Nat) : (rd_T153 es i).f2.length ≤ 1048576 := by
  unfold rd_T153
  rw [Int.toNat_natCast, List.getD_eq_getElem?_getD]
  rcases Nat.lt_or_ge i es.length with h | h
  · rw [List.getElem?_eq_getElem h]
    exact g _ (List.getElem_mem h)
  · rw [List.getElem?_eq_none h]
    simp [z153]

open Classical in
theorem sNfa_l1 (n : Int) (hn : 1 ≤ n ∧ n ≤ 3000) (es : List S153) (fs : List S156) (hf : fs.length ≤ 40) (d : Nat) : ∀ (k i : Nat), d < k → fs.length - i = d → i ≤ fs.length →
    spec_NfaOk.l1 k (i : Int) n es fs = some (decide (fromN (endP n fs) fs.length i ∧ True)) := by
  induction d with
  | zero =>
    intro k i hk hd hi
    obtain ⟨k, rfl⟩ : ∃ m, k = m + 1 := ⟨k - 1, by omega⟩
    simp only [spec_NfaOk.l1]
    rw [if_neg (by omega), decide_eq_true ⟨fromN_end (by omega), trivial⟩]
  | succ d ih =>
    intro k i hk hd hi
    obtain ⟨k, rfl⟩ : ∃ m, k = m + 1 := ⟨k - 1, by omega⟩
    have hlt : i < fs.length := by omega
    simp only [spec_NfaOk.l1, sIn, Option.bind_some, decide_eq_true_eq]
    rw [if_pos (by omega), if_pos (by omega), w64 (x := n - 1) (by omega) (by omega), nat_next (by omega)]
    by_cases h1 : (rd_T156 fs i).f1 = (i : Int)
    · rw [if_pos h1]
      by_cases h2 : 0 ≤ (rd_T156 fs i).f0 ∧ (rd_T156 fs i).f0 ≤ n - 1
      · rw [if_pos h2, ih k (i + 1) (by omega) (by omega) (by omega)]; exact congrArg some (decide_eq_decide.2 (fromN_go hlt ⟨h2, h1⟩))
      · rw [if_neg h2, decide_eq_false (fromN_no hlt (fun g => h2 g.1))]
    · rw [if_neg h1, decide_eq_false (fromN_no hlt (fun g => h1 g.2))]
open Classical in
theorem sNfa_l0 (n : Int) (hn : 1 ≤ n ∧ n ≤ 3000) (es : List S153) (fs : List S156) (he : es.length ≤ 12000) (g : ∀ y ∈ es, bi_Edge y) (hf : fs.length ≤ 40) (d : Nat) : ∀ (k i : Nat), d + 1048578 < k → es.length - i = d → i ≤ es.length →
    spec_NfaOk.l0 k (i : Int) n es fs = some (decide (fromN (edgeP n es) es.length i ∧ fromN (endP n fs) fs.length 0)) := by
  induction d with
  | zero =>
    intro k i hk hd hi
    obtain ⟨k, rfl⟩ : ∃ m, k = m + 1 := ⟨k - 1, by omega⟩
    simp only [spec_NfaOk.l0]
    rw [if_neg (by omega)]
    have e : spec_NfaOk.l1 k 0 n es fs = some (decide (fromN (endP n fs) fs.length 0 ∧ True)) := sNfa_l1 n hn es fs hf fs.length k 0 (by omega) (by omega) (by omega)
    rw [e]
    congr 1
    exact decide_eq_decide.2 ⟨fun h => ⟨fromN_end (by omega), h.1⟩, fun h => ⟨h.2, trivial⟩⟩
  | succ d ih =>
    intro k i hk hd hi
    obtain ⟨k, rfl⟩ : ∃ m, k = m + 1 := ⟨k - 1, by omega⟩
    have hlt : i < es.length := by omega
    have hL := edge_len g i
    simp only [spec_NfaOk.l0, sIn, Option.bind_some, decide_eq_true_eq]
    rw [if_pos (by omega), if_pos (by omega), w64 (x := n - 1) (by omega) (by omega), nat_next (by omega)]
    by_cases h1 : 0 ≤ (rd_T153 es i).f0 ∧ (rd_T153 es i).f0 ≤ n - 1
    · rw [if_pos h1]
      by_cases h2 : 0 ≤ (rd_T153 es i).f1 ∧ (rd_T153 es i).f1 ≤ n - 1
      · rw [if_pos h2, sClassOk _ hL k (by omega)]
        simp only [Option.bind_some, decide_eq_true_eq]
        by_cases h3 : classOk ((rd_T153 es i).f2.map toP)
        · rw [if_pos h3, ih k (i + 1) (by omega) (by omega) (by omega)]; exact congrArg some (decide_eq_decide.2 (fromN_go hlt ⟨h1, h2, h3⟩))
        · rw [if_neg h3, decide_eq_false (fromN_no hlt (fun g => h3 g.2.2))]
      · rw [if_neg h2, decide_eq_false (fromN_no hlt (fun g => h2 g.2.1))]
    · rw [if_neg h1, decide_eq_false (fromN_no hlt (fun g => h1 g.1))]
open Classical in
theorem sNfaOk (n : Int) (es : List S153) (fs : List S156) (g : ∀ y ∈ es, bi_Edge y) (k : Nat) (hk : 2097156 ≤ k) : spec_NfaOk.f k n es fs = some (decide (nfaOk n es fs)) := by
  obtain ⟨k, rfl⟩ : ∃ m, k = m + 1 := ⟨k - 1, by omega⟩
  unfold spec_NfaOk.f
  simp only [sIn, Option.bind_some, decide_eq_true_eq]
  by_cases h1 : 1 ≤ n ∧ n ≤ 3000
  · rw [if_pos h1]
    by_cases h2 : (es.length : Int) > 12000
    · rw [if_pos h2, decide_eq_false (fun g => by have := g.2.1.1; omega)]
      simp [spec_NfaOk.j0]
    · rw [if_neg h2]
      by_cases h3 : (fs.length : Int) > 40
      · rw [decide_eq_true h3, decide_eq_false (fun g => by have := g.2.1.2; omega)]
        simp [spec_NfaOk.j0]
      · rw [decide_eq_false h3]
        simp only [spec_NfaOk.j0]
        rw [if_neg (by simp)]
        have e : spec_NfaOk.l0 k 0 n es fs = some (decide (fromN (edgeP n es) es.length 0 ∧ fromN (endP n fs) fs.length 0)) := sNfa_l0 n h1 es fs (by omega) g (by omega) es.length k 0 (by omega) (by omega) (by omega)
        rw [e]
        congr 1
        exact decide_eq_decide.2 ⟨fun h => ⟨h1, by omega, h⟩, fun h => h.2.2⟩
  · rw [if_neg h1, decide_eq_false (fun g => h1 g.1)]
    simp [spec_NfaOk.j0]

open Classical in
theorem iNfa_l1 (n : Int) (hn : 1 ≤ n ∧ n ≤ 3000) (es : List S153) (fs : List S156) (hf : fs.length ≤ 40) (d : Nat) : ∀ (k i : Nat), d < k → fs.length - i = d → i ≤ fs.length →
    impl_NfaOk.l1 k fs (fs.length : Int) (i : Int) n es fs = some (decide (fromN (endP n fs) fs.length i ∧ True)) := by
  induction d with
  | zero =>
    intro k i hk hd hi
    obtain ⟨k, rfl⟩ : ∃ m, k = m + 1 := ⟨k - 1, by omega⟩
    simp only [impl_NfaOk.l1]
    rw [if_neg (by omega), decide_eq_true ⟨fromN_end (by omega), trivial⟩]
  | succ d ih =>
    intro k i hk hd hi
    obtain ⟨k, rfl⟩ : ∃ m, k = m + 1 := ⟨k - 1, by omega⟩
    have hlt : i < fs.length := by omega
    simp only [impl_NfaOk.l1, iWithin, Option.bind_some, decide_eq_true_eq]
    rw [if_pos (by omega), if_pos (by omega), if_pos (by omega), w64 (x := n - 1) (by omega) (by omega), nat_next (by omega)]
    by_cases h2 : 0 ≤ (rd_T156 fs i).f0 ∧ (rd_T156 fs i).f0 ≤ n - 1
    · rw [if_pos h2]
      by_cases h1 : (rd_T156 fs i).f1 = (i : Int)
      · rw [if_pos h1, ih k (i + 1) (by omega) (by omega) (by omega)]; exact congrArg some (decide_eq_decide.2 (fromN_go hlt ⟨h2, h1⟩))
      · rw [if_neg h1, decide_eq_false (fromN_no hlt (fun g => h1 g.2))]
    · rw [if_neg h2, decide_eq_false (fromN_no hlt (fun g => h2 g.1))]
open Classical in
theorem iNfa_l0 (n : Int) (hn : 1 ≤ n ∧ n ≤ 3000) (es : List S153) (fs : List S156) (he : es.length ≤ 12000) (g : ∀ y ∈ es, bi_Edge y) (hf : fs.length ≤ 40) (d : Nat) : ∀ (k i : Nat), d + 1048578 < k → es.length - i = d → i ≤ es.length →
    impl_NfaOk.l0 k es (es.length : Int) (i : Int) n es fs = some (decide (fromN (edgeP n es) es.length i ∧ fromN (endP n fs) fs.length 0)) := by
  induction d with
  | zero =>
    intro k i hk hd hi
    obtain ⟨k, rfl⟩ : ∃ m, k = m + 1 := ⟨k - 1, by omega⟩
    simp only [impl_NfaOk.l0]
    rw [if_neg (by omega)]
    have e : impl_NfaOk.l1 k fs (fs.length : Int) 0 n es fs = some (decide (fromN (endP n fs) fs.length 0 ∧ True)) := iNfa_l1 n hn es fs hf fs.length k 0 (by omega) (by omega) (by omega)
    rw [e]
    congr 1
    exact decide_eq_decide.2 ⟨fun h => ⟨fromN_end (by omega), h.1⟩, fun h => ⟨h.2, trivial⟩⟩
  | succ d ih =>
    intro k i hk hd hi
    obtain ⟨k, rfl⟩ : ∃ m, k = m + 1 := ⟨k - 1, by omega⟩
    have hlt : i < es.length := by omega
    have hL := edge_len g i
    simp only [impl_NfaOk.l0, iWithin, Option.bind_some, decide_eq_true_eq]
    rw [if_pos (by omega), if_pos (by omega), if_pos (by omega), w64 (x := n - 1) (by omega) (by omega), nat_next (by omega)]
    by_cases h1 : 0 ≤ (rd_T153 es i).f0 ∧ (rd_T153 es i).f0 ≤ n - 1
    · rw [if_pos h1]
      by_cases h2 : 0 ≤ (rd_T153 es i).f1 ∧ (rd_T153 es i).f1 ≤ n - 1
      · rw [if_pos h2, iClassOk _ hL k (by omega)]
        simp only [Option.bind_some, decide_eq_true_eq]
        by_cases h3 : classOk ((rd_T153 es i).f2.map toP)
        · rw [if_pos h3, ih k (i + 1) (by omega) (by omega) (by omega)]; exact congrArg some (decide_eq_decide.2 (fromN_go hlt ⟨h1, h2, h3⟩))
        · rw [if_neg h3, decide_eq_false (fromN_no hlt (fun g => h3 g.2.2))]
      · rw [if_neg h2, decide_eq_false (fromN_no hlt (fun g => h2 g.2.1))]
    · rw [if_neg h1, decide_eq_false (fromN_no hlt (fun g => h1 g.1))]
open Classical in
theorem iNfaOk (n : Int) (es : List S153) (fs : List S156) (g : ∀ y ∈ es, bi_Edge y) (k : Nat) (hk : 2097156 ≤ k) : impl_NfaOk.f k n es fs = some (decide (nfaOk n es fs)) := by
  obtain ⟨k, rfl⟩ : ∃ m, k = m + 1 := ⟨k - 1, by omega⟩
  unfold impl_NfaOk.f
  simp only [iWithin, Option.bind_some, decide_eq_true_eq]
  by_cases h1 : 1 ≤ n ∧ n ≤ 3000
  · rw [if_pos h1]
    by_cases h2 : (es.length : Int) > 12000
    · rw [if_pos h2, decide_eq_false (fun g => by have := g.2.1.1; omega)]
      simp [impl_NfaOk.j0]
    · rw [if_neg h2]
      by_cases h3 : (fs.length : Int) > 40
      · rw [decide_eq_true h3, decide_eq_false (fun g => by have := g.2.1.2; omega)]
        simp [impl_NfaOk.j0]
      · rw [decide_eq_false h3]
        simp only [impl_NfaOk.j0]
        rw [if_neg (by simp)]
        have e : impl_NfaOk.l0 k es (es.length : Int) 0 n es fs = some (decide (fromN (edgeP n es) es.length 0 ∧ fromN (endP n fs) fs.length 0)) := iNfa_l0 n h1 es fs (by omega) g (by omega) es.length k 0 (by omega) (by omega) (by omega)
        rw [e]
        congr 1
        exact decide_eq_decide.2 ⟨fun h => ⟨h1, by omega, h⟩, fun h => h.2.2⟩
  · rw [if_neg h1, decide_eq_false (fun g => h1 g.1)]
    simp [impl_NfaOk.j0]

open Classical in
theorem FnExactNfaOk (x : Int × List S189 × List S192) (g : (Lit.int .i64 x.1).wf = true ∧ (x.2.1.length ≤ maxLen ∧ ∀ y ∈ x.2.1, gd_Edge y) ∧ (x.2.2.length ≤ maxLen ∧ ∀ y ∈ x.2.2, gd_End y)) : ∃ k, laws_FnExactNfaOk.f k x.1 x.2.1 x.2.2 = some true := by
  obtain ⟨n, es, fs⟩ := x
  suffices ∀ k, 10000000 ≤ k → laws_FnExactNfaOk.f k n es fs = some true from ⟨10000000, this _ (Nat.le_refl _)⟩
  intro k hk
  obtain ⟨r, e, _, _, h⟩ := szL_Nfa k (by omega) n es fs g 1048576 (by omega)
  unfold laws_FnExactNfaOk.f
  rw [e]
  simp only [Option.bind_some]
  by_cases hr : r < 0
  · rw [if_pos hr]
  · have hb := h (by omega)
    have hi : bi_EdgeS (es.map c_Edge) := ⟨by rw [List.length_map]; exact hb.1.1, fun y hy => by obtain ⟨z, hz, rfl⟩ := List.mem_map.1 hy; exact bi_of_Edge z (hb.1.2 z hz)⟩
    have hj : bi_EndS (fs.map c_End) := by unfold bi_EndS; rw [List.length_map]; exact hb.2
    rw [if_neg hr, toL_Nfa k (by omega) n es fs hb]
    simp only [Option.bind_some]
    rw [sNfaOk _ _ _ hi.2 k (by omega), iNfaOk _ _ _ hi.2 k (by omega)]
    simp only [Option.bind_some]
    rw [eqL_Nfa k (by omega) n _ _ ⟨hi, hj⟩]
    simp
end Go.Proofs.Ytledhlgfiekmgaa.Pure
