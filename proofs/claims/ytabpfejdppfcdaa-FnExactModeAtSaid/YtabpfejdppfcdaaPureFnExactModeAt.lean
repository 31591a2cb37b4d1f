/- The program's ModeAt and the reference's come to one place: whatever the grammar and the name. -/
import Derived.Test.YtabpfejdppfcdaaPFnExactModeAtx7
import Derived.Test.YtabpfejdppfcdaaKit
import Derived.Test.YtabpfejdppfcdaaKitClass
namespace Go.Proofs.Ytabpfejdppfcdaa.Pure
open Go.RowKit Go.Proofs.Ytabpfejdppfcdaa.PFnExactModeAt Go.Proofs.YtabpfejdppfcdaaW.PrintWords Go.Proofs.YtabpfejdppfcdaaW.PrintLast Go.Proofs.YtabpfejdppfcdaaW.PrintMore Go.Proofs.Ytabpfejdppfcdaa.Kit
set_option linter.unusedVariables false
def gd_Span (x : S230) : Prop := ((Lit.int .i64 x.f0).wf = true) ∧ ((Lit.int .i64 x.f1).wf = true)
def c_Span (x : S230) : S148 := ⟨x.f0, x.f1⟩
def gd_SpanS (x : List S230) : Prop := x.length ≤ maxLen ∧ ∀ y ∈ x, gd_Span y
def bd_SpanS (x : List S230) : Prop := x.length ≤ 1048576
def bi_SpanS (x : List S148) : Prop := x.length ≤ 1048576
def gd_Int64S (x : List Int) : Prop := x.length ≤ maxLen ∧ ∀ y ∈ x, (Lit.int .i64 y).wf = true
def bd_Int64S (x : List Int) : Prop := x.length ≤ 1048576
def bi_Int64S (x : List Int) : Prop := x.length ≤ 1048576
def gd_RNode (x : S206) : Prop := ((Lit.int .i64 x.f0).wf = true) ∧ (x.f1.length ≤ maxLen ∧ ∀ y ∈ x.f1, gd_Span y) ∧ (x.f2.length ≤ maxLen ∧ ∀ y ∈ x.f2, (Lit.int .i64 y).wf = true) ∧ ((Lit.int .i64 x.f3).wf = true) ∧ ((Lit.int .i64 x.f4).wf = true)
def bd_RNode (x : S206) : Prop := (x.f1.length ≤ 1048576) ∧ (x.f2.length ≤ 1048576)
def bi_RNode (x : S163) : Prop := (x.f1.length ≤ 1048576) ∧ (x.f2.length ≤ 1048576)
def c_RNode (x : S206) : S163 := ⟨x.f0, x.f1.map c_Span, x.f2, x.f3, x.f4⟩
theorem bi_of_RNode (x : S206) (h : bd_RNode x) : bi_RNode (c_RNode x) := ⟨(by show (List.map _ _).length ≤ _; rw [List.length_map]; exact h.1), h.2⟩
def gd_RNodeS (x : List S206) : Prop := x.length ≤ maxLen ∧ ∀ y ∈ x, gd_RNode y
def bd_RNodeS (x : List S206) : Prop := x.length ≤ 1048576 ∧ ∀ y ∈ x, bd_RNode y
def bi_RNodeS (x : List S163) : Prop := x.length ≤ 1048576 ∧ ∀ y ∈ x, bi_RNode y
def gd_Rx (x : S78) : Prop := (x.f0.length ≤ maxLen ∧ ∀ y ∈ x.f0, gd_RNode y)
def bd_Rx (x : S78) : Prop := (x.f0.length ≤ 1048576 ∧ ∀ y ∈ x.f0, bd_RNode y)
def bi_Rx (x : S83) : Prop := (x.f0.length ≤ 1048576 ∧ ∀ y ∈ x.f0, bi_RNode y)
def c_Rx (x : S78) : S83 := ⟨x.f0.map c_RNode⟩
theorem bi_of_Rx (x : S78) (h : bd_Rx x) : bi_Rx (c_Rx x) := ⟨by show (List.map _ _).length ≤ _; rw [List.length_map]; exact (h).1, fun y hy => by obtain ⟨z, hz, rfl⟩ := List.mem_map.1 hy; exact bi_of_RNode z ((h).2 z hz)⟩
def gd_Rule (x : S233) : Prop := (x.f0.size ≤ maxLen) ∧ (gd_Rx x.f1) ∧ (True) ∧ ((Lit.int .i64 x.f3).wf = true) ∧ (x.f4.size ≤ maxLen)
def bd_Rule (x : S233) : Prop := (x.f0.size ≤ 1048576) ∧ (bd_Rx x.f1) ∧ (x.f4.size ≤ 1048576)
def bi_Rule (x : S235) : Prop := (x.f0.size ≤ 1048576) ∧ (bi_Rx x.f1) ∧ (x.f4.size ≤ 1048576)
def c_Rule (x : S233) : S235 := ⟨x.f0, c_Rx x.f1, x.f2, x.f3, x.f4⟩
theorem bi_of_Rule (x : S233) (h : bd_Rule x) : bi_Rule (c_Rule x) := ⟨h.1, bi_of_Rx _ (h.2.1), h.2.2⟩
def gd_RuleS (x : List S233) : Prop := x.length ≤ maxLen ∧ ∀ y ∈ x, gd_Rule y
def bd_RuleS (x : List S233) : Prop := x.length ≤ 1048576 ∧ ∀ y ∈ x, bd_Rule y
def bi_RuleS (x : List S235) : Prop := x.length ≤ 1048576 ∧ ∀ y ∈ x, bi_Rule y
def gd_Mode (x : S215) : Prop := (x.f0.size ≤ maxLen) ∧ (x.f1.length ≤ maxLen ∧ ∀ y ∈ x.f1, gd_Rule y)
def bd_Mode (x : S215) : Prop := (x.f0.size ≤ 1048576) ∧ (x.f1.length ≤ 1048576 ∧ ∀ y ∈ x.f1, bd_Rule y)
def bi_Mode (x : S178) : Prop := (x.f0.size ≤ 1048576) ∧ (x.f1.length ≤ 1048576 ∧ ∀ y ∈ x.f1, bi_Rule y)
def c_Mode (x : S215) : S178 := ⟨x.f0, x.f1.map c_Rule⟩
theorem bi_of_Mode (x : S215) (h : bd_Mode x) : bi_Mode (c_Mode x) := ⟨h.1, ⟨by show (List.map _ _).length ≤ _; rw [List.length_map]; exact (h.2).1, fun y hy => by obtain ⟨z, hz, rfl⟩ := List.mem_map.1 hy; exact bi_of_Rule z ((h.2).2 z hz)⟩⟩
def gd_ModeS (x : List S215) : Prop := x.length ≤ maxLen ∧ ∀ y ∈ x, gd_Mode y
def bd_ModeS (x : List S215) : Prop := x.length ≤ 1048576 ∧ ∀ y ∈ x, bd_Mode y
def bi_ModeS (x : List S178) : Prop := x.length ≤ 1048576 ∧ ∀ y ∈ x, bi_Mode y
theorem szL_SpanS (k : Nat) (hk : 1048578 ≤ k) (l : List S230) (g : l.length ≤ maxLen ∧ ∀ y ∈ l, gd_Span y) (n : Int) (hn : 0 ≤ n ∧ n ≤ 1048576) : ∃ r, laws_szSpanS.f l n = some r ∧ -1 ≤ r ∧ r ≤ n ∧ (0 ≤ r → l.length ≤ 1048576) := by
  have hl := g.1
  unfold maxLen at hl
  unfold laws_szSpanS.f
  rw [w64 (by omega) (by omega)]
  by_cases h : n - (l.length : Int) < 0
  · rw [if_pos h]; exact ⟨-1, rfl, by omega, by omega, fun h => by omega⟩
  · rw [if_neg h]; exact ⟨_, rfl, by omega, by omega, fun _ => by omega⟩
theorem szL_Int64S (k : Nat) (hk : 1048578 ≤ k) (l : List Int) (g : l.length ≤ maxLen ∧ ∀ y ∈ l, (Lit.int .i64 y).wf = true) (n : Int) (hn : 0 ≤ n ∧ n ≤ 1048576) : ∃ r, laws_szInt64S.f l n = some r ∧ -1 ≤ r ∧ r ≤ n ∧ (0 ≤ r → l.length ≤ 1048576) := by
  have hl := g.1
  unfold maxLen at hl
  unfold laws_szInt64S.f
  rw [w64 (by omega) (by omega)]
  by_cases h : n - (l.length : Int) < 0
  · rw [if_pos h]; exact ⟨-1, rfl, by omega, by omega, fun h => by omega⟩
  · rw [if_neg h]; exact ⟨_, rfl, by omega, by omega, fun _ => by omega⟩
theorem szL_RNode (k : Nat) (hk : 1048578 ≤ k) (f0 : Int) (f1 : List S230) (f2 : List Int) (f3 : Int) (f4 : Int) (g : ((Lit.int .i64 f0).wf = true) ∧ (f1.length ≤ maxLen ∧ ∀ y ∈ f1, gd_Span y) ∧ (f2.length ≤ maxLen ∧ ∀ y ∈ f2, (Lit.int .i64 y).wf = true) ∧ ((Lit.int .i64 f3).wf = true) ∧ ((Lit.int .i64 f4).wf = true)) (n : Int) (hn : 0 ≤ n ∧ n ≤ 1048576) : ∃ r, laws_szRNode.f f0 f1 f2 f3 f4 n = some r ∧ -1 ≤ r ∧ r ≤ n ∧ (0 ≤ r → (f1.length ≤ 1048576) ∧ (f2.length ≤ 1048576)) := by
  unfold laws_szRNode.f
  obtain ⟨r1, e1, a1, b1, d1⟩ := szL_SpanS k (by omega) f1 g.2.1 n (by omega)
  rw [e1]
  simp only [Option.bind_some]
  by_cases c1 : r1 < 0
  · rw [if_pos c1]; exact ⟨-1, rfl, by omega, by omega, fun h => by omega⟩
  rw [if_neg c1]
  obtain ⟨r2, e2, a2, b2, d2⟩ := szL_Int64S k (by omega) f2 g.2.2.1 r1 (by omega)
  rw [e2]
  simp only [Option.bind_some]
  by_cases c2 : r2 < 0
  · rw [if_pos c2]; exact ⟨-1, rfl, by omega, by omega, fun h => by omega⟩
  rw [if_neg c2]
  exact ⟨r2, rfl, by omega, by omega, fun _ => ⟨(d1 (by omega)), (d2 (by omega))⟩⟩
theorem szL_RNodeS_l (l : List S206) (g : ∀ y ∈ l, gd_RNode y) (hl : l.length ≤ 1048576) (d : Nat) : ∀ (k : Nat) (x i : Int), d + 1048578 < k → 0 ≤ i → (l.length : Int) - i = d → 0 ≤ x → x ≤ 1048576 →
    ∃ r, laws_szRNodeS.l0 k l x i = some r ∧ -1 ≤ r ∧ r ≤ x ∧ (0 ≤ r → ∀ j : Nat, i ≤ (j : Int) → (h : j < l.length) → bd_RNode l[j]) := by
  induction d with
  | zero =>
    intro k x i hk h0 hd g0 g1
    obtain ⟨k, rfl⟩ : ∃ m, k = m + 1 := ⟨k - 1, by omega⟩
    refine ⟨x, ?_, by omega, by omega, fun _ j h1 h2 => by omega⟩
    simp only [laws_szRNodeS.l0]
    rw [if_neg (by omega)]
  | succ d ih =>
    intro k x i hk h0 hd g0 g1
    obtain ⟨k, rfl⟩ : ∃ m, k = m + 1 := ⟨k - 1, by omega⟩
    have hi : i.toNat < l.length := by omega
    have e : rd_T206 l i = l[i.toNat] := by
      unfold rd_T206
      rw [List.getD_eq_getElem?_getD, List.getElem?_eq_getElem hi]
      rfl
    have hg := g l[i.toNat] (List.getElem_mem hi)
    obtain ⟨r, er, r1, r2, r3⟩ := szL_RNode k (by omega) l[i.toNat].f0 l[i.toNat].f1 l[i.toNat].f2 l[i.toNat].f3 l[i.toNat].f4 hg x ⟨g0, g1⟩
    simp only [laws_szRNodeS.l0, e]
    rw [if_pos (by omega), if_pos h0, er]
    simp only [Option.bind_some]
    by_cases hr : r < 0
    · rw [if_pos hr]; exact ⟨-1, rfl, by omega, by omega, fun h => by omega⟩
    · rw [if_neg hr, w64 (by omega) (by omega)]
      obtain ⟨q, eq, q1, q2, q3⟩ := ih k r (i + 1) (by omega) (by omega) (by omega) (by omega) (by omega)
      refine ⟨q, eq, q1, by omega, fun h j h1 h2 => ?_⟩
      by_cases hj : (j : Int) = i
      · have : j = i.toNat := by omega
        subst this; exact r3 (by omega)
      · exact q3 h j (by omega) h2
theorem szL_RNodeS (k : Nat) (hk : 2097156 ≤ k) (l : List S206) (g : l.length ≤ maxLen ∧ ∀ y ∈ l, gd_RNode y) (n : Int) (hn : 0 ≤ n ∧ n ≤ 1048576) : ∃ r, laws_szRNodeS.f k l n = some r ∧ -1 ≤ r ∧ r ≤ n ∧ (0 ≤ r → l.length ≤ 1048576 ∧ ∀ y ∈ l, bd_RNode y) := by
  have hl := g.1
  unfold maxLen at hl
  unfold laws_szRNodeS.f
  rw [w64 (x := n - (l.length : Int)) (by omega) (by omega)]
  by_cases h : n - (l.length : Int) < 0
  · rw [if_pos h]; exact ⟨-1, rfl, by omega, by omega, fun h => by omega⟩
  · rw [if_neg h]
    obtain ⟨r, e, r1, r2, r3⟩ := szL_RNodeS_l l g.2 (by omega) l.length k (n - (l.length : Int)) 0 (by omega) (by omega) (by omega) (by omega) (by omega)
    exact ⟨r, e, r1, by omega, fun hr => ⟨by omega, fun y hy => by
      obtain ⟨j, hj, rfl⟩ := List.mem_iff_getElem.1 hy
      exact r3 hr j (by omega) hj⟩⟩
theorem szL_Rx (k : Nat) (hk : 2097156 ≤ k) (f0 : List S206) (g : (f0.length ≤ maxLen ∧ ∀ y ∈ f0, gd_RNode y)) (n : Int) (hn : 0 ≤ n ∧ n ≤ 1048576) : ∃ r, laws_szRx.f k f0 n = some r ∧ -1 ≤ r ∧ r ≤ n ∧ (0 ≤ r → (f0.length ≤ 1048576 ∧ ∀ y ∈ f0, bd_RNode y)) := by
  unfold laws_szRx.f
  obtain ⟨r1, e1, a1, b1, d1⟩ := szL_RNodeS k (by omega) f0 g n (by omega)
  rw [e1]
  simp only [Option.bind_some]
  by_cases c1 : r1 < 0
  · rw [if_pos c1]; exact ⟨-1, rfl, by omega, by omega, fun h => by omega⟩
  rw [if_neg c1]
  exact ⟨r1, rfl, by omega, by omega, fun _ => (d1 (by omega))⟩
theorem szL_Rule (k : Nat) (hk : 2097156 ≤ k) (f0 : ByteArray) (f1 : S78) (f2 : Bool) (f3 : Int) (f4 : ByteArray) (g : (f0.size ≤ maxLen) ∧ (gd_Rx f1) ∧ (True) ∧ ((Lit.int .i64 f3).wf = true) ∧ (f4.size ≤ maxLen)) (n : Int) (hn : 0 ≤ n ∧ n ≤ 1048576) : ∃ r, laws_szRule.f k f0 f1.f0 f2 f3 f4 n = some r ∧ -1 ≤ r ∧ r ≤ n ∧ (0 ≤ r → (f0.size ≤ 1048576) ∧ (bd_Rx f1) ∧ (f4.size ≤ 1048576)) := by
  unfold laws_szRule.f
  have z1 : f0.size ≤ maxLen := g.1
  unfold maxLen at z1
  rw [w64 (x := n - (f0.size : Int)) (by omega) (by omega)]
  by_cases c1 : n - (f0.size : Int) < 0
  · rw [if_pos c1]; exact ⟨-1, rfl, by omega, by omega, fun h => by omega⟩
  rw [if_neg c1]
  obtain ⟨r2, e2, a2, b2, d2⟩ := szL_Rx k (by omega) f1.f0 g.2.1 (n - (f0.size : Int)) (by omega)
  rw [e2]
  simp only [Option.bind_some]
  by_cases c2 : r2 < 0
  · rw [if_pos c2]; exact ⟨-1, rfl, by omega, by omega, fun h => by omega⟩
  rw [if_neg c2]
  have z3 : f4.size ≤ maxLen := g.2.2.2.2
  unfold maxLen at z3
  rw [w64 (x := r2 - (f4.size : Int)) (by omega) (by omega)]
  by_cases c3 : r2 - (f4.size : Int) < 0
  · rw [if_pos c3]; exact ⟨-1, rfl, by omega, by omega, fun h => by omega⟩
  rw [if_neg c3]
  exact ⟨(r2 - (f4.size : Int)), rfl, by omega, by omega, fun _ => ⟨(by omega), (d2 (by omega)), (by omega)⟩⟩
theorem szL_RuleS_l (l : List S233) (g : ∀ y ∈ l, gd_Rule y) (hl : l.length ≤ 1048576) (d : Nat) : ∀ (k : Nat) (x i : Int), d + 2097156 < k → 0 ≤ i → (l.length : Int) - i = d → 0 ≤ x → x ≤ 1048576 →
    ∃ r, laws_szRuleS.l0 k l x i = some r ∧ -1 ≤ r ∧ r ≤ x ∧ (0 ≤ r → ∀ j : Nat, i ≤ (j : Int) → (h : j < l.length) → bd_Rule l[j]) := by
  induction d with
  | zero =>
    intro k x i hk h0 hd g0 g1
    obtain ⟨k, rfl⟩ : ∃ m, k = m + 1 := ⟨k - 1, by omega⟩
    refine ⟨x, ?_, by omega, by omega, fun _ j h1 h2 => by omega⟩
    simp only [laws_szRuleS.l0]
    rw [if_neg (by omega)]
  | succ d ih =>
    intro k x i hk h0 hd g0 g1
    obtain ⟨k, rfl⟩ : ∃ m, k = m + 1 := ⟨k - 1, by omega⟩
    have hi : i.toNat < l.length := by omega
    have e : rd_T233 l i = l[i.toNat] := by
      unfold rd_T233
      rw [List.getD_eq_getElem?_getD, List.getElem?_eq_getElem hi]
      rfl
    have hg := g l[i.toNat] (List.getElem_mem hi)
    obtain ⟨r, er, r1, r2, r3⟩ := szL_Rule k (by omega) l[i.toNat].f0 l[i.toNat].f1 l[i.toNat].f2 l[i.toNat].f3 l[i.toNat].f4 hg x ⟨g0, g1⟩
    simp only [laws_szRuleS.l0, e]
    rw [if_pos (by omega), if_pos h0, er]
    simp only [Option.bind_some]
    by_cases hr : r < 0
    · rw [if_pos hr]; exact ⟨-1, rfl, by omega, by omega, fun h => by omega⟩
    · rw [if_neg hr, w64 (by omega) (by omega)]
      obtain ⟨q, eq, q1, q2, q3⟩ := ih k r (i + 1) (by omega) (by omega) (by omega) (by omega) (by omega)
      refine ⟨q, eq, q1, by omega, fun h j h1 h2 => ?_⟩
      by_cases hj : (j : Int) = i
      · have : j = i.toNat := by omega
        subst this; exact r3 (by omega)
      · exact q3 h j (by omega) h2
theorem szL_RuleS (k : Nat) (hk : 3145734 ≤ k) (l : List S233) (g : l.length ≤ maxLen ∧ ∀ y ∈ l, gd_Rule y) (n : Int) (hn : 0 ≤ n ∧ n ≤ 1048576) : ∃ r, laws_szRuleS.f k l n = some r ∧ -1 ≤ r ∧ r ≤ n ∧ (0 ≤ r → l.length ≤ 1048576 ∧ ∀ y ∈ l, bd_Rule y) := by
  have hl := g.1
  unfold maxLen at hl
  unfold laws_szRuleS.f
  rw [w64 (x := n - (l.length : Int)) (by omega) (by omega)]
  by_cases h : n - (l.length : Int) < 0
  · rw [if_pos h]; exact ⟨-1, rfl, by omega, by omega, fun h => by omega⟩
  · rw [if_neg h]
    obtain ⟨r, e, r1, r2, r3⟩ := szL_RuleS_l l g.2 (by omega) l.length k (n - (l.length : Int)) 0 (by omega) (by omega) (by omega) (by omega) (by omega)
    exact ⟨r, e, r1, by omega, fun hr => ⟨by omega, fun y hy => by
      obtain ⟨j, hj, rfl⟩ := List.mem_iff_getElem.1 hy
      exact r3 hr j (by omega) hj⟩⟩
theorem szL_Mode (k : Nat) (hk : 3145734 ≤ k) (f0 : ByteArray) (f1 : List S233) (g : (f0.size ≤ maxLen) ∧ (f1.length ≤ maxLen ∧ ∀ y ∈ f1, gd_Rule y)) (n : Int) (hn : 0 ≤ n ∧ n ≤ 1048576) : ∃ r, laws_szMode.f k f0 f1 n = some r ∧ -1 ≤ r ∧ r ≤ n ∧ (0 ≤ r → (f0.size ≤ 1048576) ∧ (f1.length ≤ 1048576 ∧ ∀ y ∈ f1, bd_Rule y)) := by
  unfold laws_szMode.f
  have z1 : f0.size ≤ maxLen := g.1
  unfold maxLen at z1
  rw [w64 (x := n - (f0.size : Int)) (by omega) (by omega)]
  by_cases c1 : n - (f0.size : Int) < 0
  · rw [if_pos c1]; exact ⟨-1, rfl, by omega, by omega, fun h => by omega⟩
  rw [if_neg c1]
  obtain ⟨r2, e2, a2, b2, d2⟩ := szL_RuleS k (by omega) f1 g.2 (n - (f0.size : Int)) (by omega)
  rw [e2]
  simp only [Option.bind_some]
  by_cases c2 : r2 < 0
  · rw [if_pos c2]; exact ⟨-1, rfl, by omega, by omega, fun h => by omega⟩
  rw [if_neg c2]
  exact ⟨r2, rfl, by omega, by omega, fun _ => ⟨(by omega), (d2 (by omega))⟩⟩
theorem szL_ModeS_l (l : List S215) (g : ∀ y ∈ l, gd_Mode y) (hl : l.length ≤ 1048576) (d : Nat) : ∀ (k : Nat) (x i : Int), d + 3145734 < k → 0 ≤ i → (l.length : Int) - i = d → 0 ≤ x → x ≤ 1048576 →
    ∃ r, laws_szModeS.l0 k l x i = some r ∧ -1 ≤ r ∧ r ≤ x ∧ (0 ≤ r → ∀ j : Nat, i ≤ (j : Int) → (h : j < l.length) → bd_Mode l[j]) := by
  induction d with
  | zero =>
    intro k x i hk h0 hd g0 g1
    obtain ⟨k, rfl⟩ : ∃ m, k = m + 1 := ⟨k - 1, by omega⟩
    refine ⟨x, ?_, by omega, by omega, fun _ j h1 h2 => by omega⟩
    simp only [laws_szModeS.l0]
    rw [if_neg (by omega)]
  | succ d ih =>
    intro k x i hk h0 hd g0 g1
    obtain ⟨k, rfl⟩ : ∃ m, k = m + 1 := ⟨k - 1, by omega⟩
    have hi : i.toNat < l.length := by omega
    have e : rd_T215 l i = l[i.toNat] := by
      unfold rd_T215
      rw [List.getD_eq_getElem?_getD, List.getElem?_eq_getElem hi]
      rfl
    have hg := g l[i.toNat] (List.getElem_mem hi)
    obtain ⟨r, er, r1, r2, r3⟩ := szL_Mode k (by omega) l[i.toNat].f0 l[i.toNat].f1 hg x ⟨g0, g1⟩
    simp only [laws_szModeS.l0, e]
    rw [if_pos (by omega), if_pos h0, er]
    simp only [Option.bind_some]
    by_cases hr : r < 0
    · rw [if_pos hr]; exact ⟨-1, rfl, by omega, by omega, fun h => by omega⟩
    · rw [if_neg hr, w64 (by omega) (by omega)]
      obtain ⟨q, eq, q1, q2, q3⟩ := ih k r (i + 1) (by omega) (by omega) (by omega) (by omega) (by omega)
      refine ⟨q, eq, q1, by omega, fun h j h1 h2 => ?_⟩
      by_cases hj : (j : Int) = i
      · have : j = i.toNat := by omega
        subst this; exact r3 (by omega)
      · exact q3 h j (by omega) h2
theorem szL_ModeS (k : Nat) (hk : 4194312 ≤ k) (l : List S215) (g : l.length ≤ maxLen ∧ ∀ y ∈ l, gd_Mode y) (n : Int) (hn : 0 ≤ n ∧ n ≤ 1048576) : ∃ r, laws_szModeS.f k l n = some r ∧ -1 ≤ r ∧ r ≤ n ∧ (0 ≤ r → l.length ≤ 1048576 ∧ ∀ y ∈ l, bd_Mode y) := by
  have hl := g.1
  unfold maxLen at hl
  unfold laws_szModeS.f
  rw [w64 (x := n - (l.length : Int)) (by omega) (by omega)]
  by_cases h : n - (l.length : Int) < 0
  · rw [if_pos h]; exact ⟨-1, rfl, by omega, by omega, fun h => by omega⟩
  · rw [if_neg h]
    obtain ⟨r, e, r1, r2, r3⟩ := szL_ModeS_l l g.2 (by omega) l.length k (n - (l.length : Int)) 0 (by omega) (by omega) (by omega) (by omega) (by omega)
    exact ⟨r, e, r1, by omega, fun hr => ⟨by omega, fun y hy => by
      obtain ⟨j, hj, rfl⟩ := List.mem_iff_getElem.1 hy
      exact r3 hr j (by omega) hj⟩⟩
theorem szL_Grammar (k : Nat) (hk : 4194312 ≤ k) (f0 : List S215) (g : (f0.length ≤ maxLen ∧ ∀ y ∈ f0, gd_Mode y)) (n : Int) (hn : 0 ≤ n ∧ n ≤ 1048576) : ∃ r, laws_szGrammar.f k f0 n = some r ∧ -1 ≤ r ∧ r ≤ n ∧ (0 ≤ r → (f0.length ≤ 1048576 ∧ ∀ y ∈ f0, bd_Mode y)) := by
  unfold laws_szGrammar.f
  obtain ⟨r1, e1, a1, b1, d1⟩ := szL_ModeS k (by omega) f0 g n (by omega)
  rw [e1]
  simp only [Option.bind_some]
  by_cases c1 : r1 < 0
  · rw [if_pos c1]; exact ⟨-1, rfl, by omega, by omega, fun h => by omega⟩
  rw [if_neg c1]
  exact ⟨r1, rfl, by omega, by omega, fun _ => (d1 (by omega))⟩
theorem toL_Span (k : Nat) (hk : 0 ≤ k) (f0 : Int) (f1 : Int) (g : True) : laws_toSpan.f f0 f1 = some (f0, f1) := by
  unfold laws_toSpan.f
  all_goals (first | rfl | simp)
theorem toL_SpanS_l (l : List S230) (hl : l.length ≤ 1048576) (d : Nat) : ∀ (k : Nat) (acc : List S148) (i : Int), d + 0 < k → 0 ≤ i → (l.length : Int) - i = d → acc.length = l.length →
    laws_toSpanS.l0 k l acc i = some (acc.take i.toNat ++ (l.map c_Span).drop i.toNat) := by
  induction d with
  | zero =>
    intro k acc i hk h0 hd ha
    obtain ⟨k, rfl⟩ : ∃ m, k = m + 1 := ⟨k - 1, by omega⟩
    simp only [laws_toSpanS.l0]
    rw [if_neg (by omega), List.take_of_length_le (by omega), List.drop_eq_nil_of_le (by first | omega | (rw [List.length_map]; omega)), List.append_nil]
  | succ d ih =>
    intro k acc i hk h0 hd ha
    obtain ⟨k, rfl⟩ : ∃ m, k = m + 1 := ⟨k - 1, by omega⟩
    have hi : i.toNat < l.length := by omega
    have e : rd_T230 l i = l[i.toNat] := by
      unfold rd_T230
      rw [List.getD_eq_getElem?_getD, List.getElem?_eq_getElem hi]
      rfl
    have ee := toL_Span k (by omega) l[i.toNat].f0 l[i.toNat].f1 trivial
    simp only [laws_toSpanS.l0, e]
    rw [if_pos (by omega), if_pos h0, ee]
    simp only [Option.bind_some]
    rw [if_pos (by omega), w64 (by omega) (by omega)]
    rw [ih k _ _ (by omega) (by omega) (by omega) (by simpa using ha)]
    have e1 : (i + 1).toNat = i.toNat + 1 := by omega
    rw [e1, List.take_succ_eq_append_getElem (by simp; omega), List.take_set_of_le (Nat.le_refl _), List.getElem_set_self, List.append_assoc, List.singleton_append]
    congr 2
    rw [List.drop_eq_getElem_cons (i := i.toNat) (by simpa using hi), List.getElem_map]
    try rfl
theorem toL_SpanS (k : Nat) (hk : 1048578 ≤ k) (l : List S230) (g : l.length ≤ 1048576) : laws_toSpanS.f k l = some (l.map c_Span) := by
  have hl : l.length ≤ 1048576 := g
  unfold laws_toSpanS.f
  rw [if_pos (by omega), if_pos (by omega), toL_SpanS_l l hl l.length k _ 0 (by omega) (by omega) (by omega) (by simp)]
  simp
theorem toL_Int64S_l (l : List Int) (hl : l.length ≤ 1048576) (d : Nat) : ∀ (k : Nat) (acc : List Int) (i : Int), d + 0 < k → 0 ≤ i → (l.length : Int) - i = d → acc.length = l.length →
    laws_toInt64S.l0 k l acc i = some (acc.take i.toNat ++ (l).drop i.toNat) := by
  induction d with
  | zero =>
    intro k acc i hk h0 hd ha
    obtain ⟨k, rfl⟩ : ∃ m, k = m + 1 := ⟨k - 1, by omega⟩
    simp only [laws_toInt64S.l0]
    rw [if_neg (by omega), List.take_of_length_le (by omega), List.drop_eq_nil_of_le (by first | omega | (rw [List.length_map]; omega)), List.append_nil]
  | succ d ih =>
    intro k acc i hk h0 hd ha
    obtain ⟨k, rfl⟩ : ∃ m, k = m + 1 := ⟨k - 1, by omega⟩
    have hi : i.toNat < l.length := by omega
    have e : rd l i = l[i.toNat] := by
      unfold rd
      rw [List.getD_eq_getElem?_getD, List.getElem?_eq_getElem hi]
      rfl
    simp only [laws_toInt64S.l0, e]
    rw [if_pos (by omega), if_pos h0, if_pos (by omega), w64 (by omega) (by omega), ih k _ _ (by omega) (by omega) (by omega) (by simpa using ha)]
    have e1 : (i + 1).toNat = i.toNat + 1 := by omega
    rw [e1, List.take_succ_eq_append_getElem (by simp; omega), List.take_set_of_le (Nat.le_refl _), List.getElem_set_self, List.append_assoc, List.singleton_append]
    congr 2
    rw [List.drop_eq_getElem_cons (i := i.toNat) hi]
theorem toL_Int64S (k : Nat) (hk : 1048578 ≤ k) (l : List Int) (g : l.length ≤ 1048576) : laws_toInt64S.f k l = some (l) := by
  have hl : l.length ≤ 1048576 := g
  unfold laws_toInt64S.f
  rw [if_pos (by omega), if_pos (by omega), toL_Int64S_l l hl l.length k _ 0 (by omega) (by omega) (by omega) (by simp)]
  simp
theorem toL_RNode (k : Nat) (hk : 1048578 ≤ k) (f0 : Int) (f1 : List S230) (f2 : List Int) (f3 : Int) (f4 : Int) (g : (f1.length ≤ 1048576) ∧ (f2.length ≤ 1048576)) : laws_toRNode.f k f0 f1 f2 f3 f4 = some (f0, f1.map c_Span, f2, f3, f4) := by
  unfold laws_toRNode.f
  rw [toL_SpanS k (by omega) f1 (g.1)]
  simp only [Option.bind_some]
  rw [toL_Int64S k (by omega) f2 (g.2)]
  simp only [Option.bind_some]
  all_goals (first | rfl | simp)
theorem toL_RNodeS_l (l : List S206) (g : ∀ y ∈ l, bd_RNode y) (hl : l.length ≤ 1048576) (d : Nat) : ∀ (k : Nat) (acc : List S163) (i : Int), d + 1048578 < k → 0 ≤ i → (l.length : Int) - i = d → acc.length = l.length →
    laws_toRNodeS.l0 k l acc i = some (acc.take i.toNat ++ (l.map c_RNode).drop i.toNat) := by
  induction d with
  | zero =>
    intro k acc i hk h0 hd ha
    obtain ⟨k, rfl⟩ : ∃ m, k = m + 1 := ⟨k - 1, by omega⟩
    simp only [laws_toRNodeS.l0]
    rw [if_neg (by omega), List.take_of_length_le (by omega), List.drop_eq_nil_of_le (by first | omega | (rw [List.length_map]; omega)), List.append_nil]
  | succ d ih =>
    intro k acc i hk h0 hd ha
    obtain ⟨k, rfl⟩ : ∃ m, k = m + 1 := ⟨k - 1, by omega⟩
    have hi : i.toNat < l.length := by omega
    have e : rd_T206 l i = l[i.toNat] := by
      unfold rd_T206
      rw [List.getD_eq_getElem?_getD, List.getElem?_eq_getElem hi]
      rfl
    have ee := toL_RNode k (by omega) l[i.toNat].f0 l[i.toNat].f1 l[i.toNat].f2 l[i.toNat].f3 l[i.toNat].f4 (g l[i.toNat] (List.getElem_mem hi))
    simp only [laws_toRNodeS.l0, e]
    rw [if_pos (by omega), if_pos h0, ee]
    simp only [Option.bind_some]
    rw [if_pos (by omega), w64 (by omega) (by omega)]
    rw [ih k _ _ (by omega) (by omega) (by omega) (by simpa using ha)]
    have e1 : (i + 1).toNat = i.toNat + 1 := by omega
    rw [e1, List.take_succ_eq_append_getElem (by simp; omega), List.take_set_of_le (Nat.le_refl _), List.getElem_set_self, List.append_assoc, List.singleton_append]
    congr 2
    rw [List.drop_eq_getElem_cons (i := i.toNat) (by simpa using hi), List.getElem_map]
    try rfl
theorem toL_RNodeS (k : Nat) (hk : 2097156 ≤ k) (l : List S206) (g : l.length ≤ 1048576 ∧ ∀ y ∈ l, bd_RNode y) : laws_toRNodeS.f k l = some (l.map c_RNode) := by
  have hl : l.length ≤ 1048576 := g.1
  unfold laws_toRNodeS.f
  rw [if_pos (by omega), if_pos (by omega), toL_RNodeS_l l g.2 hl l.length k _ 0 (by omega) (by omega) (by omega) (by simp)]
  simp
theorem toL_Rx (k : Nat) (hk : 2097156 ≤ k) (f0 : List S206) (g : (f0.length ≤ 1048576 ∧ ∀ y ∈ f0, bd_RNode y)) : laws_toRx.f k f0 = some (f0.map c_RNode) := by
  unfold laws_toRx.f
  rw [toL_RNodeS k (by omega) f0 (g)]
  simp only [Option.bind_some]
  all_goals (first | rfl | simp)
theorem toL_Rule (k : Nat) (hk : 2097156 ≤ k) (f0 : ByteArray) (f1 : S78) (f2 : Bool) (f3 : Int) (f4 : ByteArray) (g : (f0.size ≤ 1048576) ∧ (bd_Rx f1) ∧ (f4.size ≤ 1048576)) : laws_toRule.f k f0 f1.f0 f2 f3 f4 = some (f0, (c_Rx f1).f0, f2, f3, f4) := by
  unfold laws_toRule.f
  rw [toL_Rx k (by omega) f1.f0 (g.2.1)]
  simp only [Option.bind_some]
  all_goals (first | rfl | simp)
theorem toL_RuleS_l (l : List S233) (g : ∀ y ∈ l, bd_Rule y) (hl : l.length ≤ 1048576) (d : Nat) : ∀ (k : Nat) (acc : List S235) (i : Int), d + 2097156 < k → 0 ≤ i → (l.length : Int) - i = d → acc.length = l.length →
    laws_toRuleS.l0 k l acc i = some (acc.take i.toNat ++ (l.map c_Rule).drop i.toNat) := by
  induction d with
  | zero =>
    intro k acc i hk h0 hd ha
    obtain ⟨k, rfl⟩ : ∃ m, k = m + 1 := ⟨k - 1, by omega⟩
    simp only [laws_toRuleS.l0]
    rw [if_neg (by omega), List.take_of_length_le (by omega), List.drop_eq_nil_of_le (by first | omega | (rw [List.length_map]; omega)), List.append_nil]
  | succ d ih =>
    intro k acc i hk h0 hd ha
    obtain ⟨k, rfl⟩ : ∃ m, k = m + 1 := ⟨k - 1, by omega⟩
    have hi : i.toNat < l.length := by omega
    have e : rd_T233 l i = l[i.toNat] := by
      unfold rd_T233
      rw [List.getD_eq_getElem?_getD, List.getElem?_eq_getElem hi]
      rfl
    have ee := toL_Rule k (by omega) l[i.toNat].f0 l[i.toNat].f1 l[i.toNat].f2 l[i.toNat].f3 l[i.toNat].f4 (g l[i.toNat] (List.getElem_mem hi))
    simp only [laws_toRuleS.l0, e]
    rw [if_pos (by omega), if_pos h0, ee]
    simp only [Option.bind_some]
    rw [if_pos (by omega), w64 (by omega) (by omega)]
    rw [ih k _ _ (by omega) (by omega) (by omega) (by simpa using ha)]
    have e1 : (i + 1).toNat = i.toNat + 1 := by omega
    rw [e1, List.take_succ_eq_append_getElem (by simp; omega), List.take_set_of_le (Nat.le_refl _), List.getElem_set_self, List.append_assoc, List.singleton_append]
    congr 2
    rw [List.drop_eq_getElem_cons (i := i.toNat) (by simpa using hi), List.getElem_map]
    try rfl
theorem toL_RuleS (k : Nat) (hk : 3145734 ≤ k) (l : List S233) (g : l.length ≤ 1048576 ∧ ∀ y ∈ l, bd_Rule y) : laws_toRuleS.f k l = some (l.map c_Rule) := by
  have hl : l.length ≤ 1048576 := g.1
  unfold laws_toRuleS.f
  rw [if_pos (by omega), if_pos (by omega), toL_RuleS_l l g.2 hl l.length k _ 0 (by omega) (by omega) (by omega) (by simp)]
  simp
theorem toL_Mode (k : Nat) (hk : 3145734 ≤ k) (f0 : ByteArray) (f1 : List S233) (g : (f0.size ≤ 1048576) ∧ (f1.length ≤ 1048576 ∧ ∀ y ∈ f1, bd_Rule y)) : laws_toMode.f k f0 f1 = some (f0, f1.map c_Rule) := by
  unfold laws_toMode.f
  rw [toL_RuleS k (by omega) f1 (g.2)]
  simp only [Option.bind_some]
  all_goals (first | rfl | simp)
theorem toL_ModeS_l (l : List S215) (g : ∀ y ∈ l, bd_Mode y) (hl : l.length ≤ 1048576) (d : Nat) : ∀ (k : Nat) (acc : List S178) (i : Int), d + 3145734 < k → 0 ≤ i → (l.length : Int) - i = d → acc.length = l.length →
    laws_toModeS.l0 k l acc i = some (acc.take i.toNat ++ (l.map c_Mode).drop i.toNat) := by
  induction d with
  | zero =>
    intro k acc i hk h0 hd ha
    obtain ⟨k, rfl⟩ : ∃ m, k = m + 1 := ⟨k - 1, by omega⟩
    simp only [laws_toModeS.l0]
    rw [if_neg (by omega), List.take_of_length_le (by omega), List.drop_eq_nil_of_le (by first | omega | (rw [List.length_map]; omega)), List.append_nil]
  | succ d ih =>
    intro k acc i hk h0 hd ha
    obtain ⟨k, rfl⟩ : ∃ m, k = m + 1 := ⟨k - 1, by omega⟩
    have hi : i.toNat < l.length := by omega
    have e : rd_T215 l i = l[i.toNat] := by
      unfold rd_T215
      rw [List.getD_eq_getElem?_getD, List.getElem?_eq_getElem hi]
      rfl
    have ee := toL_Mode k (by omega) l[i.toNat].f0 l[i.toNat].f1 (g l[i.toNat] (List.getElem_mem hi))
    simp only [laws_toModeS.l0, e]
    rw [if_pos (by omega), if_pos h0, ee]
    simp only [Option.bind_some]
    rw [if_pos (by omega), w64 (by omega) (by omega)]
    rw [ih k _ _ (by omega) (by omega) (by omega) (by simpa using ha)]
    have e1 : (i + 1).toNat = i.toNat + 1 := by omega
    rw [e1, List.take_succ_eq_append_getElem (by simp; omega), List.take_set_of_le (Nat.le_refl _), List.getElem_set_self, List.append_assoc, List.singleton_append]
    congr 2
    rw [List.drop_eq_getElem_cons (i := i.toNat) (by simpa using hi), List.getElem_map]
    try rfl
theorem toL_ModeS (k : Nat) (hk : 4194312 ≤ k) (l : List S215) (g : l.length ≤ 1048576 ∧ ∀ y ∈ l, bd_Mode y) : laws_toModeS.f k l = some (l.map c_Mode) := by
  have hl : l.length ≤ 1048576 := g.1
  unfold laws_toModeS.f
  rw [if_pos (by omega), if_pos (by omega), toL_ModeS_l l g.2 hl l.length k _ 0 (by omega) (by omega) (by omega) (by simp)]
  simp
theorem toL_Grammar (k : Nat) (hk : 4194312 ≤ k) (f0 : List S215) (g : (f0.length ≤ 1048576 ∧ ∀ y ∈ f0, bd_Mode y)) : laws_toGrammar.f k f0 = some (f0.map c_Mode) := by
  unfold laws_toGrammar.f
  rw [toL_ModeS k (by omega) f0 (g)]
  simp only [Option.bind_some]
  all_goals (first | rfl | simp)
theorem eqL_Span (k : Nat) (hk : 0 ≤ k) (f0 : Int) (f1 : Int) (g : True) : laws_eqSpan.f f0 f1 f0 f1 = some true := by
  unfold laws_eqSpan.f
  simp
theorem eqL_SpanS_l (l : List S148) (hl : l.length ≤ 1048576) (d : Nat) : ∀ (k : Nat) (i : Int), d + 0 < k → 0 ≤ i → (l.length : Int) - i = d → laws_eqSpanS.l0 k l l i = some true := by
  induction d with
  | zero =>
    intro k i hk h0 hd
    obtain ⟨k, rfl⟩ : ∃ m, k = m + 1 := ⟨k - 1, by omega⟩
    simp only [laws_eqSpanS.l0]
    rw [if_neg (by omega)]
  | succ d ih =>
    intro k i hk h0 hd
    obtain ⟨k, rfl⟩ : ∃ m, k = m + 1 := ⟨k - 1, by omega⟩
    have hi : i.toNat < l.length := by omega
    have e : rd_T148 l i = l[i.toNat] := by
      unfold rd_T148
      rw [List.getD_eq_getElem?_getD, List.getElem?_eq_getElem hi]
      rfl
    have ee := eqL_Span k (by omega) l[i.toNat].f0 l[i.toNat].f1 trivial
    simp only [laws_eqSpanS.l0, e]
    rw [if_pos (by omega), if_pos h0, if_pos (by omega), ee]
    simp only [Option.bind_some, if_true]
    rw [w64 (by omega) (by omega)]
    exact ih k _ (by omega) (by omega) (by omega)
theorem eqL_SpanS (k : Nat) (hk : 1048578 ≤ k) (l : List S148) (g : l.length ≤ 1048576) : laws_eqSpanS.f k l l = some true := by
  have hl : l.length ≤ 1048576 := g
  unfold laws_eqSpanS.f
  simp only [if_true]
  exact eqL_SpanS_l l hl l.length k 0 (by omega) (by omega) (by omega)
theorem eqL_Int64S_l (l : List Int) (hl : l.length ≤ 1048576) (d : Nat) : ∀ (k : Nat) (i : Int), d + 0 < k → 0 ≤ i → (l.length : Int) - i = d → laws_eqInt64S.l0 k l l i = some true := by
  induction d with
  | zero =>
    intro k i hk h0 hd
    obtain ⟨k, rfl⟩ : ∃ m, k = m + 1 := ⟨k - 1, by omega⟩
    simp only [laws_eqInt64S.l0]
    rw [if_neg (by omega)]
  | succ d ih =>
    intro k i hk h0 hd
    obtain ⟨k, rfl⟩ : ∃ m, k = m + 1 := ⟨k - 1, by omega⟩
    have hi : i.toNat < l.length := by omega
    simp only [laws_eqInt64S.l0]
    rw [if_pos (by omega), if_pos h0, if_pos (by omega)]
    simp only [if_true]
    rw [w64 (by omega) (by omega)]
    exact ih k _ (by omega) (by omega) (by omega)
theorem eqL_Int64S (k : Nat) (hk : 1048578 ≤ k) (l : List Int) (g : l.length ≤ 1048576) : laws_eqInt64S.f k l l = some true := by
  have hl : l.length ≤ 1048576 := g
  unfold laws_eqInt64S.f
  simp only [if_true]
  exact eqL_Int64S_l l hl l.length k 0 (by omega) (by omega) (by omega)
theorem eqL_RNode (k : Nat) (hk : 1048578 ≤ k) (f0 : Int) (f1 : List S148) (f2 : List Int) (f3 : Int) (f4 : Int) (g : (f1.length ≤ 1048576) ∧ (f2.length ≤ 1048576)) : laws_eqRNode.f k f0 f1 f2 f3 f4 f0 f1 f2 f3 f4 = some true := by
  unfold laws_eqRNode.f
  simp [eqL_SpanS k (by omega) f1 (g.1), eqL_Int64S k (by omega) f2 (g.2)]
theorem eqL_RNodeS_l (l : List S163) (g : ∀ y ∈ l, bi_RNode y) (hl : l.length ≤ 1048576) (d : Nat) : ∀ (k : Nat) (i : Int), d + 1048578 < k → 0 ≤ i → (l.length : Int) - i = d → laws_eqRNodeS.l0 k l l i = some true := by
  induction d with
  | zero =>
    intro k i hk h0 hd
    obtain ⟨k, rfl⟩ : ∃ m, k = m + 1 := ⟨k - 1, by omega⟩
    simp only [laws_eqRNodeS.l0]
    rw [if_neg (by omega)]
  | succ d ih =>
    intro k i hk h0 hd
    obtain ⟨k, rfl⟩ : ∃ m, k = m + 1 := ⟨k - 1, by omega⟩
    have hi : i.toNat < l.length := by omega
    have e : rd_T163 l i = l[i.toNat] := by
      unfold rd_T163
      rw [List.getD_eq_getElem?_getD, List.getElem?_eq_getElem hi]
      rfl
    have ee := eqL_RNode k (by omega) l[i.toNat].f0 l[i.toNat].f1 l[i.toNat].f2 l[i.toNat].f3 l[i.toNat].f4 (g l[i.toNat] (List.getElem_mem hi))
    simp only [laws_eqRNodeS.l0, e]
    rw [if_pos (by omega), if_pos h0, if_pos (by omega), ee]
    simp only [Option.bind_some, if_true]
    rw [w64 (by omega) (by omega)]
    exact ih k _ (by omega) (by omega) (by omega)
theorem eqL_RNodeS (k : Nat) (hk : 2097156 ≤ k) (l : List S163) (g : l.length ≤ 1048576 ∧ ∀ y ∈ l, bi_RNode y) : laws_eqRNodeS.f k l l = some true := by
  have hl : l.length ≤ 1048576 := g.1
  unfold laws_eqRNodeS.f
  simp only [if_true]
  exact eqL_RNodeS_l l g.2 hl l.length k 0 (by omega) (by omega) (by omega)
theorem eqL_Rx (k : Nat) (hk : 2097156 ≤ k) (f0 : List S163) (g : (f0.length ≤ 1048576 ∧ ∀ y ∈ f0, bi_RNode y)) : laws_eqRx.f k f0 f0 = some true := by
  unfold laws_eqRx.f
  simp [eqL_RNodeS k (by omega) f0 (g)]
theorem eqL_Rule (k : Nat) (hk : 2097156 ≤ k) (f0 : ByteArray) (f1 : S83) (f2 : Bool) (f3 : Int) (f4 : ByteArray) (g : (f0.size ≤ 1048576) ∧ (bi_Rx f1) ∧ (f4.size ≤ 1048576)) : laws_eqRule.f k f0 f1.f0 f2 f3 f4 f0 f1.f0 f2 f3 f4 = some true := by
  unfold laws_eqRule.f
  simp [eqL_Rx k (by omega) f1.f0 (g.2.1)]
theorem eqL_RuleS_l (l : List S235) (g : ∀ y ∈ l, bi_Rule y) (hl : l.length ≤ 1048576) (d : Nat) : ∀ (k : Nat) (i : Int), d + 2097156 < k → 0 ≤ i → (l.length : Int) - i = d → laws_eqRuleS.l0 k l l i = some true := by
  induction d with
  | zero =>
    intro k i hk h0 hd
    obtain ⟨k, rfl⟩ : ∃ m, k = m + 1 := ⟨k - 1, by omega⟩
    simp only [laws_eqRuleS.l0]
    rw [if_neg (by omega)]
  | succ d ih =>
    intro k i hk h0 hd
    obtain ⟨k, rfl⟩ : ∃ m, k = m + 1 := ⟨k - 1, by omega⟩
    have hi : i.toNat < l.length := by omega
    have e : rd_T235 l i = l[i.toNat] := by
      unfold rd_T235
      rw [List.getD_eq_getElem?_getD, List.getElem?_eq_getElem hi]
      rfl
    have ee := eqL_Rule k (by omega) l[i.toNat].f0 l[i.toNat].f1 l[i.toNat].f2 l[i.toNat].f3 l[i.toNat].f4 (g l[i.toNat] (List.getElem_mem hi))
    simp only [laws_eqRuleS.l0, e]
    rw [if_pos (by omega), if_pos h0, if_pos (by omega), ee]
    simp only [Option.bind_some, if_true]
    rw [w64 (by omega) (by omega)]
    exact ih k _ (by omega) (by omega) (by omega)
theorem eqL_RuleS (k : Nat) (hk : 3145734 ≤ k) (l : List S235) (g : l.length ≤ 1048576 ∧ ∀ y ∈ l, bi_Rule y) : laws_eqRuleS.f k l l = some true := by
  have hl : l.length ≤ 1048576 := g.1
  unfold laws_eqRuleS.f
  simp only [if_true]
  exact eqL_RuleS_l l g.2 hl l.length k 0 (by omega) (by omega) (by omega)
theorem eqL_Mode (k : Nat) (hk : 3145734 ≤ k) (f0 : ByteArray) (f1 : List S235) (g : (f0.size ≤ 1048576) ∧ (f1.length ≤ 1048576 ∧ ∀ y ∈ f1, bi_Rule y)) : laws_eqMode.f k f0 f1 f0 f1 = some true := by
  unfold laws_eqMode.f
  simp [eqL_RuleS k (by omega) f1 (g.2)]
theorem eqL_ModeS_l (l : List S178) (g : ∀ y ∈ l, bi_Mode y) (hl : l.length ≤ 1048576) (d : Nat) : ∀ (k : Nat) (i : Int), d + 3145734 < k → 0 ≤ i → (l.length : Int) - i = d → laws_eqModeS.l0 k l l i = some true := by
  induction d with
  | zero =>
    intro k i hk h0 hd
    obtain ⟨k, rfl⟩ : ∃ m, k = m + 1 := ⟨k - 1, by omega⟩
    simp only [laws_eqModeS.l0]
    rw [if_neg (by omega)]
  | succ d ih =>
    intro k i hk h0 hd
    obtain ⟨k, rfl⟩ : ∃ m, k = m + 1 := ⟨k - 1, by omega⟩
    have hi : i.toNat < l.length := by omega
    have e : rd_T178 l i = l[i.toNat] := by
      unfold rd_T178
      rw [List.getD_eq_getElem?_getD, List.getElem?_eq_getElem hi]
      rfl
    have ee := eqL_Mode k (by omega) l[i.toNat].f0 l[i.toNat].f1 (g l[i.toNat] (List.getElem_mem hi))
    simp only [laws_eqModeS.l0, e]
    rw [if_pos (by omega), if_pos h0, if_pos (by omega), ee]
    simp only [Option.bind_some, if_true]
    rw [w64 (by omega) (by omega)]
    exact ih k _ (by omega) (by omega) (by omega)
theorem eqL_ModeS (k : Nat) (hk : 4194312 ≤ k) (l : List S178) (g : l.length ≤ 1048576 ∧ ∀ y ∈ l, bi_Mode y) : laws_eqModeS.f k l l = some true := by
  have hl : l.length ≤ 1048576 := g.1
  unfold laws_eqModeS.f
  simp only [if_true]
  exact eqL_ModeS_l l g.2 hl l.length k 0 (by omega) (by omega) (by omega)
theorem eqL_Grammar (k : Nat) (hk : 4194312 ≤ k) (f0 : List S178) (g : (f0.length ≤ 1048576 ∧ ∀ y ∈ f0, bi_Mode y)) : laws_eqGrammar.f k f0 f0 = some true := by
  unfold laws_eqGrammar.f
  simp [eqL_ModeS k (by omega) f0 (g)]
theorem sModeAt_l (l : List S178) (nm : ByteArray) (hl : l.length ≤ 1048576) (d : Nat) : ∀ (k i : Nat), d < k → l.length - i = d → i ≤ l.length → (∀ j, (hj : j < l.length) → j < i → ¬ l[j].f0.toList = nm.toList) →
    spec_ModeAt.l0 k nm (i : Int) l = some (match l.findIdx? (fun m => m.f0.toList == nm.toList) with | some i => (i : Int) | none => -1) := by
  induction d with
  | zero =>
    intro k i hk hd hi hm
    obtain ⟨k, rfl⟩ : ∃ m, k = m + 1 := ⟨k - 1, by omega⟩
    obtain rfl : i = l.length := by omega
    simp only [spec_ModeAt.l0]
    rw [if_neg (by omega)]
    have : l.findIdx? (fun m => m.f0.toList == nm.toList) = none := by
      rw [List.findIdx?_eq_none_iff]
      intro x hx
      obtain ⟨j, hj, rfl⟩ := List.mem_iff_getElem.1 hx
      exact beq_eq_false_iff_ne.2 (hm j hj hj)
    rw [this]
  | succ d ih =>
    intro k i hk hd hi hm
    obtain ⟨k, rfl⟩ : ∃ m, k = m + 1 := ⟨k - 1, by omega⟩
    have hlt : i < l.length := by omega
    have e1 : rd_T178 l (i : Int) = l[i] := by
      unfold rd_T178
      rw [Int.toNat_natCast, List.getD_eq_getElem?_getD, List.getElem?_eq_getElem hlt]
      rfl
    simp only [spec_ModeAt.l0, e1]
    rw [if_pos (by omega), if_pos (by omega), nat_next (by omega)]
    by_cases h : l[i].f0.toList = nm.toList
    · rw [if_pos h]
      have : l.findIdx? (fun m => m.f0.toList == nm.toList) = some i := by
        rw [List.findIdx?_eq_some_iff_getElem]
        exact ⟨hlt, beq_iff_eq.2 h, fun j hj => by rw [beq_eq_false_iff_ne.2 (hm j (by omega) hj)]; simp⟩
      rw [this]
    · rw [if_neg h]
      refine ih k (i + 1) (by omega) (by omega) (by omega) (fun j hj hji => ?_)
      rcases Nat.lt_or_eq_of_le (Nat.le_of_lt_succ hji) with g | g
      · exact hm j hj g
      · subst g; exact h
theorem FnExactModeAt (x : List S215) (g : x.length ≤ maxLen ∧ ∀ y ∈ x, gd_Mode y) (a : ByteArray) (_ : a.size ≤ 140737488351232) : ∃ k, laws_FnExactModeAt.f k x a = some true := by
  suffices ∀ k, 10000000 ≤ k → laws_FnExactModeAt.f k x a = some true from ⟨10000000, this _ (Nat.le_refl _)⟩
  intro k hk
  unfold laws_FnExactModeAt.f
  by_cases ha : (a.size : Int) > 1048576
  · rw [if_pos ha]
  rw [if_neg ha]
  obtain ⟨r, e, _, _, h⟩ := szL_Grammar k (by omega) x g 1048576 (by omega)
  rw [e]
  simp only [Option.bind_some]
  by_cases hr : r < 0
  · rw [if_pos hr]
  · have hb := h (by omega)
    have hi : bi_ModeS (x.map c_Mode) := ⟨by rw [List.length_map]; exact hb.1, fun y hy => by obtain ⟨z, hz, rfl⟩ := List.mem_map.1 hy; exact bi_of_Mode z (hb.2 z hz)⟩
    rw [if_neg hr, toL_Grammar k (by omega) x hb]
    simp only [Option.bind_some]
    have es : spec_ModeAt.f k (x.map c_Mode) a = some (match (x.map c_Mode).findIdx? (fun m => m.f0.toList == a.toList) with | some i => (i : Int) | none => -1) := by
      unfold spec_ModeAt.f
      exact sModeAt_l _ a hi.1 _ k 0 (by have := hi.1; omega) rfl (by omega) (fun j hj h0 => by omega)
    rw [es]
    unfold impl_ModeAt.f
    simp only [Option.bind_some]
    rw [eqL_Grammar k (by omega) _ hi]
    simp only [List.findIdx?_map]
    simp
    try rfl
end Go.Proofs.Ytabpfejdppfcdaa.Pure
