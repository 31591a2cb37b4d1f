/- The program's NfaMatch and the reference's come to the same rules: whatever the network and the text. -/
import Derived.Test.YtaemhmgcjpcicaaPFnExactNfaMatchx15
import Derived.Test.YtaemhmgcjpcicaaKit
import Derived.Test.YtaemhmgcjpcicaaKitClass
namespace Go.Proofs.Ytaemhmgcjpcicaa.Pure
open Go.RowKit Go.Proofs.Ytaemhmgcjpcicaa.PFnExactNfaMatch Go.Proofs.YtaemhmgcjpcicaaW.PrintWords Go.Proofs.YtaemhmgcjpcicaaW.PrintLast Go.Proofs.YtaemhmgcjpcicaaW.PrintMore Go.Proofs.Ytaemhmgcjpcicaa.Kit
set_option linter.unusedVariables false
theorem sIn (a b c : Int) : spec_l1In.f a b c = some (decide (b ≤ a ∧ a ≤ c)) := by
  unfold spec_l1In.f
  by_cases h : a ≥ b
  · rw [if_pos h]; congr 1; simp; omega
  · rw [if_neg h]; congr 1; simp; omega
theorem iWithin (a b c : Int) : impl_within.f a b c = some (decide (b ≤ a ∧ a ≤ c)) := by
  unfold impl_within.f
  by_cases h : a ≥ b
  · rw [if_pos h]; congr 1; simp; omega
  · rw [if_neg h]; congr 1; simp; omega
def gd_Span (x : S220) : Prop := ((Lit.int .i64 x.f0).wf = true) ∧ ((Lit.int .i64 x.f1).wf = true)
def c_Span (x : S220) : S33 := ⟨x.f0, x.f1⟩
def gd_SpanS (x : List S220) : Prop := x.length ≤ maxLen ∧ ∀ y ∈ x, gd_Span y
def bd_SpanS (x : List S220) : Prop := x.length ≤ 1048576
def bi_SpanS (x : List S33) : Prop := x.length ≤ 1048576
def gd_Edge (x : S196) : Prop := ((Lit.int .i64 x.f0).wf = true) ∧ ((Lit.int .i64 x.f1).wf = true) ∧ (x.f2.length ≤ maxLen ∧ ∀ y ∈ x.f2, gd_Span y)
def bd_Edge (x : S196) : Prop := (x.f2.length ≤ 1048576)
def bi_Edge (x : S198) : Prop := (x.f2.length ≤ 1048576)
def c_Edge (x : S196) : S198 := ⟨x.f0, x.f1, x.f2.map c_Span⟩
theorem bi_of_Edge (x : S196) (h : bd_Edge x) : bi_Edge (c_Edge x) := (by show (List.map _ _).length ≤ _; rw [List.length_map]; exact h)
def gd_EdgeS (x : List S196) : Prop := x.length ≤ maxLen ∧ ∀ y ∈ x, gd_Edge y
def bd_EdgeS (x : List S196) : Prop := x.length ≤ 1048576 ∧ ∀ y ∈ x, bd_Edge y
def bi_EdgeS (x : List S198) : Prop := x.length ≤ 1048576 ∧ ∀ y ∈ x, bi_Edge y
def gd_End (x : S201) : Prop := ((Lit.int .i64 x.f0).wf = true) ∧ ((Lit.int .i64 x.f1).wf = true)
def c_End (x : S201) : S138 := ⟨x.f0, x.f1⟩
def gd_EndS (x : List S201) : Prop := x.length ≤ maxLen ∧ ∀ y ∈ x, gd_End y
def bd_EndS (x : List S201) : Prop := x.length ≤ 1048576
def bi_EndS (x : List S138) : Prop := x.length ≤ 1048576
def gd_Nfa (x : S38) : Prop := ((Lit.int .i64 x.f0).wf = true) ∧ (x.f1.length ≤ maxLen ∧ ∀ y ∈ x.f1, gd_Edge y) ∧ (x.f2.length ≤ maxLen ∧ ∀ y ∈ x.f2, gd_End y)
def bd_Nfa (x : S38) : Prop := (x.f1.length ≤ 1048576 ∧ ∀ y ∈ x.f1, bd_Edge y) ∧ (x.f2.length ≤ 1048576)
def bi_Nfa (x : S44) : Prop := (x.f1.length ≤ 1048576 ∧ ∀ y ∈ x.f1, bi_Edge y) ∧ (x.f2.length ≤ 1048576)
def c_Nfa (x : S38) : S44 := ⟨x.f0, x.f1.map c_Edge, x.f2.map c_End⟩
theorem szL_SpanS (k : Nat) (hk : 1048578 ≤ k) (l : List S220) (g : l.length ≤ maxLen ∧ ∀ y ∈ l, gd_Span y) (n : Int) (hn : 0 ≤ n ∧ n ≤ 1048576) : ∃ r, laws_szSpanS.f l n = some r ∧ -1 ≤ r ∧ r ≤ n ∧ (0 ≤ r → l.length ≤ 1048576) := by
  have hl := g.1
  unfold maxLen at hl
  unfold laws_szSpanS.f
  rw [w64 (by omega) (by omega)]
  by_cases h : n - (l.length : Int) < 0
  · rw [if_pos h]; exact ⟨-1, rfl, by omega, by omega, fun h => by omega⟩
  · rw [if_neg h]; exact ⟨_, rfl, by omega, by omega, fun _ => by omega⟩
theorem szL_Edge (k : Nat) (hk : 1048578 ≤ k) (f0 : Int) (f1 : Int) (f2 : List S220) (g : ((Lit.int .i64 f0).wf = true) ∧ ((Lit.int .i64 f1).wf = true) ∧ (f2.length ≤ maxLen ∧ ∀ y ∈ f2, gd_Span y)) (n : Int) (hn : 0 ≤ n ∧ n ≤ 1048576) : ∃ r, laws_szEdge.f f0 f1 f2 n = some r ∧ -1 ≤ r ∧ r ≤ n ∧ (0 ≤ r → (f2.length ≤ 1048576)) := by
  unfold laws_szEdge.f
  obtain ⟨r1, e1, a1, b1, d1⟩ := szL_SpanS k (by omega) f2 g.2.2 n (by omega)
  rw [e1]
  simp only [Option.bind_some]
  by_cases c1 : r1 < 0
  · rw [if_pos c1]; exact ⟨-1, rfl, by omega, by omega, fun h => by omega⟩
  rw [if_neg c1]
  exact ⟨r1, rfl, by omega, by omega, fun _ => (d1 (by omega))⟩
theorem szL_EdgeS_l (l : List S196) (g : ∀ y ∈ l, gd_Edge y) (hl : l.length ≤ 1048576) (d : Nat) : ∀ (k : Nat) (x i : Int), d + 1048578 < k → 0 ≤ i → (l.length : Int) - i = d → 0 ≤ x → x ≤ 1048576 →
    ∃ r, laws_szEdgeS.l0 k l x i = some r ∧ -1 ≤ r ∧ r ≤ x ∧ (0 ≤ r → ∀ j : Nat, i ≤ (j : Int) → (h : j < l.length) → bd_Edge l[j]) := by
  induction d with
  | zero =>
    intro k x i hk h0 hd g0 g1
    obtain ⟨k, rfl⟩ : ∃ m, k = m + 1 := ⟨k - 1, by omega⟩
    refine ⟨x, ?_, by omega, by omega, fun _ j h1 h2 => by omega⟩
    simp only [laws_szEdgeS.l0]
    rw [if_neg (by omega)]
  | succ d ih =>
    intro k x i hk h0 hd g0 g1
    obtain ⟨k, rfl⟩ : ∃ m, k = m + 1 := ⟨k - 1, by omega⟩
    have hi : i.toNat < l.length := by omega
    have e : rd_T196 l i = l[i.toNat] := by
      unfold rd_T196
      rw [List.getD_eq_getElem?_getD, List.getElem?_eq_getElem hi]
      rfl
    have hg := g l[i.toNat] (List.getElem_mem hi)
    obtain ⟨r, er, r1, r2, r3⟩ := szL_Edge k (by omega) l[i.toNat].f0 l[i.toNat].f1 l[i.toNat].f2 hg x ⟨g0, g1⟩
    simp only [laws_szEdgeS.l0, e]
    rw [if_pos (by omega), if_pos h0, er]
    simp only [Option.bind_some]
    by_cases hr : r < 0
    · rw [if_pos hr]; exact ⟨-1, rfl, by omega, by omega, fun h => by omega⟩
    · rw [if_neg hr, w64 (by omega) (by omega)]
      obtain ⟨q, eq, q1, q2, q3⟩ := ih k r (i + 1) (by omega) (by omega) (by omega) (by omega) (by omega)
      refine ⟨q, eq, q1, by omega, fun h j h1 h2 => ?_⟩
      by_cases hj : (j : Int) = i
      · have : j = i.toNat := by omega
        subst this; exact r3 (by omega)
      · exact q3 h j (by omega) h2
theorem szL_EdgeS (k : Nat) (hk : 2097156 ≤ k) (l : List S196) (g : l.length ≤ maxLen ∧ ∀ y ∈ l, gd_Edge y) (n : Int) (hn : 0 ≤ n ∧ n ≤ 1048576) : ∃ r, laws_szEdgeS.f k l n = some r ∧ -1 ≤ r ∧ r ≤ n ∧ (0 ≤ r → l.length ≤ 1048576 ∧ ∀ y ∈ l, bd_Edge y) := by
  have hl := g.1
  unfold maxLen at hl
  unfold laws_szEdgeS.f
  rw [w64 (x := n - (l.length : Int)) (by omega) (by omega)]
  by_cases h : n - (l.length : Int) < 0
  · rw [if_pos h]; exact ⟨-1, rfl, by omega, by omega, fun h => by omega⟩
  · rw [if_neg h]
    obtain ⟨r, e, r1, r2, r3⟩ := szL_EdgeS_l l g.2 (by omega) l.length k (n - (l.length : Int)) 0 (by omega) (by omega) (by omega) (by omega) (by omega)
    exact ⟨r, e, r1, by omega, fun hr => ⟨by omega, fun y hy => by
      obtain ⟨j, hj, rfl⟩ := List.mem_iff_getElem.1 hy
      exact r3 hr j (by omega) hj⟩⟩
theorem szL_EndS (k : Nat) (hk : 1048578 ≤ k) (l : List S201) (g : l.length ≤ maxLen ∧ ∀ y ∈ l, gd_End y) (n : Int) (hn : 0 ≤ n ∧ n ≤ 1048576) : ∃ r, laws_szEndS.f l n = some r ∧ -1 ≤ r ∧ r ≤ n ∧ (0 ≤ r → l.length ≤ 1048576) := by
  have hl := g.1
  unfold maxLen at hl
  unfold laws_szEndS.f
  rw [w64 (by omega) (by omega)]
  by_cases h : n - (l.length : Int) < 0
  · rw [if_pos h]; exact ⟨-1, rfl, by omega, by omega, fun h => by omega⟩
  · rw [if_neg h]; exact ⟨_, rfl, by omega, by omega, fun _ => by omega⟩
theorem szL_Nfa (k : Nat) (hk : 2097156 ≤ k) (f0 : Int) (f1 : List S196) (f2 : List S201) (g : ((Lit.int .i64 f0).wf = true) ∧ (f1.length ≤ maxLen ∧ ∀ y ∈ f1, gd_Edge y) ∧ (f2.length ≤ maxLen ∧ ∀ y ∈ f2, gd_End y)) (n : Int) (hn : 0 ≤ n ∧ n ≤ 1048576) : ∃ r, laws_szNfa.f k f0 f1 f2 n = some r ∧ -1 ≤ r ∧ r ≤ n ∧ (0 ≤ r → (f1.length ≤ 1048576 ∧ ∀ y ∈ f1, bd_Edge y) ∧ (f2.length ≤ 1048576)) := by
  unfold laws_szNfa.f
  obtain ⟨r1, e1, a1, b1, d1⟩ := szL_EdgeS k (by omega) f1 g.2.1 n (by omega)
  rw [e1]
  simp only [Option.bind_some]
  by_cases c1 : r1 < 0
  · rw [if_pos c1]; exact ⟨-1, rfl, by omega, by omega, fun h => by omega⟩
  rw [if_neg c1]
  obtain ⟨r2, e2, a2, b2, d2⟩ := szL_EndS k (by omega) f2 g.2.2 r1 (by omega)
  rw [e2]
  simp only [Option.bind_some]
  by_cases c2 : r2 < 0
  · rw [if_pos c2]; exact ⟨-1, rfl, by omega, by omega, fun h => by omega⟩
  rw [if_neg c2]
  exact ⟨r2, rfl, by omega, by omega, fun _ => ⟨(d1 (by omega)), (d2 (by omega))⟩⟩
theorem toL_Span (k : Nat) (hk : 0 ≤ k) (f0 : Int) (f1 : Int) (g : True) : laws_toSpan.f f0 f1 = some (f0, f1) := by
  unfold laws_toSpan.f
  all_goals (first | rfl | simp)
theorem toL_SpanS_l (l : List S220) (hl : l.length ≤ 1048576) (d : Nat) : ∀ (k : Nat) (acc : List S33) (i : Int), d + 0 < k → 0 ≤ i → (l.length : Int) - i = d → acc.length = l.length →
    laws_toSpanS.l0 k l acc i = some (acc.take i.toNat ++ (l.map c_Span).drop i.toNat) := by
  induction d with
  | zero =>
    intro k acc i hk h0 hd ha
    obtain ⟨k, rfl⟩ : ∃ m, k = m + 1 := ⟨k - 1, by omega⟩
    simp only [laws_toSpanS.l0]
    rw [if_neg (by omega), List.take_of_length_le (by omega), List.drop_eq_nil_of_le (by first | omega | (rw [List.length_map]; omega)), List.append_nil]
  | succ d ih =>
    intro k acc i hk h0 hd ha
    obtain ⟨k, rfl⟩ : ∃ m, k = m + 1 := ⟨k - 1, by omega⟩
    have hi : i.toNat < l.length := by omega
    have e : rd_T220 l i = l[i.toNat] := by
      unfold rd_T220
      rw [List.getD_eq_getElem?_getD, List.getElem?_eq_getElem hi]
      rfl
    have ee := toL_Span k (by omega) l[i.toNat].f0 l[i.toNat].f1 trivial
    simp only [laws_toSpanS.l0, e]
    rw [if_pos (by omega), if_pos h0, ee]
    simp only [Option.bind_some]
    rw [if_pos (by omega), w64 (by omega) (by omega)]
    rw [ih k _ _ (by omega) (by omega) (by omega) (by simpa using ha)]
    have e1 : (i + 1).toNat = i.toNat + 1 := by omega
    rw [e1, List.take_succ_eq_append_getElem (by simp; omega), List.take_set_of_le (Nat.le_refl _), List.getElem_set_self, List.append_assoc, List.singleton_append]
    congr 2
    rw [List.drop_eq_getElem_cons (i := i.toNat) (by simpa using hi), List.getElem_map]
    try rfl
theorem toL_SpanS (k : Nat) (hk : 1048578 ≤ k) (l : List S220) (g : l.length ≤ 1048576) : laws_toSpanS.f k l = some (l.map c_Span) := by
  have hl : l.length ≤ 1048576 := g
  unfold laws_toSpanS.f
  rw [if_pos (by omega), if_pos (by omega), toL_SpanS_l l hl l.length k _ 0 (by omega) (by omega) (by omega) (by simp)]
  simp
theorem toL_Edge (k : Nat) (hk : 1048578 ≤ k) (f0 : Int) (f1 : Int) (f2 : List S220) (g : (f2.length ≤ 1048576)) : laws_toEdge.f k f0 f1 f2 = some (f0, f1, f2.map c_Span) := by
  unfold laws_toEdge.f
  rw [toL_SpanS k (by omega) f2 (g)]
  simp only [Option.bind_some]
  all_goals (first | rfl | simp)
theorem toL_EdgeS_l (l : List S196) (g : ∀ y ∈ l, bd_Edge y) (hl : l.length ≤ 1048576) (d : Nat) : ∀ (k : Nat) (acc : List S198) (i : Int), d + 1048578 < k → 0 ≤ i → (l.length : Int) - i = d → acc.length = l.length →
    laws_toEdgeS.l0 k l acc i = some (acc.take i.toNat ++ (l.map c_Edge).drop i.toNat) := by
  induction d with
  | zero =>
    intro k acc i hk h0 hd ha
    obtain ⟨k, rfl⟩ : ∃ m, k = m + 1 := ⟨k - 1, by omega⟩
    simp only [laws_toEdgeS.l0]
    rw [if_neg (by omega), List.take_of_length_le (by omega), List.drop_eq_nil_of_le (by first | omega | (rw [List.length_map]; omega)), List.append_nil]
  | succ d ih =>
    intro k acc i hk h0 hd ha
    obtain ⟨k, rfl⟩ : ∃ m, k = m + 1 := ⟨k - 1, by omega⟩
    have hi : i.toNat < l.length := by omega
    have e : rd_T196 l i = l[i.toNat] := by
      unfold rd_T196
      rw [List.getD_eq_getElem?_getD, List.getElem?_eq_getElem hi]
      rfl
    have ee := toL_Edge k (by omega) l[i.toNat].f0 l[i.toNat].f1 l[i.toNat].f2 (g l[i.toNat] (List.getElem_mem hi))
    simp only [laws_toEdgeS.l0, e]
    rw [if_pos (by omega), if_pos h0, ee]
    simp only [Option.bind_some]
    rw [if_pos (by omega), w64 (by omega) (by omega)]
    rw [ih k _ _ (by omega) (by omega) (by omega) (by simpa using ha)]
    have e1 : (i + 1).toNat = i.toNat + 1 := by omega
    rw [e1, List.take_succ_eq_append_getElem (by simp; omega), List.take_set_of_le (Nat.le_refl _), List.getElem_set_self, List.append_assoc, List.singleton_append]
    congr 2
    rw [List.drop_eq_getElem_cons (i := i.toNat) (by simpa using hi), List.getElem_map]
    try rfl
theorem toL_EdgeS (k : Nat) (hk : 2097156 ≤ k) (l : List S196) (g : l.length ≤ 1048576 ∧ ∀ y ∈ l, bd_Edge y) : laws_toEdgeS.f k l = some (l.map c_Edge) := by
  have hl : l.length ≤ 1048576 := g.1
  unfold laws_toEdgeS.f
  rw [if_pos (by omega), if_pos (by omega), toL_EdgeS_l l g.2 hl l.length k _ 0 (by omega) (by omega) (by omega) (by simp)]
  simp
theorem toL_End (k : Nat) (hk : 0 ≤ k) (f0 : Int) (f1 : Int) (g : True) : laws_toEnd.f f0 f1 = some (f0, f1) := by
  unfold laws_toEnd.f
  all_goals (first | rfl | simp)
theorem toL_EndS_l (l : List S201) (hl : l.length ≤ 1048576) (d : Nat) : ∀ (k : Nat) (acc : List S138) (i : Int), d + 0 < k → 0 ≤ i → (l.length : Int) - i = d → acc.length = l.length →
    laws_toEndS.l0 k l acc i = some (acc.take i.toNat ++ (l.map c_End).drop i.toNat) := by
  induction d with
  | zero =>
    intro k acc i hk h0 hd ha
    obtain ⟨k, rfl⟩ : ∃ m, k = m + 1 := ⟨k - 1, by omega⟩
    simp only [laws_toEndS.l0]
    rw [if_neg (by omega), List.take_of_length_le (by omega), List.drop_eq_nil_of_le (by first | omega | (rw [List.length_map]; omega)), List.append_nil]
  | succ d ih =>
    intro k acc i hk h0 hd ha
    obtain ⟨k, rfl⟩ : ∃ m, k = m + 1 := ⟨k - 1, by omega⟩
    have hi : i.toNat < l.length := by omega
    have e : rd_T201 l i = l[i.toNat] := by
      unfold rd_T201
      rw [List.getD_eq_getElem?_getD, List.getElem?_eq_getElem hi]
      rfl
    have ee := toL_End k (by omega) l[i.toNat].f0 l[i.toNat].f1 trivial
    simp only [laws_toEndS.l0, e]
    rw [if_pos (by omega), if_pos h0, ee]
    simp only [Option.bind_some]
    rw [if_pos (by omega), w64 (by omega) (by omega)]
    rw [ih k _ _ (by omega) (by omega) (by omega) (by simpa using ha)]
    have e1 : (i + 1).toNat = i.toNat + 1 := by omega
    rw [e1, List.take_succ_eq_append_getElem (by simp; omega), List.take_set_of_le (Nat.le_refl _), List.getElem_set_self, List.append_assoc, List.singleton_append]
    congr 2
    rw [List.drop_eq_getElem_cons (i := i.toNat) (by simpa using hi), List.getElem_map]
    try rfl
theorem toL_EndS (k : Nat) (hk : 1048578 ≤ k) (l : List S201) (g : l.length ≤ 1048576) : laws_toEndS.f k l = some (l.map c_End) := by
  have hl : l.length ≤ 1048576 := g
  unfold laws_toEndS.f
  rw [if_pos (by omega), if_pos (by omega), toL_EndS_l l hl l.length k _ 0 (by omega) (by omega) (by omega) (by simp)]
  simp
theorem toL_Nfa (k : Nat) (hk : 2097156 ≤ k) (f0 : Int) (f1 : List S196) (f2 : List S201) (g : (f1.length ≤ 1048576 ∧ ∀ y ∈ f1, bd_Edge y) ∧ (f2.length ≤ 1048576)) : laws_toNfa.f k f0 f1 f2 = some (f0, f1.map c_Edge, f2.map c_End) := by
  unfold laws_toNfa.f
  rw [toL_EdgeS k (by omega) f1 (g.1)]
  simp only [Option.bind_some]
  rw [toL_EndS k (by omega) f2 (g.2)]
  simp only [Option.bind_some]
  all_goals (first | rfl | simp)
theorem eqL_Span (k : Nat) (hk : 0 ≤ k) (f0 : Int) (f1 : Int) (g : True) : laws_eqSpan.f f0 f1 f0 f1 = some true := by
  unfold laws_eqSpan.f
  simp
theorem eqL_SpanS_l (l : List S33) (hl : l.length ≤ 1048576) (d : Nat) : ∀ (k : Nat) (i : Int), d + 0 < k → 0 ≤ i → (l.length : Int) - i = d → laws_eqSpanS.l0 k l l i = some true := by
  induction d with
  | zero =>
    intro k i hk h0 hd
    obtain ⟨k, rfl⟩ : ∃ m, k = m + 1 := ⟨k - 1, by omega⟩
    simp only [laws_eqSpanS.l0]
    rw [if_neg (by omega)]
  | succ d ih =>
    intro k i hk h0 hd
    obtain ⟨k, rfl⟩ : ∃ m, k = m + 1 := ⟨k - 1, by omega⟩
    have hi : i.toNat < l.length := by omega
    have e : rd_T33 l i = l[i.toNat] := by
      unfold rd_T33
      rw [List.getD_eq_getElem?_getD, List.getElem?_eq_getElem hi]
      rfl
    have ee := eqL_Span k (by omega) l[i.toNat].f0 l[i.toNat].f1 trivial
    simp only [laws_eqSpanS.l0, e]
    rw [if_pos (by omega), if_pos h0, if_pos (by omega), ee]
    simp only [Option.bind_some, if_true]
    rw [w64 (by omega) (by omega)]
    exact ih k _ (by omega) (by omega) (by omega)
theorem eqL_SpanS (k : Nat) (hk : 1048578 ≤ k) (l : List S33) (g : l.length ≤ 1048576) : laws_eqSpanS.f k l l = some true := by
  have hl : l.length ≤ 1048576 := g
  unfold laws_eqSpanS.f
  simp only [if_true]
  exact eqL_SpanS_l l hl l.length k 0 (by omega) (by omega) (by omega)
theorem eqL_Edge (k : Nat) (hk : 1048578 ≤ k) (f0 : Int) (f1 : Int) (f2 : List S33) (g : (f2.length ≤ 1048576)) : laws_eqEdge.f k f0 f1 f2 f0 f1 f2 = some true := by
  unfold laws_eqEdge.f
  simp [eqL_SpanS k (by omega) f2 (g)]
theorem eqL_EdgeS_l (l : List S198) (g : ∀ y ∈ l, bi_Edge y) (hl : l.length ≤ 1048576) (d : Nat) : ∀ (k : Nat) (i : Int), d + 1048578 < k → 0 ≤ i → (l.length : Int) - i = d → laws_eqEdgeS.l0 k l l i = some true := by
  induction d with
  | zero =>
    intro k i hk h0 hd
    obtain ⟨k, rfl⟩ : ∃ m, k = m + 1 := ⟨k - 1, by omega⟩
    simp only [laws_eqEdgeS.l0]
    rw [if_neg (by omega)]
  | succ d ih =>
    intro k i hk h0 hd
    obtain ⟨k, rfl⟩ : ∃ m, k = m + 1 := ⟨k - 1, by omega⟩
    have hi : i.toNat < l.length := by omega
    have e : rd_T198 l i = l[i.toNat] := by
      unfold rd_T198
      rw [List.getD_eq_getElem?_getD, List.getElem?_eq_getElem hi]
      rfl
    have ee := eqL_Edge k (by omega) l[i.toNat].f0 l[i.toNat].f1 l[i.toNat].f2 (g l[i.toNat] (List.getElem_mem hi))
    simp only [laws_eqEdgeS.l0, e]
    rw [if_pos (by omega), if_pos h0, if_pos (by omega), ee]
    simp only [Option.bind_some, if_true]
    rw [w64 (by omega) (by omega)]
    exact ih k _ (by omega) (by omega) (by omega)
theorem eqL_EdgeS (k : Nat) (hk : 2097156 ≤ k) (l : List S198) (g : l.length ≤ 1048576 ∧ ∀ y ∈ l, bi_Edge y) : laws_eqEdgeS.f k l l = some true := by
  have hl : l.length ≤ 1048576 := g.1
  unfold laws_eqEdgeS.f
  simp only [if_true]
  exact eqL_EdgeS_l l g.2 hl l.length k 0 (by omega) (by omega) (by omega)
theorem eqL_End (k : Nat) (hk : 0 ≤ k) (f0 : Int) (f1 : Int) (g : True) : laws_eqEnd.f f0 f1 f0 f1 = some true := by
  unfold laws_eqEnd.f
  simp
theorem eqL_EndS_l (l : List S138) (hl : l.length ≤ 1048576) (d : Nat) : ∀ (k : Nat) (i : Int), d + 0 < k → 0 ≤ i → (l.length : Int) - i = d → laws_eqEndS.l0 k l l i = some true := by
  induction d with
  | zero =>
    intro k i hk h0 hd
    obtain ⟨k, rfl⟩ : ∃ m, k = m + 1 := ⟨k - 1, by omega⟩
    simp only [laws_eqEndS.l0]
    rw [if_neg (by omega)]
  | succ d ih =>
    intro k i hk h0 hd
    obtain ⟨k, rfl⟩ : ∃ m, k = m + 1 := ⟨k - 1, by omega⟩
    have hi : i.toNat < l.length := by omega
    have e : rd_T138 l i = l[i.toNat] := by
      unfold rd_T138
      rw [List.getD_eq_getElem?_getD, List.getElem?_eq_getElem hi]
      rfl
    have ee := eqL_End k (by omega) l[i.toNat].f0 l[i.toNat].f1 trivial
    simp only [laws_eqEndS.l0, e]
    rw [if_pos (by omega), if_pos h0, if_pos (by omega), ee]
    simp only [Option.bind_some, if_true]
    rw [w64 (by omega) (by omega)]
    exact ih k _ (by omega) (by omega) (by omega)
theorem eqL_EndS (k : Nat) (hk : 1048578 ≤ k) (l : List S138) (g : l.length ≤ 1048576) : laws_eqEndS.f k l l = some true := by
  have hl : l.length ≤ 1048576 := g
  unfold laws_eqEndS.f
  simp only [if_true]
  exact eqL_EndS_l l hl l.length k 0 (by omega) (by omega) (by omega)
theorem eqL_Nfa (k : Nat) (hk : 2097156 ≤ k) (f0 : Int) (f1 : List S198) (f2 : List S138) (g : (f1.length ≤ 1048576 ∧ ∀ y ∈ f1, bi_Edge y) ∧ (f2.length ≤ 1048576)) : laws_eqNfa.f k f0 f1 f2 f0 f1 f2 = some true := by
  unfold laws_eqNfa.f
  simp [eqL_EdgeS k (by omega) f1 (g.1), eqL_EndS k (by omega) f2 (g.2)]
def gd_Int64S (x : List Int) : Prop := x.length ≤ maxLen ∧ ∀ y ∈ x, (Lit.int .i64 y).wf = true
def bd_Int64S (x : List Int) : Prop := x.length ≤ 1048576
def bi_Int64S (x : List Int) : Prop := x.length ≤ 1048576
def toP (x : S33) : Int × Int := (x.f0, x.f1)
theorem toP_lo (l : List S33) (i : Int) : (rd_T33 l i).f0 = lo (l.map toP) i.toNat := by
  unfold rd_T33 lo
  rw [List.getD_eq_getElem?_getD, List.getD_eq_getElem?_getD, List.getElem?_map]
  cases l[i.toNat]? <;> rfl
theorem toP_hi (l : List S33) (i : Int) : (rd_T33 l i).f1 = hi (l.map toP) i.toNat := by
  unfold rd_T33 hi
  rw [List.getD_eq_getElem?_getD, List.getD_eq_getElem?_getD, List.getElem?_map]
  cases l[i.toNat]? <;> rfl
open Classical in
theorem iClassOk_l (l : List S33) (hl : l.length ≤ 1048576) (d : Nat) : ∀ (k : Nat) (i : Nat), d < k → l.length - i = d → i ≤ l.length → (∀ j, j < i → okAt (l.map toP) j) →
    impl_ClassOk.l0 k l l (l.length : Int) (i : Int) = some (decide (okFrom (l.map toP) i)) := by
  induction d with
  | zero =>
    intro k i hk hd hle _
    obtain ⟨k, rfl⟩ : ∃ m, k = m + 1 := ⟨k - 1, by omega⟩
    simp only [impl_ClassOk.l0]
    rw [if_neg (by omega), decide_eq_true (okFrom_end (by simp; omega))]
  | succ d ih =>
    intro k i hk hd hle hp
    obtain ⟨k, rfl⟩ : ∃ m, k = m + 1 := ⟨k - 1, by omega⟩
    have hlt : i < (l.map toP).length := by simp; omega
    have hst := okFrom_step (l := l.map toP) hlt
    have hne : ¬ okAt (l.map toP) i → decide (okFrom (l.map toP) i) = false := fun h => decide_eq_false (fun g => h (hst.1 g).1)
    simp only [impl_ClassOk.l0, toP_lo, toP_hi]
    rw [if_pos (by omega), if_pos (by omega), if_pos (by omega)]
    have ei : ((i : Nat) : Int).toNat = i := by omega
    rw [ei]
    by_cases h1 : lo (l.map toP) i < 0
    · rw [if_pos h1, hne (fun g => by have := g.1; omega)]
    · rw [if_neg h1]
      by_cases h2 : lo (l.map toP) i > hi (l.map toP) i
      · rw [if_pos h2, hne (fun g => by have := g.2.1; omega)]
      · rw [if_neg h2]
        by_cases h3 : hi (l.map toP) i > 255
        · rw [if_pos h3, hne (fun g => by have := g.2.2.1; omega)]
        · rw [if_neg h3]
          have en : wrap64 ((i : Int) + 1) = ((i + 1 : Nat) : Int) := by rw [w64 (by omega) (by omega)]; omega
          have go : okAt (l.map toP) i → impl_ClassOk.l0 k l l (l.length : Int) (wrap64 ((i : Int) + 1)) = some (decide (okFrom (l.map toP) i)) := by
            intro g
            rw [en, ih k (i + 1) (by omega) (by omega) (by omega) (fun j hj => by
              rcases Nat.lt_or_eq_of_le (Nat.le_of_lt_succ hj) with h | h
              · exact hp j h
              · exact h ▸ g)]
            congr 1
            exact decide_eq_decide.2 ⟨fun h => hst.2 ⟨g, h⟩, fun h => (hst.1 h).2⟩
          by_cases h4 : (i : Int) > 0
          · have hq := hp (i - 1) (by omega)
            have e1 : (wrap64 ((i : Int) - 1)) = ((i - 1 : Nat) : Int) := by rw [w64 (by omega) (by omega)]; omega
            have e2 : (((i - 1 : Nat) : Int)).toNat = i - 1 := by omega
            have q1 := hq.1
            have q2 := hq.2.1
            have q3 := hq.2.2.1
            rw [if_pos h4, e1, if_pos (by omega), if_pos (by omega), e2, w64 (x := hi (l.map toP) (i - 1) + 2) (by omega) (by omega)]
            by_cases h5 : lo (l.map toP) i < hi (l.map toP) (i - 1) + 2
            · rw [if_pos h5, hne (fun g => by have := g.2.2.2 (by omega); omega)]
            · rw [if_neg h5]
              exact go ⟨by omega, by omega, by omega, fun _ => by omega⟩
          · rw [if_neg h4]
            exact go ⟨by omega, by omega, by omega, fun h => by omega⟩
open Classical in
theorem iClassOk (l : List S33) (hl : l.length ≤ 1048576) (k : Nat) (hk : l.length < k) : impl_ClassOk.f k l = some (decide (classOk (l.map toP))) := by
  unfold impl_ClassOk.f
  have e : impl_ClassOk.l0 k l l (l.length : Int) 0 = some (decide (okFrom (l.map toP) 0)) := iClassOk_l l hl l.length k 0 hk (by omega) (by omega) (fun j hj => by omega)
  rw [e]
  congr 1
  exact decide_eq_decide.2 (okFrom_zero _)
open Classical in
theorem sClassOk_l (l : List S33) (hl : l.length ≤ 1048576) (d : Nat) : ∀ (k : Nat) (i : Nat), d < k → l.length - i = d → i ≤ l.length → (∀ j, j < i → okAt (l.map toP) j) →
    spec_ClassOk.l0 k l (i : Int) = some (decide (okFrom (l.map toP) i)) := by
  induction d with
  | zero =>
    intro k i hk hd hle _
    obtain ⟨k, rfl⟩ : ∃ m, k = m + 1 := ⟨k - 1, by omega⟩
    simp only [spec_ClassOk.l0]
    rw [if_neg (by omega), decide_eq_true (okFrom_end (by simp; omega))]
  | succ d ih =>
    intro k i hk hd hle hp
    obtain ⟨k, rfl⟩ : ∃ m, k = m + 1 := ⟨k - 1, by omega⟩
    have hlt : i < (l.map toP).length := by simp; omega
    have hst := okFrom_step (l := l.map toP) hlt
    have hne : ¬ okAt (l.map toP) i → decide (okFrom (l.map toP) i) = false := fun h => decide_eq_false (fun g => h (hst.1 g).1)
    simp only [spec_ClassOk.l0, toP_lo, toP_hi, sIn, Option.bind_some, decide_eq_true_eq]
    rw [if_pos (by omega), if_pos (by omega)]
    have ei : ((i : Nat) : Int).toNat = i := by omega
    rw [ei]
    by_cases h1 : 0 ≤ lo (l.map toP) i ∧ lo (l.map toP) i ≤ 255
    · rw [if_pos h1]
      by_cases h2 : lo (l.map toP) i ≤ hi (l.map toP) i ∧ hi (l.map toP) i ≤ 255
      · rw [if_pos h2]
        have en : wrap64 ((i : Int) + 1) = ((i + 1 : Nat) : Int) := by rw [w64 (by omega) (by omega)]; omega
        have go : okAt (l.map toP) i → spec_ClassOk.l0 k l (wrap64 ((i : Int) + 1)) = some (decide (okFrom (l.map toP) i)) := by
          intro g
          rw [en, ih k (i + 1) (by omega) (by omega) (by omega) (fun j hj => by
            rcases Nat.lt_or_eq_of_le (Nat.le_of_lt_succ hj) with h | h
            · exact hp j h
            · exact h ▸ g)]
          congr 1
          exact decide_eq_decide.2 ⟨fun h => hst.2 ⟨g, h⟩, fun h => (hst.1 h).2⟩
        by_cases h4 : (i : Int) > 0
        · have hq := hp (i - 1) (by omega)
          have e1 : (wrap64 ((i : Int) - 1)) = ((i - 1 : Nat) : Int) := by rw [w64 (by omega) (by omega)]; omega
          have e2 : (((i - 1 : Nat) : Int)).toNat = i - 1 := by omega
          have q1 := hq.1
          have q2 := hq.2.1
          have q3 := hq.2.2.1
          rw [if_pos h4, e1, if_pos (by omega), if_pos (by omega), e2, w64 (x := hi (l.map toP) (i - 1) + 2) (by omega) (by omega)]
          by_cases h5 : lo (l.map toP) i < hi (l.map toP) (i - 1) + 2
          · rw [if_pos h5, hne (fun g => by have := g.2.2.2 (by omega); omega)]
          · rw [if_neg h5]
            exact go ⟨by omega, by omega, by omega, fun _ => by omega⟩
        · rw [if_neg h4]
          exact go ⟨by omega, by omega, by omega, fun h => by omega⟩
      · rw [if_neg h2, hne (fun g => h2 ⟨g.2.1, g.2.2.1⟩)]
    · rw [if_neg h1, hne (fun g => h1 ⟨g.1, by have := g.2.1; have := g.2.2.1; omega⟩)]
open Classical in
theorem sClassOk (l : List S33) (hl : l.length ≤ 1048576) (k : Nat) (hk : l.length < k) : spec_ClassOk.f k l = some (decide (classOk (l.map toP))) := by
  unfold spec_ClassOk.f
  by_cases h : (l.length : Int) > 128
  · rw [if_pos h, decide_eq_false]
    intro g
    have := classOk_len g
    simp at this
    omega
  · rw [if_neg h]
    have e : spec_ClassOk.l0 k l 0 = some (decide (okFrom (l.map toP) 0)) := sClassOk_l l hl l.length k 0 hk (by omega) (by omega) (fun j hj => by omega)
    rw [e]
    congr 1
    exact decide_eq_decide.2 (okFrom_zero _)
def edgeOk (n : Int) (e : S198) : Prop := (0 ≤ e.f0 ∧ e.f0 ≤ n - 1) ∧ (0 ≤ e.f1 ∧ e.f1 ≤ n - 1) ∧ classOk (e.f2.map toP)
def endOk (n : Int) (i : Nat) (e : S138) : Prop := (0 ≤ e.f0 ∧ e.f0 ≤ n - 1) ∧ e.f1 = i
def edgeP (n : Int) (l : List S198) (i : Nat) : Prop := edgeOk n (rd_T198 l i)
def endP (n : Int) (l : List S138) (i : Nat) : Prop := endOk n i (rd_T138 l i)
def nfaOk (n : Int) (es : List S198) (fs : List S138) : Prop := (1 ≤ n ∧ n ≤ 3000) ∧ (es.length ≤ 12000 ∧ fs.length ≤ 40) ∧ fromN (edgeP n es) es.length 0 ∧ fromN (endP n fs) fs.length 0

theorem edge_len {es : List S198} (g : ∀ y ∈ es, bi_Edge y) (i : Nat) : (rd_T198 es i).f2.length ≤ 1048576 := by
  unfold rd_T198
  rw [Int.toNat_natCast, List.getD_eq_getElem?_getD]
  rcases Nat.lt_or_ge i es.length with h | h
  · rw [List.getElem?_eq_getElem h]
    exact g _ (List.getElem_mem h)
  · rw [List.getElem?_eq_none h]
    simp [z198]

open Classical in
theorem sNfa_l1 (n : Int) (hn : 1 ≤ n ∧ n ≤ 3000) (es : List S198) (fs : List S138) (hf : fs.length ≤ 40) (d : Nat) : ∀ (k i : Nat), d < k → fs.length - i = d → i ≤ fs.length →
    spec_NfaOk.l1 k (i : Int) n es fs = some (decide (fromN (endP n fs) fs.length i ∧ True)) := by
  induction d with
  | zero =>
    intro k i hk hd hi
    obtain ⟨k, rfl⟩ : ∃ m, k = m + 1 := ⟨k - 1, by omega⟩
    simp only [spec_NfaOk.l1]
    rw [if_neg (by omega), decide_eq_true ⟨fromN_end (by omega), trivial⟩]
  | succ d ih =>
    intro k i hk hd hi
    obtain ⟨k, rfl⟩ : ∃ m, k = m + 1 := ⟨k - 1, by omega⟩
    have hlt : i < fs.length := by omega
    simp only [spec_NfaOk.l1, sIn, Option.bind_some, decide_eq_true_eq]
    rw [if_pos (by omega), if_pos (by omega), w64 (x := n - 1) (by omega) (by omega), nat_next (by omega)]
    by_cases h1 : (rd_T138 fs i).f1 = (i : Int)
    · rw [if_pos h1]
      by_cases h2 : 0 ≤ (rd_T138 fs i).f0 ∧ (rd_T138 fs i).f0 ≤ n - 1
      · rw [if_pos h2, ih k (i + 1) (by omega) (by omega) (by omega)]; exact congrArg some (decide_eq_decide.2 (fromN_go hlt ⟨h2, h1⟩))
      · rw [if_neg h2, decide_eq_false (fromN_no hlt (fun g => h2 g.1))]
    · rw [if_neg h1, decide_eq_false (fromN_no hlt (fun g => h1 g.2))]
open Classical in
theorem sNfa_l0 (n : Int) (hn : 1 ≤ n ∧ n ≤ 3000) (es : List S198) (fs : List S138) (he : es.length ≤ 12000) (g : ∀ y ∈ es, bi_Edge y) (hf : fs.length ≤ 40) (d : Nat) : ∀ (k i : Nat), d + 1048578 < k → es.length - i = d → i ≤ es.length →
    spec_NfaOk.l0 k (i : Int) n es fs = some (decide (fromN (edgeP n es) es.length i ∧ fromN (endP n fs) fs.length 0)) := by
  induction d with
  | zero =>
    intro k i hk hd hi
    obtain ⟨k, rfl⟩ : ∃ m, k = m + 1 := ⟨k - 1, by omega⟩
    simp only [spec_NfaOk.l0]
    rw [if_neg (by omega)]
    have e : spec_NfaOk.l1 k 0 n es fs = some (decide (fromN (endP n fs) fs.length 0 ∧ True)) := sNfa_l1 n hn es fs hf fs.length k 0 (by omega) (by omega) (by omega)
    rw [e]
    congr 1
    exact decide_eq_decide.2 ⟨fun h => ⟨fromN_end (by omega), h.1⟩, fun h => ⟨h.2, trivial⟩⟩
  | succ d ih =>
    intro k i hk hd hi
    obtain ⟨k, rfl⟩ : ∃ m, k = m + 1 := ⟨k - 1, by omega⟩
    have hlt : i < es.length := by omega
    have hL := edge_len g i
    simp only [spec_NfaOk.l0, sIn, Option.bind_some, decide_eq_true_eq]
    rw [if_pos (by omega), if_pos (by omega), w64 (x := n - 1) (by omega) (by omega), nat_next (by omega)]
    by_cases h1 : 0 ≤ (rd_T198 es i).f0 ∧ (rd_T198 es i).f0 ≤ n - 1
    · rw [if_pos h1]
      by_cases h2 : 0 ≤ (rd_T198 es i).f1 ∧ (rd_T198 es i).f1 ≤ n - 1
      · rw [if_pos h2, sClassOk _ hL k (by omega)]
        simp only [Option.bind_some, decide_eq_true_eq]
        by_cases h3 : classOk ((rd_T198 es i).f2.map toP)
        · rw [if_pos h3, ih k (i + 1) (by omega) (by omega) (by omega)]; exact congrArg some (decide_eq_decide.2 (fromN_go hlt ⟨h1, h2, h3⟩))
        · rw [if_neg h3, decide_eq_false (fromN_no hlt (fun g => h3 g.2.2))]
      · rw [if_neg h2, decide_eq_false (fromN_no hlt (fun g => h2 g.2.1))]
    · rw [if_neg h1, decide_eq_false (fromN_no hlt (fun g => h1 g.1))]
open Classical in
theorem sNfaOk (n : Int) (es : List S198) (fs : List S138) (g : ∀ y ∈ es, bi_Edge y) (k : Nat) (hk : 2097156 ≤ k) : spec_NfaOk.f k n es fs = some (decide (nfaOk n es fs)) := by
  obtain ⟨k, rfl⟩ : ∃ m, k = m + 1 := ⟨k - 1, by omega⟩
  unfold spec_NfaOk.f
  simp only [sIn, Option.bind_some, decide_eq_true_eq]
  by_cases h1 : 1 ≤ n ∧ n ≤ 3000
  · rw [if_pos h1]
    by_cases h2 : (es.length : Int) > 12000
    · rw [if_pos h2, decide_eq_false (fun g => by have := g.2.1.1; omega)]
      simp [spec_NfaOk.j0]
    · rw [if_neg h2]
      by_cases h3 : (fs.length : Int) > 40
      · rw [decide_eq_true h3, decide_eq_false (fun g => by have := g.2.1.2; omega)]
        simp [spec_NfaOk.j0]
      · rw [decide_eq_false h3]
        simp only [spec_NfaOk.j0]
        rw [if_neg (by simp)]
        have e : spec_NfaOk.l0 k 0 n es fs = some (decide (fromN (edgeP n es) es.length 0 ∧ fromN (endP n fs) fs.length 0)) := sNfa_l0 n h1 es fs (by omega) g (by omega) es.length k 0 (by omega) (by omega) (by omega)
        rw [e]
        congr 1
        exact decide_eq_decide.2 ⟨fun h => ⟨h1, by omega, h⟩, fun h => h.2.2⟩
  · rw [if_neg h1, decide_eq_false (fun g => h1 g.1)]
    simp [spec_NfaOk.j0]

open Classical in
theorem iNfa_l1 (n : Int) (hn : 1 ≤ n ∧ n ≤ 3000) (es : List S198) (fs : List S138) (hf : fs.length ≤ 40) (d : Nat) : ∀ (k i : Nat), d < k → fs.length - i = d → i ≤ fs.length →
    impl_NfaOk.l1 k fs (fs.length : Int) (i : Int) n es fs = some (decide (fromN (endP n fs) fs.length i ∧ True)) := by
  induction d with
  | zero =>
    intro k i hk hd hi
    obtain ⟨k, rfl⟩ : ∃ m, k = m + 1 := ⟨k - 1, by omega⟩
    simp only [impl_NfaOk.l1]
    rw [if_neg (by omega), decide_eq_true ⟨fromN_end (by omega), trivial⟩]
  | succ d ih =>
    intro k i hk hd hi
    obtain ⟨k, rfl⟩ : ∃ m, k = m + 1 := ⟨k - 1, by omega⟩
    have hlt : i < fs.length := by omega
    simp only [impl_NfaOk.l1, iWithin, Option.bind_some, decide_eq_true_eq]
    rw [if_pos (by omega), if_pos (by omega), if_pos (by omega), w64 (x := n - 1) (by omega) (by omega), nat_next (by omega)]
    by_cases h2 : 0 ≤ (rd_T138 fs i).f0 ∧ (rd_T138 fs i).f0 ≤ n - 1
    · rw [if_pos h2]
      by_cases h1 : (rd_T138 fs i).f1 = (i : Int)
      · rw [if_pos h1, ih k (i + 1) (by omega) (by omega) (by omega)]; exact congrArg some (decide_eq_decide.2 (fromN_go hlt ⟨h2, h1⟩))
      · rw [if_neg h1, decide_eq_false (fromN_no hlt (fun g => h1 g.2))]
    · rw [if_neg h2, decide_eq_false (fromN_no hlt (fun g => h2 g.1))]
open Classical in
theorem iNfa_l0 (n : Int) (hn : 1 ≤ n ∧ n ≤ 3000) (es : List S198) (fs : List S138) (he : es.length ≤ 12000) (g : ∀ y ∈ es, bi_Edge y) (hf : fs.length ≤ 40) (d : Nat) : ∀ (k i : Nat), d + 1048578 < k → es.length - i = d → i ≤ es.length →
    impl_NfaOk.l0 k es (es.length : Int) (i : Int) n es fs = some (decide (fromN (edgeP n es) es.length i ∧ fromN (endP n fs) fs.length 0)) := by
  induction d with
  | zero =>
    intro k i hk hd hi
    obtain ⟨k, rfl⟩ : ∃ m, k = m + 1 := ⟨k - 1, by omega⟩
    simp only [impl_NfaOk.l0]
    rw [if_neg (by omega)]
    have e : impl_NfaOk.l1 k fs (fs.length : Int) 0 n es fs = some (decide (fromN (endP n fs) fs.length 0 ∧ True)) := iNfa_l1 n hn es fs hf fs.length k 0 (by omega) (by omega) (by omega)
    rw [e]
    congr 1
    exact decide_eq_decide.2 ⟨fun h => ⟨fromN_end (by omega), h.1⟩, fun h => ⟨h.2, trivial⟩⟩
  | succ d ih =>
    intro k i hk hd hi
    obtain ⟨k, rfl⟩ : ∃ m, k = m + 1 := ⟨k - 1, by omega⟩
    have hlt : i < es.length := by omega
    have hL := edge_len g i
    simp only [impl_NfaOk.l0, iWithin, Option.bind_some, decide_eq_true_eq]
    rw [if_pos (by omega), if_pos (by omega), if_pos (by omega), w64 (x := n - 1) (by omega) (by omega), nat_next (by omega)]
    by_cases h1 : 0 ≤ (rd_T198 es i).f0 ∧ (rd_T198 es i).f0 ≤ n - 1
    · rw [if_pos h1]
      by_cases h2 : 0 ≤ (rd_T198 es i).f1 ∧ (rd_T198 es i).f1 ≤ n - 1
      · rw [if_pos h2, iClassOk _ hL k (by omega)]
        simp only [Option.bind_some, decide_eq_true_eq]
        by_cases h3 : classOk ((rd_T198 es i).f2.map toP)
        · rw [if_pos h3, ih k (i + 1) (by omega) (by omega) (by omega)]; exact congrArg some (decide_eq_decide.2 (fromN_go hlt ⟨h1, h2, h3⟩))
        · rw [if_neg h3, decide_eq_false (fromN_no hlt (fun g => h3 g.2.2))]
      · rw [if_neg h2, decide_eq_false (fromN_no hlt (fun g => h2 g.2.1))]
    · rw [if_neg h1, decide_eq_false (fromN_no hlt (fun g => h1 g.1))]
open Classical in
theorem iNfaOk (n : Int) (es : List S198) (fs : List S138) (g : ∀ y ∈ es, bi_Edge y) (k : Nat) (hk : 2097156 ≤ k) : impl_NfaOk.f k n es fs = some (decide (nfaOk n es fs)) := by
  obtain ⟨k, rfl⟩ : ∃ m, k = m + 1 := ⟨k - 1, by omega⟩
  unfold impl_NfaOk.f
  simp only [iWithin, Option.bind_some, decide_eq_true_eq]
  by_cases h1 : 1 ≤ n ∧ n ≤ 3000
  · rw [if_pos h1]
    by_cases h2 : (es.length : Int) > 12000
    · rw [if_pos h2, decide_eq_false (fun g => by have := g.2.1.1; omega)]
      simp [impl_NfaOk.j0]
    · rw [if_neg h2]
      by_cases h3 : (fs.length : Int) > 40
      · rw [decide_eq_true h3, decide_eq_false (fun g => by have := g.2.1.2; omega)]
        simp [impl_NfaOk.j0]
      · rw [decide_eq_false h3]
        simp only [impl_NfaOk.j0]
        rw [if_neg (by simp)]
        have e : impl_NfaOk.l0 k es (es.length : Int) 0 n es fs = some (decide (fromN (edgeP n es) es.length 0 ∧ fromN (endP n fs) fs.length 0)) := iNfa_l0 n h1 es fs (by omega) g (by omega) es.length k 0 (by omega) (by omega) (by omega)
        rw [e]
        congr 1
        exact decide_eq_decide.2 ⟨fun h => ⟨h1, by omega, h⟩, fun h => h.2.2⟩
  · rw [if_neg h1, decide_eq_false (fun g => h1 g.1)]
    simp [impl_NfaOk.j0]
/-- two lists of numbers that are one are told alike -/
theorem eqInt64S_l (l : List Int) (hl : (l.length : Int) ≤ 1099511627776) (d : Nat) : ∀ (k : Nat) (i : Int), d < k → 0 ≤ i → (l.length : Int) - i = d → laws_eqInt64S.l0 k l l i = some true := by
  induction d with
  | zero =>
    intro k i hk h0 hd
    obtain ⟨k, rfl⟩ : ∃ m, k = m + 1 := ⟨k - 1, by omega⟩
    simp only [laws_eqInt64S.l0]
    rw [if_neg (by omega)]
  | succ d ih =>
    intro k i hk h0 hd
    obtain ⟨k, rfl⟩ : ∃ m, k = m + 1 := ⟨k - 1, by omega⟩
    simp only [laws_eqInt64S.l0]
    rw [if_pos (by omega), if_pos h0, if_pos (by omega), w64 (by omega) (by omega)]
    exact ih k _ (by omega) (by omega) (by omega)
theorem eqInt64S_same (l : List Int) (hl : (l.length : Int) ≤ 1099511627776) (k : Nat) (hk : l.length < k) : laws_eqInt64S.f k l l = some true := by
  unfold laws_eqInt64S.f
  simp only [if_true]
  exact eqInt64S_l l hl l.length k 0 hk (by omega) (by omega)

/-- what is marked is held: the marks of a list, told by its length alone -/
theorem markInt64S_l (d : Nat) : ∀ (k : Nat) (l : List Int) (m i : Int), d < k → 0 ≤ i → (l.length : Int) - i = d → (l.length : Int) ≤ 1099511627776 → 0 ≤ m → m ≤ 4398046511104 → m + d ≤ 4398046511104 →
    ∃ l', laws_markInt64S.l0 k l m i = some (m + d, l') ∧ l'.length = l.length ∧ (∀ j : Nat, (j : Int) < i → l'.getD j 0 = l.getD j 0) ∧ (∀ j : Nat, i ≤ (j : Int) → j < l.length → l'.getD j 0 = m + ((j : Int) - i)) := by
  induction d with
  | zero =>
    intro k l m i hk h0 hd hl hm hm' hmd
    obtain ⟨k, rfl⟩ : ∃ m, k = m + 1 := ⟨k - 1, by omega⟩
    refine ⟨l, ?_, rfl, fun j _ => rfl, fun j hj hj' => by omega⟩
    simp only [laws_markInt64S.l0]
    rw [if_neg (by omega)]
    simp
  | succ d ih =>
    intro k l m i hk h0 hd hl hm hm' hmd
    obtain ⟨k, rfl⟩ : ∃ m, k = m + 1 := ⟨k - 1, by omega⟩
    obtain ⟨l', e, e1, e2, e3⟩ := ih k (l.set i.toNat m) (m + 1) (i + 1) (by omega) (by omega) (by simp; omega) (by simp; omega) (by omega) (by omega) (by omega)
    refine ⟨l', ?_, by simpa using e1, fun j hj => ?_, fun j hj hj' => ?_⟩
    · simp only [laws_markInt64S.l0]
      rw [if_pos (by omega), if_pos h0, w64 (x := m + 1) (by omega) (by omega), w64 (by omega) (by omega), e]
      congr 2
      omega
    · rw [e2 j (by omega), List.getD_eq_getElem?_getD, List.getD_eq_getElem?_getD, List.getElem?_set_ne (by omega)]
    · by_cases hji : (j : Int) = i
      · rw [e2 j (by omega)]
        have : i.toNat = j := by omega
        rw [this, List.getD_eq_getElem?_getD, List.getElem?_set_self hj']
        simp; omega
      · rw [e3 j (by omega) (by simpa using hj')]
        omega
theorem heldInt64S_l (l : List Int) (hl : (l.length : Int) ≤ 1099511627776) (d : Nat) : ∀ (k : Nat) (m i : Int), d < k → 0 ≤ i → (l.length : Int) - i = d → 0 ≤ m → m + d ≤ 4398046511104 →
    (∀ j : Nat, i ≤ (j : Int) → j < l.length → l.getD j 0 = m + ((j : Int) - i)) → laws_heldInt64S.l0 k l m i = some (m + d) := by
  induction d with
  | zero =>
    intro k m i hk h0 hd hm hmd _
    obtain ⟨k, rfl⟩ : ∃ m, k = m + 1 := ⟨k - 1, by omega⟩
    simp only [laws_heldInt64S.l0]
    rw [if_neg (by omega)]
    simp
  | succ d ih =>
    intro k m i hk h0 hd hm hmd hj
    obtain ⟨k, rfl⟩ : ∃ m, k = m + 1 := ⟨k - 1, by omega⟩
    have hi := hj i.toNat (by omega) (by omega)
    simp only [laws_heldInt64S.l0]
    rw [if_pos (by omega), if_pos h0, if_pos (by unfold rd; omega), w64 (x := m + 1) (by omega) (by omega), w64 (by omega) (by omega), ih k _ _ (by omega) (by omega) (by omega) (by omega) (by omega) (fun j h h' => by rw [hj j (by omega) h']; omega)]
    congr 1
    omega
/-- the marks of a list, and that they are held -/
theorem markInt64S_held (l : List Int) (hl : (l.length : Int) ≤ 1099511627776) (m : Int) (hm : 0 ≤ m) (hm' : m ≤ 2199023255552) : ∃ l', ∀ k, l.length < k →
    laws_markInt64S.f k l m = some (m + l.length, l') ∧ laws_heldInt64S.f k l' m = some (m + l.length) := by
  obtain ⟨l', e, e1, _, e3⟩ := markInt64S_l l.length (l.length + 1) l m 0 (by omega) (by omega) (by omega) hl hm (by omega) (by omega)
  refine ⟨l', fun k hk => ⟨?_, ?_⟩⟩
  · obtain ⟨l2, f, _⟩ := markInt64S_l l.length k l m 0 hk (by omega) (by omega) hl hm (by omega) (by omega)
    have : laws_markInt64S.l0 k l m 0 = some (m + l.length, l') := at_rounds (g := fun k => laws_markInt64S.l0 k l m 0) (fun k => laws_markInt64S.mono_l k _ _ _) (by omega : l.length + 1 ≤ k) e
    exact this
  · unfold laws_heldInt64S.f
    exact heldInt64S_l l' (by omega) l.length k m 0 hk (by omega) (by omega) hm (by omega) (fun j h h' => e3 j h (by omega))
/-- what can be come to without a byte -/
inductive Rch (es : List S198) (P : Nat → Prop) : Nat → Prop
  | base (s : Nat) : P s → Rch es P s
  | step (s t : Nat) (e : S198) : Rch es P s → e ∈ es → e.f0 = (s : Int) → e.f2.length = 0 → e.f1 = (t : Int) → Rch es P t
open Classical in
noncomputable def cl (n : Nat) (es : List S198) (P : Nat → Prop) : List Bool := (List.range n).map (fun s => decide (Rch es P s))
theorem cl_len (n : Nat) (es : List S198) (P : Nat → Prop) : (cl n es P).length = n := by simp [cl]
theorem cl_get (n : Nat) (es : List S198) (P : Nat → Prop) (s : Nat) (h : s < n) : (cl n es P).getD s false = true ↔ Rch es P s := by
  unfold cl
  rw [List.getD_eq_getElem?_getD, List.getElem?_map, List.getElem?_range h]
  simp
theorem bools_ext {a b : List Bool} (h : a.length = b.length) (g : ∀ s, s < a.length → (a.getD s false = true ↔ b.getD s false = true)) : a = b := by
  refine List.ext_getElem h (fun i h1 h2 => ?_)
  have := g i h1
  rw [List.getD_eq_getElem?_getD, List.getD_eq_getElem?_getD, List.getElem?_eq_getElem h1, List.getElem?_eq_getElem h2] at this
  simp only [Option.getD_some] at this
  cases ha : a[i] <;> cases hb : b[i] <;> simp_all
theorem cl_uniq {n : Nat} {es : List S198} {P : Nat → Prop} {m : List Bool} (h : m.length = n) (g : ∀ s, s < n → (m.getD s false = true ↔ Rch es P s)) : m = cl n es P :=
  bools_ext (by rw [h, cl_len]) (fun s hs => by rw [g s (by omega), cl_get n es P s (by omega)])
theorem Rch_congr {es : List S198} {P Q : Nat → Prop} (h : ∀ s, P s ↔ Q s) (s : Nat) : Rch es P s ↔ Rch es Q s := by
  constructor
  · intro r
    induction r with
    | base s hs => exact .base s ((h s).1 hs)
    | step s t e _ h1 h2 h3 h4 ih => exact .step s t e ih h1 h2 h3 h4
  · intro r
    induction r with
    | base s hs => exact .base s ((h s).2 hs)
    | step s t e _ h1 h2 h3 h4 ih => exact .step s t e ih h1 h2 h3 h4
theorem cl_congr {n : Nat} {es : List S198} {P Q : Nat → Prop} (h : ∀ s, P s ↔ Q s) : cl n es P = cl n es Q :=
  cl_uniq (cl_len _ _ _) (fun s hs => by rw [cl_get n es P s hs]; exact Rch_congr h s)
/-- the numbers of the marks from the i-th on -/
def onF (m : List Bool) : Nat → Nat → List Int
  | 0, _ => []
  | d + 1, i => (if m.getD i false = true then [(i : Int)] else []) ++ onF m d (i + 1)
def onL (m : List Bool) : List Int := onF m m.length 0
theorem onF_len (m : List Bool) : ∀ d i, (onF m d i).length ≤ d
  | 0, _ => Nat.le_refl _
  | d + 1, i => by
    have := onF_len m d (i + 1)
    rw [onF, List.length_append]
    split <;> simp <;> omega
theorem mem_onF (m : List Bool) (x : Int) : ∀ d i, x ∈ onF m d i ↔ ∃ s : Nat, i ≤ s ∧ s < i + d ∧ x = (s : Int) ∧ m.getD s false = true
  | 0, i => by
    simp only [onF, List.not_mem_nil, false_iff]
    rintro ⟨s, h1, h2, _⟩
    omega
  | d + 1, i => by
    rw [onF, List.mem_append, mem_onF m x d (i + 1)]
    constructor
    · rintro (h | ⟨s, h1, h2, h3⟩)
      · split at h
        · rw [List.mem_singleton] at h
          exact ⟨i, Nat.le_refl _, by omega, h, by assumption⟩
        · simp at h
      · exact ⟨s, by omega, by omega, h3⟩
    · rintro ⟨s, h1, h2, h3, h4⟩
      by_cases e : s = i
      · subst e
        rw [if_pos h4]
        exact .inl (by rw [h3]; exact List.mem_singleton.2 rfl)
      · exact .inr ⟨s, by omega, by omega, h3, h4⟩
theorem mem_onL (m : List Bool) (x : Int) : x ∈ onL m ↔ ∃ s : Nat, s < m.length ∧ x = (s : Int) ∧ m.getD s false = true := by
  unfold onL
  rw [mem_onF]
  constructor
  · rintro ⟨s, _, h2, h3⟩
    exact ⟨s, by omega, h3⟩
  · rintro ⟨s, h2, h3⟩
    exact ⟨s, by omega, by omega, h3⟩
theorem rdOf_nat (m : List Bool) (i : Nat) : rdOf false m (i : Int) = m.getD i false := by unfold rdOf; rw [Int.toNat_natCast]
theorem iList_l1 (m : List Bool) (hm : m.length ≤ 3000) (d : Nat) : ∀ (k i : Nat) (acc : List Int), d < k → m.length - i = d → i ≤ m.length → acc.length ≤ i → impl_network_closure.l1 k acc m (m.length : Int) (i : Int) = some (acc ++ onF m d i) := by
  induction d with
  | zero =>
    intro k i acc hk hd hi ha
    obtain ⟨k, rfl⟩ : ∃ m, k = m + 1 := ⟨k - 1, by omega⟩
    rw [impl_network_closure.l1, if_neg (by omega), onF, List.append_nil]
  | succ d ih =>
    intro k i acc hk hd hi ha
    obtain ⟨k, rfl⟩ : ∃ m, k = m + 1 := ⟨k - 1, by omega⟩
    rw [impl_network_closure.l1, if_pos (by omega), if_pos (by omega), if_pos (by omega), rdOf_nat, onF, nat_next (by omega)]
    by_cases h : m.getD i false = true
    · rw [if_pos h, if_pos h, if_pos (by omega), ih k (i + 1) _ (by omega) (by omega) (by omega) (by simp; omega), List.append_assoc]
    · rw [if_neg h, if_neg h, ih k (i + 1) _ (by omega) (by omega) (by omega) (by omega), List.nil_append]
theorem iList (m : List Bool) (hm : m.length ≤ 3000) (k : Nat) (hk : 3001 ≤ k) : impl_network_closure.l1 k [] m (m.length : Int) 0 = some (onL m) := by
  have e : impl_network_closure.l1 k [] m (m.length : Int) 0 = _ := iList_l1 m hm m.length k 0 [] (by omega) (by omega) (by omega) (by simp)
  rw [e, List.nil_append]
  rfl
/-- how many are not marked -/
def off (m : List Bool) : Nat := m.count false
theorem off_le (m : List Bool) : off m ≤ m.length := List.count_le_length
theorem off_set : ∀ (m : List Bool) (s : Nat), s < m.length → m.getD s false = false → off (m.set s true) + 1 = off m
  | [], s, h, _ => by simp at h
  | b :: m, 0, _, h => by
    have hb : b = false := by simpa using h
    subst hb
    simp [off]
  | b :: m, s + 1, h, g => by
    have := off_set m s (by simpa using h) (by simpa using g)
    unfold off at this ⊢
    rw [List.set_cons_succ, List.count_cons, List.count_cons]
    omega
theorem set_get (m : List Bool) (s t : Nat) (h : s < m.length) : ((m.set s true).getD t false = true) ↔ (t = s ∨ m.getD t false = true) := by
  rw [List.getD_eq_getElem?_getD, List.getD_eq_getElem?_getD]
  by_cases e : s = t
  · subst e
    rw [List.getElem?_set_self h]
    simp
  · rw [List.getElem?_set_ne e]
    constructor
    · exact .inr
    · rintro (q | q)
      · exact absurd q.symm e
      · exact q
/-- the edges of a right network -/
def edgesIn (n : Nat) (es : List S198) : Prop := ∀ e ∈ es, (0 ≤ e.f0 ∧ e.f0 < n) ∧ (0 ≤ e.f1 ∧ e.f1 < n)
/-- a state's edges without a byte, and those with one -/
def frF : List S198 → Nat → List Int
  | [], _ => []
  | e :: es, s => (if e.f0 = (s : Int) ∧ e.f2.length = 0 then [e.f1] else []) ++ frF es s
def stF : List S198 → Nat → Nat → List Int
  | [], _, _ => []
  | e :: es, i, s => (if e.f0 = (s : Int) ∧ ¬ e.f2.length = 0 then [(i : Int)] else []) ++ stF es (i + 1) s
theorem frF_len : ∀ (es : List S198) s, (frF es s).length ≤ es.length
  | [], _ => Nat.le_refl _
  | e :: es, s => by
    have := frF_len es s
    rw [frF, List.length_append, List.length_cons]
    split <;> simp <;> omega
theorem stF_len : ∀ (es : List S198) i s, (stF es i s).length ≤ es.length
  | [], _, _ => Nat.le_refl _
  | e :: es, i, s => by
    have := stF_len es (i + 1) s
    rw [stF, List.length_append, List.length_cons]
    split <;> simp <;> omega
theorem frF_snoc (e : S198) : ∀ (es : List S198) s, frF (es ++ [e]) s = frF es s ++ (if e.f0 = (s : Int) ∧ e.f2.length = 0 then [e.f1] else [])
  | [], s => by simp [frF]
  | f :: es, s => by rw [List.cons_append, frF, frF, frF_snoc e es s, List.append_assoc]
theorem stF_snoc (e : S198) : ∀ (es : List S198) i s, stF (es ++ [e]) i s = stF es i s ++ (if e.f0 = (s : Int) ∧ ¬ e.f2.length = 0 then [((i + es.length : Nat) : Int)] else [])
  | [], i, s => by simp [stF]
  | f :: es, i, s => by rw [List.cons_append, stF, stF, stF_snoc e es (i + 1) s, List.append_assoc, List.length_cons, show i + 1 + es.length = i + (es.length + 1) by omega]
theorem mem_frF (x : Int) : ∀ (es : List S198) s, x ∈ frF es s ↔ ∃ e ∈ es, e.f0 = (s : Int) ∧ e.f2.length = 0 ∧ e.f1 = x
  | [], s => by simp [frF]
  | f :: es, s => by
    rw [frF, List.mem_append, mem_frF x es s]
    constructor
    · rintro (h | ⟨e, h1, h2⟩)
      · split at h
        · rename_i hc
          rw [List.mem_singleton] at h
          exact ⟨f, List.mem_cons_self, hc.1, hc.2, h.symm⟩
        · simp at h
      · exact ⟨e, List.mem_cons_of_mem _ h1, h2⟩
    · rintro ⟨e, h1, h2, h3, h4⟩
      rcases List.mem_cons.1 h1 with h1 | h1
      · subst h1
        rw [if_pos ⟨h2, h3⟩]
        exact .inl (by rw [h4]; exact List.mem_singleton.2 rfl)
      · exact .inr ⟨e, h1, h2, h3, h4⟩
theorem mem_stF (x : Int) : ∀ (es : List S198) i s, x ∈ stF es i s ↔ ∃ j : Nat, j < es.length ∧ x = ((i + j : Nat) : Int) ∧ (rd_T198 es j).f0 = (s : Int) ∧ ¬ (rd_T198 es j).f2.length = 0
  | [], i, s => by simp [stF]
  | f :: es, i, s => by
    rw [stF, List.mem_append, mem_stF x es (i + 1) s]
    have e0 : rd_T198 (f :: es) ((0 : Nat) : Int) = f := rfl
    have e1 : ∀ j : Nat, rd_T198 (f :: es) ((j + 1 : Nat) : Int) = rd_T198 es (j : Int) := fun j => by unfold rd_T198; rw [Int.toNat_natCast, Int.toNat_natCast]; rfl
    constructor
    · rintro (h | ⟨j, h1, h2, h3, h4⟩)
      · split at h
        · rename_i hc
          rw [List.mem_singleton] at h
          exact ⟨0, by simp, by rw [h]; rfl, by rw [e0]; exact hc.1, by rw [e0]; exact hc.2⟩
        · simp at h
      · exact ⟨j + 1, by simp; omega, by rw [h2]; congr 1; omega, by rw [e1]; exact h3, by rw [e1]; exact h4⟩
    · rintro ⟨j, h1, h2, h3, h4⟩
      cases j with
      | zero =>
        rw [e0] at h3 h4
        rw [if_pos ⟨h3, h4⟩]
        exact .inl (by rw [h2]; exact List.mem_singleton.2 rfl)
      | succ j =>
        rw [e1] at h3 h4
        exact .inr ⟨j, by simpa using h1, by rw [h2]; congr 1; omega, h3, h4⟩
def tabN {α : Type} (n : Nat) (F : Nat → α) : List α := (List.range n).map F
theorem tabN_len {α : Type} (n : Nat) (F : Nat → α) : (tabN n F).length = n := by simp [tabN]
theorem tabN_get {α : Type} (n : Nat) (F : Nat → α) (d : α) (s : Nat) (h : s < n) : (tabN n F).getD s d = F s := by
  unfold tabN
  rw [List.getD_eq_getElem?_getD, List.getElem?_map, List.getElem?_range h]
  rfl
theorem tabN_set {α : Type} (n : Nat) (F : Nat → α) (s : Nat) (x : α) (h : s < n) : (tabN n F).set s x = tabN n (fun t => if t = s then x else F t) := by
  unfold tabN
  refine List.ext_getElem (by simp) (fun i h1 h2 => ?_)
  have hi : i < n := by simpa using h2
  rw [List.getElem_set, List.getElem_map, List.getElem_range]
  by_cases e : s = i
  · subst e; simp
  · rw [if_neg e]
    simp only [List.getElem_map, List.getElem_range]
    rw [if_neg (fun q : i = s => e q.symm)]
theorem tabN_congr {α : Type} {n : Nat} {F G : Nat → α} (h : ∀ s, s < n → F s = G s) : tabN n F = tabN n G := by
  unfold tabN
  exact List.map_congr_left (fun s hs => h s (List.mem_range.1 hs))
theorem rdE_split (a : List S198) (e : S198) (b : List S198) : rd_T198 (a ++ e :: b) (a.length : Int) = e := by
  unfold rd_T198
  rw [Int.toNat_natCast, List.getD_eq_getElem?_getD, List.getElem?_append_right (Nat.le_refl _), Nat.sub_self]
  rfl
theorem net_l0 (n : Nat) (z : Int) (zs : List S198) (fs : List S138) (ES : List S198) (hE : edgesIn n ES) (hl : ES.length ≤ 12000) : ∀ (b a : List S198) (k : Nat), ES = a ++ b → b.length < k →
    impl_newNetwork.l0 k ES (ES.length : Int) (a.length : Int) z zs fs (tabN n (frF a)) (tabN n (stF a 0)) = some (tabN n (frF ES), tabN n (stF ES 0))
  | [], a, k, h, hk => by
    obtain ⟨k, rfl⟩ : ∃ m, k = m + 1 := ⟨k - 1, by omega⟩
    rw [List.append_nil] at h
    subst h
    rw [impl_newNetwork.l0, if_neg (by omega)]
  | e :: b, a, k, h, hk => by
    obtain ⟨k, rfl⟩ : ∃ m, k = m + 1 := ⟨k - 1, by omega⟩
    have hlen : ES.length = a.length + (b.length + 1) := by rw [h, List.length_append, List.length_cons]
    have ih := net_l0 n z zs fs ES hE hl b (a ++ [e]) k (by rw [h]; simp) (by simp at hk; omega)
    have he := (hE e (by rw [h]; simp)).1
    have hrd : rd_T198 ES (a.length : Int) = e := by rw [h]; exact rdE_split a e b
    have h1 : (e.f0.toNat : Int) = e.f0 := Int.toNat_of_nonneg he.1
    have h2 : e.f0.toNat < n := by omega
    have hf := frF_len a e.f0.toNat
    have hs := stF_len a 0 e.f0.toNat
    rw [List.length_append, List.length_singleton] at ih
    rw [impl_newNetwork.l0, if_pos (by omega), if_pos (by omega), if_pos (by omega), hrd, nat_next (by omega)]
    by_cases c : (e.f2.length : Int) = 0
    · have c' : e.f2.length = 0 := by omega
      have g : rd_L13 (tabN n (frF a)) e.f0 = frF a e.f0.toNat := tabN_get n (frF a) [] _ h2
      rw [if_pos c, if_pos he.1, if_pos (by rw [tabN_len]; omega), g, if_pos (by omega), tabN_set _ _ _ _ h2]
      rw [show tabN n (fun t => if t = e.f0.toNat then frF a e.f0.toNat ++ [e.f1] else frF a t) = tabN n (frF (a ++ [e])) from tabN_congr (fun s _ => by
        rw [frF_snoc]
        by_cases q : s = e.f0.toNat
        · subst q; rw [if_pos rfl, if_pos ⟨h1.symm, c'⟩]
        · rw [if_neg q, if_neg (fun r => q (by omega)), List.append_nil]), show tabN n (stF a 0) = tabN n (stF (a ++ [e]) 0) from tabN_congr (fun s _ => by rw [stF_snoc, if_neg (fun r => r.2 c'), List.append_nil])]
      exact ih
    · have c' : ¬ e.f2.length = 0 := by omega
      have g : rd_L14 (tabN n (stF a 0)) e.f0 = stF a 0 e.f0.toNat := tabN_get n (stF a 0) [] _ h2
      rw [if_neg c, if_pos he.1, if_pos (by rw [tabN_len]; omega), g, if_pos (by omega), tabN_set _ _ _ _ h2]
      rw [show tabN n (fun t => if t = e.f0.toNat then stF a 0 e.f0.toNat ++ [(a.length : Int)] else stF a 0 t) = tabN n (stF (a ++ [e]) 0) from tabN_congr (fun s _ => by
        rw [stF_snoc, Nat.zero_add]
        by_cases q : s = e.f0.toNat
        · subst q; rw [if_pos rfl, if_pos ⟨h1.symm, c'⟩]
        · rw [if_neg q, if_neg (fun r => q (by omega)), List.append_nil]), show tabN n (frF a) = tabN n (frF (a ++ [e])) from tabN_congr (fun s _ => by rw [frF_snoc, if_neg (fun r => c' r.2), List.append_nil])]
      exact ih
theorem netNew (n : Nat) (hn : n ≤ 3000) (es : List S198) (fs : List S138) (hE : edgesIn n es) (hl : es.length ≤ 12000) (k : Nat) (hk : 12001 ≤ k) : impl_newNetwork.f k (n : Int) es fs = some (tabN n (frF es), tabN n (stF es 0)) := by
  unfold impl_newNetwork.f
  rw [if_pos (by omega), if_pos (by omega), Int.toNat_natCast]
  have e := net_l0 n (n : Int) es fs es hE hl es [] k rfl (by omega)
  have r : ∀ F : Nat → List Int, (∀ s, F s = []) → tabN n F = List.replicate n [] := fun F h => by
    unfold tabN
    refine List.ext_getElem (by simp) (fun i h1 h2 => ?_)
    rw [List.getElem_map, List.getElem_replicate, h]
  rw [r (frF []) (fun _ => rfl), r (stF [] 0) (fun _ => rfl)] at e
  exact e
theorem iClo_end (n : Nat) (hn : n ≤ 3000) (es : List S198) (fs : List S138) (z : Int) (fx sx : List (List Int)) (P : Nat → Prop) (k : Nat) (seen : List Bool) (hk : 3003 ≤ k) (hs : seen.length = n) (hA : ∀ s, seen.getD s false = true → Rch es P s) (hC : ∀ s, P s → seen.getD s false = true ∨ (s : Int) ∈ ([] : List Int))
    (hD : ∀ e ∈ es, e.f2.length = 0 → seen.getD e.f0.toNat false = true → seen.getD e.f1.toNat false = true ∨ e.f1 ∈ ([] : List Int)) : impl_network_closure.l0 k seen [] [] z es fs fx sx = some (onL (cl n es P)) := by
  obtain ⟨k, rfl⟩ : ∃ m, k = m + 1 := ⟨k - 1, by omega⟩
  rw [impl_network_closure.l0, if_neg (by simp), iList seen (by omega) k (by omega)]
  have hcl : ∀ s, Rch es P s → seen.getD s false = true := by
    intro s h
    induction h with
    | base s h => exact (hC s h).elim id (fun q => by simp at q)
    | step s t e _ h1 h2 h3 h4 ih =>
      have := hD e h1 h3 (by rw [h2, Int.toNat_natCast]; exact ih)
      rw [h4, Int.toNat_natCast] at this
      exact this.elim id (fun q => by simp at q)
  rw [cl_uniq hs (fun s _ => ⟨hA s, hcl s⟩)]
set_option maxRecDepth 100000 in
/-- the program's way: a stack -/
theorem iClo_l0 (n : Nat) (hn : n ≤ 3000) (es : List S198) (fs : List S138) (z : Int) (sx : List (List Int)) (hE : edgesIn n es) (hl : es.length ≤ 12000) (P : Nat → Prop) (hP : ∀ s, P s → s < n) (d : Nat) : ∀ (k : Nat) (seen : List Bool) (st : List Int),
    off seen * 12001 + st.length ≤ d → d + 3003 < k → d ≤ 100000000 → seen.length = n → (∀ x ∈ st, 0 ≤ x ∧ x < n) → (∀ s, seen.getD s false = true → Rch es P s) → (∀ x ∈ st, Rch es P x.toNat) → (∀ s, P s → seen.getD s false = true ∨ (s : Int) ∈ st) →
    (∀ e ∈ es, e.f2.length = 0 → seen.getD e.f0.toNat false = true → seen.getD e.f1.toNat false = true ∨ e.f1 ∈ st) → impl_network_closure.l0 k seen st [] z es fs (tabN n (frF es)) sx = some (onL (cl n es P)) := by
  induction d with
  | zero =>
    intro k seen st hd hk hd2 hs hr hA hB hC hD
    obtain rfl : st = [] := List.eq_nil_of_length_eq_zero (by omega)
    exact iClo_end n hn es fs z _ sx P k seen (by omega) hs hA hC hD
  | succ d ih =>
    intro k seen st hd hk hd2 hs hr hA hB hC hD
    obtain ⟨k, rfl⟩ : ∃ m, k = m + 1 := ⟨k - 1, by omega⟩
    rcases List.eq_nil_or_concat st with rfl | ⟨st, x, rfl⟩
    · exact iClo_end n hn es fs z _ sx P (k + 1) seen (by omega) hs hA hC hD
    · rw [List.concat_eq_append] at hd hr hB hC hD ⊢
      have hx := hr x (by simp)
      have hlen : ((st ++ [x]).length : Int) = (st.length : Int) + 1 := by simp
      have hst : st.length ≤ 100000000 := by simp at hd; omega
      have hw : wrap64 (((st ++ [x]).length : Int) - 1) = (st.length : Int) := by rw [hlen, w64 (by omega) (by omega)]; omega
      have hrd : rd (st ++ [x]) (st.length : Int) = x := by
        unfold rd
        rw [Int.toNat_natCast, List.getD_eq_getElem?_getD, List.getElem?_append_right (Nat.le_refl _), Nat.sub_self]
        rfl
      have h1 : (x.toNat : Int) = x := Int.toNat_of_nonneg hx.1
      have h2 : x.toNat < n := by omega
      have hseen : rdOf false seen x = seen.getD x.toNat false := rfl
      rw [impl_network_closure.l0, hw, if_pos (by omega), if_pos (by omega), if_pos (by omega), if_pos (by omega), Option.bind_some, Int.toNat_natCast, List.take_left, hrd, if_pos hx.1, if_pos (by omega), hseen]
      have hlen2 : off seen * 12001 + st.length ≤ d := by simp at hd; omega
      by_cases c : seen.getD x.toNat false = true
      · rw [if_pos c]
        refine ih k seen st hlen2 (by omega) (by omega) hs (fun y hy => hr y (by simp [hy])) hA (fun y hy => hB y (by simp [hy])) (fun s h => ?_) (fun e he h3 h4 => ?_)
        · rcases hC s h with q | q
          · exact .inl q
          · rcases List.mem_append.1 q with q | q
            · exact .inr q
            · rw [List.mem_singleton] at q
              refine .inl ?_
              have : s = x.toNat := by omega
              rw [this]; exact c
        · rcases hD e he h3 h4 with q | q
          · exact .inl q
          · rcases List.mem_append.1 q with q | q
            · exact .inr q
            · rw [List.mem_singleton] at q
              exact .inl (by rw [q]; exact c)
      · have cf : seen.getD x.toNat false = false := by simpa using c
        have ho := off_set seen x.toNat (by omega) cf
        have g : rd_L13 (tabN n (frF es)) x = frF es x.toNat := tabN_get n (frF es) [] _ h2
        have hf := frF_len es x.toNat
        rw [if_neg c, if_pos (by rw [tabN_len]; omega), g, if_pos (by omega)]
        have hxr : Rch es P x.toNat := hB x (by simp)
        refine ih k _ _ (by rw [List.length_append]; omega) (by omega) (by omega) (by simpa using hs) (fun y hy => ?_) (fun s h => ?_) (fun y hy => ?_) (fun s h => ?_) (fun e he h3 h4 => ?_)
        · rcases List.mem_append.1 hy with hy | hy
          · exact hr y (by simp [hy])
          · obtain ⟨e, he, _, _, h5⟩ := (mem_frF y es _).1 hy
            have := (hE e he).2
            omega
        · rw [set_get _ _ _ (by omega)] at h
          rcases h with h | h
          · rw [h]; exact hxr
          · exact hA s h
        · rcases List.mem_append.1 hy with hy | hy
          · exact hB y (by simp [hy])
          · obtain ⟨e, he, h5, h6, h7⟩ := (mem_frF y es _).1 hy
            have h8 := (hE e he).2
            exact .step x.toNat y.toNat e hxr he h5 h6 (by omega)
        · rw [set_get _ _ _ (by omega)]
          rcases hC s h with q | q
          · exact .inl (.inr q)
          · rcases List.mem_append.1 q with q | q
            · exact .inr (List.mem_append_left _ q)
            · rw [List.mem_singleton] at q
              exact .inl (.inl (by omega))
        · rw [set_get _ _ _ (by omega)] at h4 ⊢
          rcases h4 with h4 | h4
          · refine .inr (List.mem_append_right _ ((mem_frF _ es _).2 ⟨e, he, ?_, h3, rfl⟩))
            have := (hE e he).1
            omega
          · rcases hD e he h3 h4 with q | q
            · exact .inl (.inr q)
            · rcases List.mem_append.1 q with q | q
              · exact .inr (List.mem_append_left _ q)
              · rw [List.mem_singleton] at q
                exact .inl (.inl (by rw [q]))
set_option maxRecDepth 100000 in
theorem iClo (n : Nat) (hn : n ≤ 3000) (es : List S198) (fs : List S138) (sx : List (List Int)) (hE : edgesIn n es) (hl : es.length ≤ 12000) (st : List Int) (hst : ∀ x ∈ st, 0 ≤ x ∧ x < n) (hs : st.length ≤ 40000000) (k : Nat) (hk : 90003005 ≤ k) :
    impl_network_closure.f k (n : Int) es fs (tabN n (frF es)) sx st = some (onL (cl n es (fun s => (s : Int) ∈ st))) := by
  unfold impl_network_closure.f
  rw [if_pos (by omega), if_pos (by omega), Int.toNat_natCast, show slices_Clone_int64_int64.f st = some st by unfold slices_Clone_int64_int64.f; rw [if_pos (by omega)], Option.bind_some]
  have nofalse : ∀ s, (List.replicate n false).getD s false = true → False := fun s h => by
    rw [List.getD_eq_getElem?_getD, List.getElem?_replicate] at h
    split at h <;> simp at h
  have ho : off (List.replicate n false) = n := by unfold off; simp
  refine iClo_l0 n hn es fs (n : Int) sx hE hl _ (fun s h => by have := hst _ h; omega) 90000000 k _ st (by rw [ho]; omega) (by omega) (by omega) (by simp) hst (fun s h => (nofalse s h).elim) (fun x hx => .base _ ?_) (fun s h => .inr h) (fun e he h3 h4 => (nofalse _ h4).elim)
  rw [Int.toNat_of_nonneg (hst x hx).1]
  exact hx
/-- the reference's way: a list -/
structure SInv (n : Nat) (es : List S198) (P : Nat → Prop) (m : List Bool) (L : List Int) (i j : Nat) : Prop where
  len : m.length = n
  rng : ∀ x ∈ L, 0 ≤ x ∧ x < n
  on : ∀ s, m.getD s false = true → Rch es P s ∧ (s : Int) ∈ L
  all : ∀ s, P s → m.getD s false = true
  lst : ∀ x ∈ L, Rch es P x.toNat
  done : ∀ q, q < i → ∀ e ∈ es, e.f0 = L.getD q 0 → e.f2.length = 0 → m.getD e.f1.toNat false = true
  part : ∀ p, p < j → (rd_T198 es (p : Int)).f0 = L.getD i 0 → (rd_T198 es (p : Int)).f2.length = 0 → m.getD (rd_T198 es (p : Int)).f1.toNat false = true
theorem getD_snoc (L : List Int) (x : Int) (q : Nat) (h : q < L.length) : (L ++ [x]).getD q 0 = L.getD q 0 := by
  rw [List.getD_eq_getElem?_getD, List.getD_eq_getElem?_getD, List.getElem?_append_left h]
theorem rdE_at (es : List S198) (p : Nat) (h : p < es.length) : rd_T198 es (p : Int) = es[p] := by
  unfold rd_T198
  rw [Int.toNat_natCast, List.getD_eq_getElem?_getD, List.getElem?_eq_getElem h]
  rfl
set_option maxRecDepth 100000 in
theorem sClo_l1 (n : Nat) (hn : n ≤ 3000) (es : List S198) (fs : List S138) (z : Int) (hE : edgesIn n es) (hl : es.length ≤ 12000) (P : Nat → Prop) (M : Nat) : ∀ (k : Nat) (m : List Bool) (L : List Int) (i : Nat),
    off m + (L.length - i) = M → M * 12003 + 2 < k → i ≤ L.length → off m + L.length ≤ 4000000 → SInv n es P m L i 0 → spec_l6Close.l1 k m L (i : Int) z es fs = some (cl n es P) := by
  induction M with
  | zero =>
    intro k m L i hM hk hi hb I
    obtain ⟨k, rfl⟩ : ∃ m, k = m + 1 := ⟨k - 1, by omega⟩
    obtain rfl : i = L.length := by omega
    rw [spec_l6Close.l1, if_neg (by omega)]
    refine congrArg some (cl_uniq I.len (fun s hs_ => ⟨fun h => (I.on s h).1, fun h => ?_⟩))
    clear hs_
    induction h with
    | base s h => exact I.all s h
    | step s t e _ h1 h2 h3 h4 ih =>
      obtain ⟨q, hq, hq2⟩ := List.mem_iff_getElem.1 (I.on s ih).2
      have := I.done q hq e h1 (by rw [List.getD_eq_getElem?_getD, List.getElem?_eq_getElem hq, Option.getD_some, hq2, h2]) h3
      rw [h4, Int.toNat_natCast] at this
      exact this
  | succ M ih =>
    intro k m L i hM hk hi hb I
    obtain ⟨k, rfl⟩ : ∃ m, k = m + 1 := ⟨k - 1, by omega⟩
    by_cases hlt : i < L.length
    · rw [spec_l6Close.l1, if_pos (by omega)]
      have inner : ∀ (d k j : Nat) (m : List Bool) (L : List Int), es.length - j = d → j ≤ es.length → i < L.length → M * 12003 + 2 + d + 1 < k → off m + (L.length - (i + 1)) = M → off m + L.length ≤ 4000000 → SInv n es P m L i j → spec_l6Close.l2 k m L (i : Int) (j : Int) z es fs = some (cl n es P) := by
        intro d
        induction d with
        | zero =>
          intro k j m L hd hj hlt hk hM hb I
          obtain ⟨k, rfl⟩ : ∃ m, k = m + 1 := ⟨k - 1, by omega⟩
          rw [spec_l6Close.l2, if_neg (by omega), nat_next (by omega)]
          refine ih k m L (i + 1) hM (by omega) (by omega) hb ⟨I.len, I.rng, I.on, I.all, I.lst, fun q hq e he h1 h2 => ?_, fun p hp => by omega⟩
          rcases Nat.lt_or_eq_of_le (Nat.le_of_lt_succ hq) with hq | hq
          · exact I.done q hq e he h1 h2
          · subst hq
            obtain ⟨p, hp, rfl⟩ := List.mem_iff_getElem.1 he
            have := I.part p (by omega)
            rw [rdE_at es p hp] at this
            exact this h1 h2
        | succ d ihd =>
          intro k j m L hd hj hlt hk hM hb I
          obtain ⟨k, rfl⟩ : ∃ m, k = m + 1 := ⟨k - 1, by omega⟩
          have hjl : j < es.length := by omega
          have hrl : rd L (i : Int) = L.getD i 0 := by unfold rd; rw [Int.toNat_natCast]
          have he := hE _ (List.getElem_mem hjl)
          rw [← rdE_at es j hjl] at he
          rw [spec_l6Close.l2, if_pos (by omega), if_pos (by omega), if_pos (by omega), if_pos (by omega), hrl, nat_next (by omega)]
          have keep : ∀ (h : ¬ ((rd_T198 es (j : Int)).f0 = L.getD i 0 ∧ (rd_T198 es (j : Int)).f2.length = 0 ∧ ¬ m.getD (rd_T198 es (j : Int)).f1.toNat false = true)), SInv n es P m L i (j + 1) := fun h =>
            ⟨I.len, I.rng, I.on, I.all, I.lst, I.done, fun p hp h1 h2 => by
              rcases Nat.lt_or_eq_of_le (Nat.le_of_lt_succ hp) with hp | hp
              · exact I.part p hp h1 h2
              · subst hp
                by_cases q : m.getD (rd_T198 es (p : Int)).f1.toNat false = true
                · exact q
                · exact absurd ⟨h1, h2, q⟩ h⟩
          by_cases c1 : (rd_T198 es (j : Int)).f0 = L.getD i 0
          · rw [if_pos c1]
            by_cases c2 : ((rd_T198 es (j : Int)).f2.length : Int) = 0
            · rw [if_pos c2, if_pos he.2.1, if_pos (by rw [I.len]; omega)]
              by_cases c3 : m.getD (rd_T198 es (j : Int)).f1.toNat false = true
              · rw [if_pos (show rdOf false m _ = true from c3)]
                exact ihd k (j + 1) m L (by omega) (by omega) hlt (by omega) hM hb (keep (fun h => h.2.2 c3))
              · rw [if_neg (show ¬ rdOf false m _ = true from c3), if_pos (by omega)]
                have ho := off_set m (rd_T198 es (j : Int)).f1.toNat (by rw [I.len]; omega) (by simpa using c3)
                have hr : Rch es P (rd_T198 es (j : Int)).f1.toNat := by
                  refine .step (L.getD i 0).toNat _ (rd_T198 es (j : Int)) (I.lst _ ?_) (by rw [rdE_at es j hjl]; exact List.getElem_mem hjl) ?_ (by omega) (by omega)
                  · rw [List.getD_eq_getElem?_getD, List.getElem?_eq_getElem hlt]; exact List.getElem_mem hlt
                  · rw [← c1]; omega
                refine ihd k (j + 1) _ _ (by omega) (by omega) (by simp; omega) (by omega) (by rw [List.length_append, List.length_singleton]; omega) (by rw [List.length_append, List.length_singleton]; omega) ⟨by simpa using I.len, ?_, ?_, ?_, ?_, ?_, ?_⟩
                · intro x hx
                  rcases List.mem_append.1 hx with hx | hx
                  · exact I.rng x hx
                  · rw [List.mem_singleton] at hx
                    rw [hx]; exact he.2
                · intro s h
                  rw [set_get _ _ _ (by rw [I.len]; omega)] at h
                  rcases h with h | h
                  · refine ⟨by rw [h]; exact hr, List.mem_append_right _ ?_⟩
                    rw [List.mem_singleton]; omega
                  · exact ⟨(I.on s h).1, List.mem_append_left _ (I.on s h).2⟩
                · intro s h
                  rw [set_get _ _ _ (by rw [I.len]; omega)]
                  exact .inr (I.all s h)
                · intro x hx
                  rcases List.mem_append.1 hx with hx | hx
                  · exact I.lst x hx
                  · rw [List.mem_singleton] at hx
                    rw [hx]; exact hr
                · intro q hq e he2 h1 h2
                  rw [set_get _ _ _ (by rw [I.len]; omega)]
                  rw [getD_snoc _ _ _ (by omega)] at h1
                  exact .inr (I.done q hq e he2 h1 h2)
                · intro p hp h1 h2
                  rw [set_get _ _ _ (by rw [I.len]; omega)]
                  rw [getD_snoc _ _ _ (by omega)] at h1
                  rcases Nat.lt_or_eq_of_le (Nat.le_of_lt_succ hp) with hp | hp
                  · exact .inr (I.part p hp h1 h2)
                  · subst hp; exact .inl rfl
            · rw [if_neg c2]
              exact ihd k (j + 1) m L (by omega) (by omega) hlt (by omega) hM hb (keep (fun h => c2 (by omega)))
          · rw [if_neg c1]
            exact ihd k (j + 1) m L (by omega) (by omega) hlt (by omega) hM hb (keep (fun h => c1 h.1))
      exact inner es.length k 0 m L (by omega) (by omega) hlt (by omega) (by omega) hb ⟨I.len, I.rng, I.on, I.all, I.lst, I.done, fun p hp => by omega⟩
    · obtain rfl : i = L.length := by omega
      have hM' : off m = M + 1 := by omega
      rw [spec_l6Close.l1, if_neg (by omega)]
      refine congrArg some (cl_uniq I.len (fun s hs_ => ⟨fun h => (I.on s h).1, fun h => ?_⟩))
      clear hs_
      induction h with
      | base s h => exact I.all s h
      | step s t e _ h1 h2 h3 h4 ih =>
        obtain ⟨q, hq, hq2⟩ := List.mem_iff_getElem.1 (I.on s ih).2
        have := I.done q hq e h1 (by rw [List.getD_eq_getElem?_getD, List.getElem?_eq_getElem hq, Option.getD_some, hq2, h2]) h3
        rw [h4, Int.toNat_natCast] at this
        exact this
set_option maxRecDepth 100000 in
theorem sClo_l0 (n : Nat) (hn : n ≤ 3000) (es : List S198) (fs : List S138) (hE : edgesIn n es) (hl : es.length ≤ 12000) (m : List Bool) (hm : m.length = n) (d : Nat) : ∀ (k i : Nat) (L : List Int), d + 73000000 < k → n - i = d → i ≤ n → L.length ≤ i → L ++ onF m d i = onL m →
    spec_l6Close.l0 k m L (i : Int) (n : Int) es fs = some (cl n es (fun s => m.getD s false = true)) := by
  induction d with
  | zero =>
    intro k i L hk hd hi hL hq
    obtain ⟨k, rfl⟩ : ∃ m, k = m + 1 := ⟨k - 1, by omega⟩
    rw [spec_l6Close.l0, if_neg (by omega)]
    rw [onF, List.append_nil] at hq
    subst hq
    have h1 := off_le m
    have mem := mem_onL m
    refine sClo_l1 n hn es fs (n : Int) hE hl _ (off m + ((onL m).length - 0)) k m (onL m) 0 rfl (by omega) (by omega) (by omega) ⟨hm, ?_, ?_, fun s h => h, ?_, fun q hq => by omega, fun p hp => by omega⟩
    · intro x hx
      obtain ⟨s, hs, e, _⟩ := (mem x).1 hx
      omega
    · intro s h
      have hs : s < m.length := by
        rcases Nat.lt_or_ge s m.length with q | q
        · exact q
        · rw [List.getD_eq_getElem?_getD, List.getElem?_eq_none q] at h
          simp at h
      exact ⟨.base s h, (mem _).2 ⟨s, hs, rfl, h⟩⟩
    · intro x hx
      obtain ⟨s, hs, e, h⟩ := (mem x).1 hx
      rw [e, Int.toNat_natCast]
      exact .base s h
  | succ d ih =>
    intro k i L hk hd hi hL hq
    obtain ⟨k, rfl⟩ : ∃ m, k = m + 1 := ⟨k - 1, by omega⟩
    rw [spec_l6Close.l0, if_pos (by omega), if_pos (by omega), if_pos (by omega), rdOf_nat, nat_next (by omega)]
    rw [onF] at hq
    by_cases h : m.getD i false = true
    · rw [if_pos h, if_pos (by omega)]
      rw [if_pos h, ← List.append_assoc] at hq
      exact ih k (i + 1) _ (by omega) (by omega) (by omega) (by simp; omega) hq
    · rw [if_neg h]
      rw [if_neg h, List.nil_append] at hq
      exact ih k (i + 1) _ (by omega) (by omega) (by omega) (by omega) hq
set_option maxRecDepth 100000 in
theorem sClo (n : Nat) (hn : n ≤ 3000) (es : List S198) (fs : List S138) (hE : edgesIn n es) (hl : es.length ≤ 12000) (m : List Bool) (hm : m.length = n) (k : Nat) (hk : 73010000 ≤ k) :
    spec_l6Close.f k (n : Int) es fs m = some (cl n es (fun s => m.getD s false = true)) := by
  unfold spec_l6Close.f
  rw [Option.bind_some, if_pos (by simp; omega), List.nil_append]
  exact sClo_l0 n hn es fs hE hl m hm n k 0 [] (by omega) (by omega) (by omega) (by simp) (by rw [List.nil_append, ← hm]; rfl)
/-- the marks of some states -/
theorem sMk_l0 (n : Nat) (hn : n ≤ 3000) (es : List S198) (fs : List S138) (st : List Int) (hst : ∀ x ∈ st, 0 ≤ x ∧ x < n) (hl : st.length ≤ 1048576) (d : Nat) : ∀ (k i : Nat) (m : List Bool), d < k → st.length - i = d → i ≤ st.length → m.length = n → (∀ s, m.getD s false = true ↔ (s : Int) ∈ st.take i) →
    ∃ r, spec_l6Marks.l0 k st m (i : Int) (n : Int) es fs = some (r, true) ∧ r.length = n ∧ ∀ s, r.getD s false = true ↔ (s : Int) ∈ st := by
  induction d with
  | zero =>
    intro k i m hk hd hi hm hM
    obtain ⟨k, rfl⟩ : ∃ m, k = m + 1 := ⟨k - 1, by omega⟩
    obtain rfl : i = st.length := by omega
    rw [spec_l6Marks.l0, if_neg (by omega)]
    exact ⟨m, rfl, hm, fun s => by rw [hM s, List.take_length]⟩
  | succ d ih =>
    intro k i m hk hd hi hm hM
    obtain ⟨k, rfl⟩ : ∃ m, k = m + 1 := ⟨k - 1, by omega⟩
    have hlt : i < st.length := by omega
    have hx := hst _ (List.getElem_mem hlt)
    have hrd : rd st (i : Int) = st[i] := by unfold rd; rw [Int.toNat_natCast, List.getD_eq_getElem?_getD, List.getElem?_eq_getElem hlt]; rfl
    rw [spec_l6Marks.l0, if_pos (by omega), if_pos (by omega), sIn, Option.bind_some, hrd, w64 (x := (n : Int) - 1) (by omega) (by omega), if_pos (decide_eq_true ⟨hx.1, by omega⟩), if_pos hx.1, if_pos (by omega), nat_next (by omega)]
    refine ih k (i + 1) _ (by omega) (by omega) (by omega) (by simpa using hm) (fun s => ?_)
    rw [set_get _ _ _ (by omega), hM s, List.take_succ_eq_append_getElem hlt, List.mem_append, List.mem_singleton]
    constructor
    · rintro (h | h)
      · exact .inr (by omega)
      · exact .inl h
    · rintro (h | h)
      · exact .inr h
      · exact .inl (by omega)
theorem markSpS_l (d : Nat) : ∀ (k : Nat) (l : List S33) (m i : Int), d < k → 0 ≤ i → (l.length : Int) - i = d → (l.length : Int) ≤ 1099511627776 → 0 ≤ m → m + 2 * d ≤ 4611686018427387904 → ∃ l', laws_markSpanS.l0 k l m i = some (m + 2 * d, l') := by
  induction d with
  | zero =>
    intro k l m i hk h0 hd hl hm hmd
    obtain ⟨k, rfl⟩ : ∃ m, k = m + 1 := ⟨k - 1, by omega⟩
    exact ⟨l, by rw [laws_markSpanS.l0, if_neg (by omega)]; simp⟩
  | succ d ih =>
    intro k l m i hk h0 hd hl hm hmd
    obtain ⟨k, rfl⟩ : ∃ m, k = m + 1 := ⟨k - 1, by omega⟩
    rw [laws_markSpanS.l0, if_pos (by omega), if_pos h0, Option.bind_some, w64 (x := m + 1) (by omega) (by omega), w64 (x := m + 1 + 1) (by omega) (by omega), w64 (x := i + 1) (by omega) (by omega)]
    have key : ∀ l2 : List S33, l2.length = l.length → ∃ l', laws_markSpanS.l0 k l2 (m + 1 + 1) (i + 1) = some (m + 2 * ((d + 1 : Nat) : Int), l') := fun l2 h2 => by
      obtain ⟨l', e⟩ := ih k l2 (m + 1 + 1) (i + 1) (by omega) (by omega) (by omega) (by omega) (by omega) (by omega)
      exact ⟨l', by rw [e]; congr 2; omega⟩
    exact key _ (by rw [List.length_set, List.length_set])
theorem markEnS_l (d : Nat) : ∀ (k : Nat) (l : List S138) (m i : Int), d < k → 0 ≤ i → (l.length : Int) - i = d → (l.length : Int) ≤ 1099511627776 → 0 ≤ m → m + 2 * d ≤ 4611686018427387904 → ∃ l', laws_markEndS.l0 k l m i = some (m + 2 * d, l') := by
  induction d with
  | zero =>
    intro k l m i hk h0 hd hl hm hmd
    obtain ⟨k, rfl⟩ : ∃ m, k = m + 1 := ⟨k - 1, by omega⟩
    exact ⟨l, by rw [laws_markEndS.l0, if_neg (by omega)]; simp⟩
  | succ d ih =>
    intro k l m i hk h0 hd hl hm hmd
    obtain ⟨k, rfl⟩ : ∃ m, k = m + 1 := ⟨k - 1, by omega⟩
    rw [laws_markEndS.l0, if_pos (by omega), if_pos h0, Option.bind_some, w64 (x := m + 1) (by omega) (by omega), w64 (x := m + 1 + 1) (by omega) (by omega), w64 (x := i + 1) (by omega) (by omega)]
    have key : ∀ l2 : List S138, l2.length = l.length → ∃ l', laws_markEndS.l0 k l2 (m + 1 + 1) (i + 1) = some (m + 2 * ((d + 1 : Nat) : Int), l') := fun l2 h2 => by
      obtain ⟨l', e⟩ := ih k l2 (m + 1 + 1) (i + 1) (by omega) (by omega) (by omega) (by omega) (by omega) (by omega)
      exact ⟨l', by rw [e]; congr 2; omega⟩
    exact key _ (by rw [List.length_set, List.length_set])
theorem markEdS_l (es : List S198) (hl : es.length ≤ 1048576) (hb : ∀ e ∈ es, e.f2.length ≤ 1048576) (d : Nat) : ∀ (k : Nat) (l : List S198) (m : Int) (i : Nat), d + 1048577 < k → es.length - i = d → i ≤ es.length → l.length = es.length → (∀ j, i ≤ j → l[j]? = es[j]?) → 0 ≤ m → m + d * 2097154 ≤ 4611686018427387904 →
    ∃ m' l', laws_markEdgeS.l0 k l m (i : Int) = some (m', l') ∧ m ≤ m' ∧ m' ≤ m + d * 2097154 := by
  induction d with
  | zero =>
    intro k l m i hk hd hi hll hj hm hmd
    obtain ⟨k, rfl⟩ : ∃ m, k = m + 1 := ⟨k - 1, by omega⟩
    exact ⟨m, l, by rw [laws_markEdgeS.l0, if_neg (by omega)], Int.le_refl _, by omega⟩
  | succ d ih =>
    intro k l m i hk hd hi hll hj hm hmd
    obtain ⟨k, rfl⟩ : ∃ m, k = m + 1 := ⟨k - 1, by omega⟩
    have hlt : i < es.length := by omega
    have hr : rd_T198 l (i : Int) = es[i] := by
      unfold rd_T198
      rw [Int.toNat_natCast, List.getD_eq_getElem?_getD, hj i (Nat.le_refl _), List.getElem?_eq_getElem hlt]
      rfl
    have hf := hb _ (List.getElem_mem hlt)
    rw [laws_markEdgeS.l0, if_pos (by omega), if_pos (by omega), hr, w64 (x := m + 1) (by omega) (by omega), w64 (x := m + 1 + 1) (by omega) (by omega), nat_next (by omega)]
    obtain ⟨l1, e1⟩ := markSpS_l es[i].f2.length k es[i].f2 (m + 1 + 1) 0 (by omega) (by omega) (by omega) (by omega) (by omega) (by omega)
    rw [show laws_markSpanS.f k es[i].f2 (m + 1 + 1) = _ from e1, Option.bind_some]
    obtain ⟨m', l', e, h1, h2⟩ := ih k (l.set (i : Int).toNat (⟨m, m + 1, l1⟩ : S198)) (m + 1 + 1 + 2 * (es[i].f2.length : Int)) (i + 1) (by omega) (by omega) (by omega) (by simpa using hll) (fun j hj2 => by rw [Int.toNat_natCast, List.getElem?_set_ne (by omega)]; exact hj j (by omega)) (by omega) (by omega)
    exact ⟨m', l', e, by omega, by omega⟩
theorem markNfa_l (es : List S198) (fs : List S138) (hl : es.length ≤ 1048576) (hb : ∀ e ∈ es, e.f2.length ≤ 1048576) (hf : fs.length ≤ 1048576) (a : Int) (ha : 0 ≤ a) (ha2 : a ≤ 2199023255552) (k : Nat) (hk : 3000000 ≤ k) :
    ∃ m y0 y1, laws_markNfa.f k es fs a = some (m, y0, y1) ∧ 0 ≤ m ∧ m ≤ a + 2199027449856 := by
  obtain ⟨m', l', e, h1, h2⟩ := markEdS_l es hl hb es.length k es a 0 (by omega) (by omega) (by omega) rfl (fun _ _ => rfl) ha (by omega)
  obtain ⟨l2, e2⟩ := markEnS_l fs.length k fs m' 0 (by omega) (by omega) (by omega) (by omega) (by omega) (by omega)
  refine ⟨m' + 2 * (fs.length : Int), l', l2, ?_, by omega, by omega⟩
  unfold laws_markNfa.f
  rw [show laws_markEdgeS.f k es a = _ from e, Option.bind_some, show laws_markEndS.f k fs m' = _ from e2, Option.bind_some]
theorem nfa_edges {n : Nat} {es : List S198} {fs : List S138} (h : nfaOk (n : Int) es fs) : edgesIn n es := by
  intro e he
  obtain ⟨i, hi, rfl⟩ := List.mem_iff_getElem.1 he
  have := h.2.2.1 i (Nat.zero_le _) hi
  unfold edgeP edgeOk at this
  rw [rdE_at es i hi] at this
  omega
theorem hasB_iff (l : List S33) (b : Int) : hasB l b = true ↔ ∃ q : Nat, q < l.length ∧ (rd_T33 l q).f0 ≤ b ∧ b ≤ (rd_T33 l q).f1 := by
  unfold hasB
  rw [List.any_eq_true]
  have rdk : ∀ j, (hj : j < l.length) → rd_T33 l (j : Int) = l[j] := fun j hj => by
    unfold rd_T33
    rw [Int.toNat_natCast, List.getD_eq_getElem?_getD, List.getElem?_eq_getElem hj]
    rfl
  constructor
  · rintro ⟨x, hx, h⟩
    obtain ⟨q, hq, rfl⟩ := List.mem_iff_getElem.1 hx
    exact ⟨q, hq, by rw [rdk q hq]; exact of_decide_eq_true h⟩
  · rintro ⟨q, hq, h⟩
    rw [rdk q hq] at h
    exact ⟨l[q], List.getElem_mem hq, decide_eq_true h⟩
/-- where a byte leads to from marked states -/
def stp (es : List S198) (m : List Bool) (b : Int) (t : Nat) : Prop := ∃ e ∈ es, m.getD e.f0.toNat false = true ∧ hasB e.f2 b = true ∧ e.f1 = (t : Int)
def mvRow (es : List S198) (b : Int) : List Int → List Int
  | [] => []
  | j :: r => (if hasB (rd_T198 es j).f2 b = true then [(rd_T198 es j).f1] else []) ++ mvRow es b r
def mv (es : List S198) (b : Int) : List Int → List Int
  | [] => []
  | s :: r => mvRow es b (stF es 0 s.toNat) ++ mv es b r
theorem mem_mvRow (es : List S198) (b x : Int) : ∀ r, x ∈ mvRow es b r ↔ ∃ j ∈ r, hasB (rd_T198 es j).f2 b = true ∧ (rd_T198 es j).f1 = x
  | [] => by simp [mvRow]
  | j :: r => by
    rw [mvRow, List.mem_append, mem_mvRow es b x r]
    constructor
    · rintro (h | ⟨i, h1, h2⟩)
      · split at h
        · rw [List.mem_singleton] at h
          exact ⟨j, List.mem_cons_self, by assumption, h.symm⟩
        · simp at h
      · exact ⟨i, List.mem_cons_of_mem _ h1, h2⟩
    · rintro ⟨i, h1, h2, h3⟩
      rcases List.mem_cons.1 h1 with h1 | h1
      · subst h1
        rw [if_pos h2]
        exact .inl (by rw [h3]; exact List.mem_singleton.2 rfl)
      · exact .inr ⟨i, h1, h2, h3⟩
theorem mem_mv (es : List S198) (b x : Int) : ∀ r, x ∈ mv es b r ↔ ∃ s ∈ r, x ∈ mvRow es b (stF es 0 s.toNat)
  | [] => by simp [mv]
  | s :: r => by
    rw [mv, List.mem_append, mem_mv es b x r]
    constructor
    · rintro (h | ⟨i, h1, h2⟩)
      · exact ⟨s, List.mem_cons_self, h⟩
      · exact ⟨i, List.mem_cons_of_mem _ h1, h2⟩
    · rintro ⟨i, h1, h2⟩
      rcases List.mem_cons.1 h1 with h1 | h1
      · subst h1; exact .inl h2
      · exact .inr ⟨i, h1, h2⟩
theorem rd_nat' {l : List Int} {i : Nat} (h : i < l.length) : rd l (i : Int) = l[i] := by
  unfold rd
  rw [Int.toNat_natCast, List.getD_eq_getElem?_getD, List.getElem?_eq_getElem h]
  rfl
set_option maxRecDepth 100000 in
theorem iMv_l1 (es : List S198) (fs : List S138) (z : Int) (fx sx : List (List Int)) (b : Int) (hb : 0 ≤ b ∧ b ≤ 255) (hl : es.length ≤ 12000) (n : Nat) (hE : edgesIn n es) (cs : List Int) (c : Nat) (hc : c ≤ 1000000) (row : List Int) (hrow : ∀ x ∈ row, 0 ≤ x ∧ x < es.length) (hrl : row.length ≤ 12000) (K B : Nat) (hB : B ≤ 1000000000) (R : List Int → Option (List Int))
    (G : ∀ (k : Nat) (acc : List Int), K < k → acc.length ≤ B → (∀ x ∈ acc, 0 ≤ x ∧ x < n) → impl_network_move.l0 k b acc cs (cs.length : Int) ((c + 1 : Nat) : Int) z es fs fx sx = R acc) (d : Nat) : ∀ (k i : Nat) (acc : List Int), d + K + 1 < k → row.length - i = d → i ≤ row.length → acc.length + d ≤ B → (∀ x ∈ acc, 0 ≤ x ∧ x < n) →
    impl_network_move.l1 k b acc cs (cs.length : Int) (c : Int) row (row.length : Int) (i : Int) z es fs fx sx = R (acc ++ mvRow es b (row.drop i)) := by
  induction d with
  | zero =>
    intro k i acc hk hd hi ha hr
    obtain ⟨k, rfl⟩ : ∃ m, k = m + 1 := ⟨k - 1, by omega⟩
    obtain rfl : i = row.length := by omega
    rw [impl_network_move.l1, if_neg (by omega), nat_next (by omega), G k acc (by omega) (by omega) hr, List.drop_length, mvRow, List.append_nil]
  | succ d ih =>
    intro k i acc hk hd hi ha hr
    obtain ⟨k, rfl⟩ : ∃ m, k = m + 1 := ⟨k - 1, by omega⟩
    have hlt : i < row.length := by omega
    have hx' := hrow _ (List.getElem_mem hlt)
    rw [impl_network_move.l1, if_pos (by omega), if_pos (by omega), if_pos (by omega), rd_nat' hlt, if_pos hx'.1, if_pos hx'.2, impl_has.f, if_pos hb, Option.bind_some, nat_next (by omega), List.drop_eq_getElem_cons hlt, mvRow]
    by_cases h : hasB (rd_T198 es row[i]).f2 b = true
    · rw [if_pos h, if_pos h, if_pos (by omega), ih k (i + 1) _ (by omega) (by omega) (by omega) (by simp; omega) (fun x hx => ?_), List.append_assoc]
      rcases List.mem_append.1 hx with hx | hx
      · exact hr x hx
      · rw [List.mem_singleton] at hx
        obtain ⟨p, hp⟩ : ∃ p : Nat, row[i] = (p : Int) := ⟨row[i].toNat, by omega⟩
        rw [hp] at hx
        rw [rdE_at es p (by omega)] at hx
        rw [hx]
        exact (hE _ (List.getElem_mem _)).2
    · rw [if_neg h, if_neg h, ih k (i + 1) _ (by omega) (by omega) (by omega) (by omega) hr, List.nil_append]
set_option maxRecDepth 100000 in
theorem iMv_l0 (n : Nat) (hn : n ≤ 3000) (es : List S198) (fs : List S138) (b : Int) (hb : 0 ≤ b ∧ b ≤ 255) (hE : edgesIn n es) (hl : es.length ≤ 12000) (cs : List Int) (hcs : ∀ x ∈ cs, 0 ≤ x ∧ x < n) (hcl : cs.length ≤ 3000) (C : Nat) (hC : 90003010 ≤ C) (d : Nat) : ∀ (k c : Nat) (acc : List Int), d * 12003 + C < k → cs.length - c = d → c ≤ cs.length → acc.length ≤ c * 12000 → (∀ x ∈ acc, 0 ≤ x ∧ x < n) →
    impl_network_move.l0 k b acc cs (cs.length : Int) (c : Int) (n : Int) es fs (tabN n (frF es)) (tabN n (stF es 0)) = some (onL (cl n es (fun s => (s : Int) ∈ acc ++ mv es b (cs.drop c)))) := by
  induction d with
  | zero =>
    intro k c acc hk hd hc ha hr
    obtain ⟨k, rfl⟩ : ∃ m, k = m + 1 := ⟨k - 1, by omega⟩
    obtain rfl : c = cs.length := by omega
    rw [impl_network_move.l0, if_neg (by omega), iClo n hn es fs _ hE hl acc hr (by omega) k (by omega), Option.bind_some, List.drop_length, mv, List.append_nil]
  | succ d ih =>
    intro k c acc hk hd hc ha hr
    obtain ⟨k, rfl⟩ : ∃ m, k = m + 1 := ⟨k - 1, by omega⟩
    have hlt : c < cs.length := by omega
    have hx := hcs _ (List.getElem_mem hlt)
    have h2 : cs[c].toNat < n := by omega
    have g : rd_L14 (tabN n (stF es 0)) cs[c] = stF es 0 cs[c].toNat := tabN_get n (stF es 0) [] _ h2
    have hsl := stF_len es 0 cs[c].toNat
    have hrow : ∀ x ∈ stF es 0 cs[c].toNat, 0 ≤ x ∧ x < es.length := fun x hx => by
      obtain ⟨j, h1, h2, _⟩ := (mem_stF x es 0 _).1 hx
      omega
    rw [impl_network_move.l0, if_pos (by omega), if_pos (by omega), if_pos (by omega), rd_nat' hlt, if_pos hx.1, if_pos (by rw [tabN_len]; omega), g]
    have e := iMv_l1 es fs (n : Int) (tabN n (frF es)) (tabN n (stF es 0)) b hb hl n hE cs c (by omega) (stF es 0 cs[c].toNat) hrow (by omega) (d * 12003 + C) ((c + 1) * 12000)
      (by omega) (fun acc => some (onL (cl n es (fun s => (s : Int) ∈ acc ++ mv es b (cs.drop (c + 1)))))) (fun k acc h1 h2 h3 => ih k (c + 1) acc h1 (by omega) (by omega) h2 h3) (stF es 0 cs[c].toNat).length k 0 acc (by omega) (by omega) (by omega) (by omega) hr
    rw [List.drop_zero] at e
    rw [List.drop_eq_getElem_cons hlt, mv, ← List.append_assoc]
    exact e
theorem mem_moved (n : Nat) (es : List S198) (hE : edgesIn n es) (m : List Bool) (hm : m.length = n) (b : Int) (t : Nat) : (t : Int) ∈ mv es b (onL m) ↔ stp es m b t := by
  rw [mem_mv]
  constructor
  · rintro ⟨s, hs, h⟩
    obtain ⟨j, hj, h1, h2⟩ := (mem_mvRow es b _ _).1 h
    obtain ⟨q, hq, e, h3, _⟩ := (mem_stF j es 0 _).1 hj
    obtain ⟨p, hp, e2, h4⟩ := (mem_onL m s).1 hs
    rw [Nat.zero_add] at e
    rw [e] at h1 h2
    rw [rdE_at es q hq] at h1 h2 h3
    refine ⟨es[q], List.getElem_mem hq, ?_, h1, h2⟩
    rw [h3, Int.toNat_natCast, e2, Int.toNat_natCast]
    exact h4
  · rintro ⟨e, he, h1, h2, h3⟩
    have hr := hE e he
    obtain ⟨q, hq, rfl⟩ := List.mem_iff_getElem.1 he
    refine ⟨es[q].f0, (mem_onL m _).2 ⟨es[q].f0.toNat, by omega, by omega, h1⟩, (mem_mvRow es b _ _).2 ⟨(q : Int), (mem_stF _ es 0 _).2 ⟨q, hq, by omega, ?_, ?_⟩, ?_, ?_⟩⟩
    · rw [rdE_at es q hq]; omega
    · rw [rdE_at es q hq]
      intro h
      rw [List.eq_nil_of_length_eq_zero h] at h2
      simp [hasB] at h2
    · rw [rdE_at es q hq]; exact h2
    · rw [rdE_at es q hq]; exact h3
set_option maxRecDepth 100000 in
theorem iMove (n : Nat) (hn : n ≤ 3000) (es : List S198) (fs : List S138) (b : Int) (hb : 0 ≤ b ∧ b ≤ 255) (hE : edgesIn n es) (hl : es.length ≤ 12000) (m : List Bool) (hm : m.length = n) (k : Nat) (hk : 127000000 ≤ k) :
    impl_network_move.f k (n : Int) es fs (tabN n (frF es)) (tabN n (stF es 0)) (onL m) b = some (onL (cl n es (stp es m b))) := by
  unfold impl_network_move.f
  have hlen : (onL m).length ≤ 3000 := by have := onF_len m m.length 0; unfold onL; omega
  have e := iMv_l0 n hn es fs b hb hE hl (onL m) (fun x hx => by obtain ⟨s, h1, h2, _⟩ := (mem_onL m x).1 hx; omega) hlen 90003010 (Nat.le_refl _) (onL m).length k 0 [] (by omega) (by omega) (by omega) (by simp) (fun x hx => by simp at hx)
  rw [List.drop_zero] at e
  rw [cl_congr (fun s => by rw [← mem_moved n es hE m hm b s, ← List.nil_append (mv es b (onL m))])]
  exact e
set_option maxRecDepth 100000 in
theorem sStep_l1 (es : List S198) (fs : List S138) (z : Int) (m : List Bool) (b : Int) (hb : 0 ≤ b ∧ b ≤ 255) (c0 c1 : Int) (sp : List S33) (hsp : sp.length ≤ 128) (n : Nat) (h1 : 0 ≤ c1 ∧ c1 < n) (j : Nat) (hj : j ≤ 1000000) (K : Nat) (Q : Nat → Prop) (R : Option (List Bool))
    (G : ∀ k out, K < k → out.length = n → (∀ s, out.getD s false = true ↔ Q s ∨ (hasB sp b = true ∧ c1 = (s : Int))) → spec_l6Step.l0 k m b out ((j + 1 : Nat) : Int) z es fs = R) (d : Nat) : ∀ (k i : Nat) (out : List Bool), d + K + 1 < k → sp.length - i = d → i ≤ sp.length → out.length = n →
      (∀ s, out.getD s false = true ↔ Q s ∨ ((∃ q : Nat, q < i ∧ (rd_T33 sp q).f0 ≤ b ∧ b ≤ (rd_T33 sp q).f1) ∧ c1 = (s : Int))) → spec_l6Step.l1 k m b out (j : Int) (i : Int) z es fs c0 c1 sp = R := by
  induction d with
  | zero =>
    intro k i out hk hd hi ho hO
    obtain ⟨k, rfl⟩ : ∃ m, k = m + 1 := ⟨k - 1, by omega⟩
    obtain rfl : i = sp.length := by omega
    rw [spec_l6Step.l1, if_neg (by omega), nat_next (by omega)]
    exact G k out (by omega) ho (fun s => by rw [hO s, hasB_iff])
  | succ d ih =>
    intro k i out hk hd hi ho hO
    obtain ⟨k, rfl⟩ : ∃ m, k = m + 1 := ⟨k - 1, by omega⟩
    rw [spec_l6Step.l1, if_pos (by omega), if_pos (by omega), sIn, Option.bind_some, w64 (x := b) (by omega) (by omega), nat_next (by omega)]
    by_cases c : (rd_T33 sp i).f0 ≤ b ∧ b ≤ (rd_T33 sp i).f1
    · rw [if_pos (decide_eq_true c), if_pos h1.1, if_pos (by omega)]
      refine ih k (i + 1) _ (by omega) (by omega) (by omega) (by simpa using ho) (fun s => ?_)
      rw [set_get _ _ _ (by omega), hO s]
      constructor
      · rintro (h | h | ⟨⟨q, h2, h3⟩, h4⟩)
        · exact .inr ⟨⟨i, by omega, c⟩, by omega⟩
        · exact .inl h
        · exact .inr ⟨⟨q, by omega, h3⟩, h4⟩
      · rintro (h | ⟨⟨q, h2, h3⟩, h4⟩)
        · exact .inr (.inl h)
        · exact .inl (by omega)
    · rw [if_neg (by simpa using c)]
      refine ih k (i + 1) out (by omega) (by omega) (by omega) ho (fun s => ?_)
      rw [hO s]
      constructor
      · rintro (h | ⟨⟨q, h2, h3⟩, h4⟩)
        · exact .inl h
        · exact .inr ⟨⟨q, by omega, h3⟩, h4⟩
      · rintro (h | ⟨⟨q, h2, h3⟩, h4⟩)
        · exact .inl h
        · refine .inr ⟨⟨q, ?_, h3⟩, h4⟩
          rcases Nat.lt_or_eq_of_le (Nat.le_of_lt_succ h2) with h | h
          · exact h
          · subst h; exact absurd h3 c
set_option maxRecDepth 100000 in
theorem sStep_l0 (n : Nat) (hn : n ≤ 3000) (es : List S198) (fs : List S138) (hE : edgesIn n es) (hl : es.length ≤ 12000) (hsp : ∀ e ∈ es, e.f2.length ≤ 128) (m : List Bool) (hm : m.length = n) (b : Int) (hb : 0 ≤ b ∧ b ≤ 255) (C : Nat) (hC : 73010002 ≤ C) (d : Nat) : ∀ (k j : Nat) (out : List Bool), d * 132 + C < k → es.length - j = d → j ≤ es.length → out.length = n →
    (∀ s, out.getD s false = true ↔ ∃ q : Nat, q < j ∧ m.getD (rd_T198 es q).f0.toNat false = true ∧ hasB (rd_T198 es q).f2 b = true ∧ (rd_T198 es q).f1 = (s : Int)) → spec_l6Step.l0 k m b out (j : Int) (n : Int) es fs = some (cl n es (stp es m b)) := by
  induction d with
  | zero =>
    intro k j out hk hd hj ho hO
    obtain ⟨k, rfl⟩ : ∃ m, k = m + 1 := ⟨k - 1, by omega⟩
    obtain rfl : j = es.length := by omega
    rw [spec_l6Step.l0, if_neg (by omega), sClo n hn es fs hE hl out ho k (by omega), Option.bind_some]
    refine congrArg some (cl_congr (fun s => ?_))
    rw [hO s]
    constructor
    · rintro ⟨q, h1, h2⟩
      rw [rdE_at es q h1] at h2
      exact ⟨es[q], List.getElem_mem h1, h2⟩
    · rintro ⟨e, he, h2⟩
      obtain ⟨q, hq, rfl⟩ := List.mem_iff_getElem.1 he
      exact ⟨q, hq, by rw [rdE_at es q hq]; exact h2⟩
  | succ d ih =>
    intro k j out hk hd hj ho hO
    obtain ⟨k, rfl⟩ : ∃ m, k = m + 1 := ⟨k - 1, by omega⟩
    have hlt : j < es.length := by omega
    have he := hE _ (List.getElem_mem hlt)
    have hs := hsp _ (List.getElem_mem hlt)
    rw [← rdE_at es j hlt] at he hs
    rw [spec_l6Step.l0, if_pos (by omega), if_pos (by omega), if_pos he.1.1, if_pos (by omega)]
    have step : ∀ Q : Nat → Prop, (∀ s, Q s ↔ ((∃ q : Nat, q < j ∧ m.getD (rd_T198 es q).f0.toNat false = true ∧ hasB (rd_T198 es q).f2 b = true ∧ (rd_T198 es q).f1 = (s : Int)) ∨ (m.getD (rd_T198 es j).f0.toNat false = true ∧ hasB (rd_T198 es j).f2 b = true ∧ (rd_T198 es j).f1 = (s : Int)))) →
        ∀ s, Q s ↔ ∃ q : Nat, q < j + 1 ∧ m.getD (rd_T198 es q).f0.toNat false = true ∧ hasB (rd_T198 es q).f2 b = true ∧ (rd_T198 es q).f1 = (s : Int) := fun Q hQ s => by
      rw [hQ s]
      constructor
      · rintro (⟨q, h1, h2⟩ | h2)
        · exact ⟨q, by omega, h2⟩
        · exact ⟨j, by omega, h2⟩
      · rintro ⟨q, h1, h2⟩
        rcases Nat.lt_or_eq_of_le (Nat.le_of_lt_succ h1) with h | h
        · exact .inl ⟨q, h, h2⟩
        · subst h; exact .inr h2
    by_cases c : m.getD (rd_T198 es j).f0.toNat false = true
    · rw [if_pos (show rdOf false m _ = true from c)]
      refine sStep_l1 es fs (n : Int) m b hb _ _ (rd_T198 es j).f2 hs n he.2 j (by omega) (d * 132 + C) (fun s => ∃ q : Nat, q < j ∧ m.getD (rd_T198 es q).f0.toNat false = true ∧ hasB (rd_T198 es q).f2 b = true ∧ (rd_T198 es q).f1 = (s : Int)) _ (fun k out h1 h2 h3 => ih k (j + 1) out h1 (by omega) (by omega) h2 (step _ (fun s => by rw [h3 s]; exact ⟨fun h => h.imp id (fun h => ⟨c, h⟩), fun h => h.imp id (fun h => h.2)⟩))) (rd_T198 es j).f2.length k 0 out (by omega) (by omega) (by omega) ho (fun s => ?_)
      rw [hO s]
      constructor
      · exact .inl
      · rintro (h | ⟨⟨q, h, _⟩, _⟩)
        · exact h
        · omega
    · rw [if_neg (show ¬ rdOf false m _ = true from c), nat_next (by omega)]
      exact ih k (j + 1) out (by omega) (by omega) (by omega) ho (step _ (fun s => by rw [hO s]; exact ⟨.inl, fun h => h.elim id (fun h => absurd h.1 c)⟩))
set_option maxRecDepth 100000 in
theorem sStep (n : Nat) (hn : n ≤ 3000) (es : List S198) (fs : List S138) (hE : edgesIn n es) (hl : es.length ≤ 12000) (hsp : ∀ e ∈ es, e.f2.length ≤ 128) (m : List Bool) (hm : m.length = n) (b : Int) (hb : 0 ≤ b ∧ b ≤ 255) (k : Nat) (hk : 75000000 ≤ k) :
    spec_l6Step.f k (n : Int) es fs m b = some (cl n es (stp es m b)) := by
  unfold spec_l6Step.f
  rw [if_pos (by omega), if_pos (by omega), Int.toNat_natCast]
  refine sStep_l0 n hn es fs hE hl hsp m hm b hb 73010002 (Nat.le_refl _) es.length k 0 _ (by omega) (by omega) (by omega) (by simp) (fun s => ?_)
  constructor
  · intro h
    rw [List.getD_eq_getElem?_getD, List.getElem?_replicate] at h
    split at h <;> simp at h
  · rintro ⟨q, h, _⟩
    omega
theorem nfa_spans {n : Nat} {es : List S198} {fs : List S138} (h : nfaOk (n : Int) es fs) : ∀ e ∈ es, e.f2.length ≤ 128 := by
  intro e he
  obtain ⟨i, hi, rfl⟩ := List.mem_iff_getElem.1 he
  have := h.2.2.1 i (Nat.zero_le _) hi
  unfold edgeP edgeOk at this
  rw [rdE_at es i hi] at this
  have h2 := classOk_len this.2.2
  simpa using h2
/-- the rules that match in these states -/
def rul (fs : List S138) (m : List Bool) : List Int := (fs.filter (fun e => m.getD e.f0.toNat false)).map (·.f1)
theorem rul_len (fs : List S138) (m : List Bool) : (rul fs m).length ≤ fs.length := by unfold rul; rw [List.length_map]; exact List.length_filter_le _ _
theorem rul_snoc (fs : List S138) (e : S138) (m : List Bool) : rul (fs ++ [e]) m = rul fs m ++ (if m.getD e.f0.toNat false = true then [e.f1] else []) := by
  unfold rul
  rw [List.filter_append, List.map_append]
  congr 1
  by_cases h : m.getD e.f0.toNat false = true
  · rw [if_pos h, show [e].filter (fun e => m.getD e.f0.toNat false) = [e] by rw [List.filter_cons, if_pos h]; rfl]; rfl
  · rw [if_neg h, show [e].filter (fun e => m.getD e.f0.toNat false) = [] by rw [List.filter_cons, if_neg h]; rfl]; rfl
theorem rdN_split (a : List S138) (e : S138) (b : List S138) : rd_T138 (a ++ e :: b) (a.length : Int) = e := by
  unfold rd_T138
  rw [Int.toNat_natCast, List.getD_eq_getElem?_getD, List.getElem?_append_right (Nat.le_refl _), Nat.sub_self]
  rfl
def endsIn (n : Nat) (fs : List S138) : Prop := ∀ e ∈ fs, 0 ≤ e.f0 ∧ e.f0 < n
theorem nfa_ends {n : Nat} {es : List S198} {fs : List S138} (h : nfaOk (n : Int) es fs) : endsIn n fs := by
  intro e he
  obtain ⟨i, hi, rfl⟩ := List.mem_iff_getElem.1 he
  have := h.2.2.2 i (Nat.zero_le _) hi
  unfold endP endOk at this
  have hr : rd_T138 fs (i : Int) = fs[i] := by
    unfold rd_T138
    rw [Int.toNat_natCast, List.getD_eq_getElem?_getD, List.getElem?_eq_getElem hi]
    rfl
  rw [hr] at this
  omega
theorem sRul (n : Nat) (z : Int) (es : List S198) (FS : List S138) (hE : endsIn n FS) (hl : FS.length ≤ 40) (m : List Bool) (hm : m.length = n) : ∀ (b a : List S138) (k : Nat), FS = a ++ b → b.length < k →
    spec_NfaMatch.l1 k (rul a m) m (a.length : Int) z es FS = some (rul FS m)
  | [], a, k, h, hk => by
    obtain ⟨k, rfl⟩ : ∃ m, k = m + 1 := ⟨k - 1, by omega⟩
    rw [List.append_nil] at h
    subst h
    rw [spec_NfaMatch.l1, if_neg (by omega)]
  | e :: b, a, k, h, hk => by
    obtain ⟨k, rfl⟩ : ∃ m, k = m + 1 := ⟨k - 1, by omega⟩
    have hlen : FS.length = a.length + (b.length + 1) := by rw [h, List.length_append, List.length_cons]
    have ih := sRul n z es FS hE hl m hm b (a ++ [e]) k (by rw [h]; simp) (by simp at hk; omega)
    have he := hE e (by rw [h]; simp)
    have hrd : rd_T138 FS (a.length : Int) = e := by rw [h]; exact rdN_split a e b
    have ha := rul_len a m
    rw [List.length_append, List.length_singleton, rul_snoc] at ih
    rw [spec_NfaMatch.l1, if_pos (by omega), if_pos (by omega), hrd, if_pos he.1, if_pos (by omega), nat_next (by omega)]
    by_cases c : m.getD e.f0.toNat false = true
    · rw [if_pos c] at ih
      rw [if_pos (show rdOf false m _ = true from c), if_pos (by omega)]
      exact ih
    · rw [if_neg c, List.append_nil] at ih
      rw [if_neg (show ¬ rdOf false m _ = true from c)]
      exact ih
/-- the search in a sorted row -/
theorem u64_half (i j : Nat) (h : i + j ≤ 1000000) : wrap64 ((IntKind.u64.wrap (wrap64 ((i : Int) + (j : Int)))) / 2) = (((i + j) / 2 : Nat) : Int) := by
  have e : wrap64 ((i : Int) + (j : Int)) = ((i + j : Nat) : Int) := by rw [w64 (by omega) (by omega)]; omega
  have e2 : IntKind.u64.wrap ((i + j : Nat) : Int) = ((i + j : Nat) : Int) := by
    unfold IntKind.wrap
    simp only [IntKind.bits, IntKind.signed, Bool.false_and, Bool.false_eq_true, if_false]
    omega
  rw [e, e2, w64 (by omega) (by omega)]
  omega
theorem rd_nat (L : List Int) (i : Nat) (h : i < L.length) : rd L (i : Int) = L[i] := by
  unfold rd
  rw [Int.toNat_natCast, List.getD_eq_getElem?_getD, List.getElem?_eq_getElem h]
  rfl
theorem less_i (x y : Int) : cmp_Less_int64.f x y = some (decide (x < y)) := by
  unfold cmp_Less_int64.f cmp_isNaN_int64.f
  simp
theorem bs_l0 (L : List Int) (hs : L.Pairwise (· < ·)) (hl : L.length ≤ 3000) (x : Int) (d : Nat) : ∀ (k i j : Nat), d < k → j - i ≤ d → i ≤ j → j ≤ L.length → (∀ q (h : q < L.length), q < i → L[q] < x) → (∀ q (h : q < L.length), j ≤ q → x ≤ L[q]) →
    ∃ p, slices_BinarySearch_int64_int64.l0 k L x (L.length : Int) (i : Int) (j : Int) = some (p, decide (x ∈ L)) := by
  have hpw : ∀ p q (hp : p < L.length) (hq : q < L.length), p < q → L[p] < L[q] := fun p q hp hq h => List.pairwise_iff_getElem.1 hs p q hp hq h
  have fin : ∀ (k i : Nat), i ≤ L.length → (∀ q (h : q < L.length), q < i → L[q] < x) → (∀ q (h : q < L.length), i ≤ q → x ≤ L[q]) → ∃ p, slices_BinarySearch_int64_int64.l0 (k + 1) L x (L.length : Int) (i : Int) (i : Int) = some (p, decide (x ∈ L)) := by
    intro k i hi h1 h2
    rw [slices_BinarySearch_int64_int64.l0, if_neg (by omega)]
    by_cases c : i < L.length
    · rw [if_pos (by omega), if_pos (by omega), if_pos (by omega), rd_nat L i c]
      by_cases e : L[i] = x
      · rw [if_pos e]
        exact ⟨_, by rw [decide_eq_true]; rw [← e]; exact List.getElem_mem c⟩
      · rw [if_neg e]
        have hno : x ∉ L := by
          intro hx
          obtain ⟨q, hq, hqx⟩ := List.mem_iff_getElem.1 hx
          by_cases hqi : q < i
          · have := h1 q hq hqi; omega
          · by_cases hqe : q = i
            · subst hqe; exact e hqx
            · have h3 := hpw i q c hq (by omega)
              have h4 := h2 i c (Nat.le_refl _)
              omega
        unfold slices_isNaN_int64.f
        simp only [bne_self_eq_false, Option.bind_some, Bool.false_eq_true, if_false, decide_eq_false hno]
        exact ⟨_, rfl⟩
    · rw [if_neg (by omega)]
      have hno : x ∉ L := by
        intro hx
        obtain ⟨q, hq, hqx⟩ := List.mem_iff_getElem.1 hx
        have := h1 q hq (by omega)
        omega
      exact ⟨_, by rw [decide_eq_false hno]⟩
  induction d with
  | zero =>
    intro k i j hk hd hij hj h1 h2
    obtain ⟨k, rfl⟩ : ∃ m, k = m + 1 := ⟨k - 1, by omega⟩
    obtain rfl : i = j := by omega
    exact fin k i hj h1 h2
  | succ d ih =>
    intro k i j hk hd hij hj h1 h2
    obtain ⟨k, rfl⟩ : ∃ m, k = m + 1 := ⟨k - 1, by omega⟩
    by_cases c : i < j
    · have hh : (i + j) / 2 < L.length := by omega
      rw [slices_BinarySearch_int64_int64.l0, if_pos (by omega), u64_half i j (by omega), if_pos (by omega), if_pos (by omega), less_i, Option.bind_some, rd_nat L _ hh]
      by_cases e : L[(i + j) / 2] < x
      · rw [if_pos (decide_eq_true e), nat_next (by omega)]
        refine ih k ((i + j) / 2 + 1) j (by omega) (by omega) (by omega) hj (fun q hq hqi => ?_) h2
        by_cases hqe : q = (i + j) / 2
        · subst hqe; exact e
        · have := hpw q ((i + j) / 2) hq hh (by omega); omega
      · rw [if_neg (by simpa using e)]
        refine ih k i ((i + j) / 2) (by omega) (by omega) (by omega) (by omega) h1 (fun q hq hqi => ?_)
        by_cases hqe : q = (i + j) / 2
        · subst hqe; omega
        · have := hpw ((i + j) / 2) q hh hq (by omega); omega
    · obtain rfl : i = j := by omega
      exact fin k i hj h1 h2
theorem onF_sorted (m : List Bool) : ∀ d i, (onF m d i).Pairwise (· < ·)
  | 0, _ => .nil
  | d + 1, i => by
    rw [onF, List.pairwise_append]
    refine ⟨by split <;> simp, onF_sorted m d (i + 1), fun a ha b hb => ?_⟩
    obtain ⟨s, h1, _, rfl, _⟩ := (mem_onF m b d (i + 1)).1 hb
    split at ha
    · rw [List.mem_singleton] at ha
      omega
    · simp at ha
theorem bs_on (m : List Bool) (hm : m.length ≤ 3000) (x : Int) (h0 : 0 ≤ x) (hx : x < m.length) (k : Nat) (hk : 3001 ≤ k) : ∃ p, slices_BinarySearch_int64_int64.f k (onL m) x = some (p, m.getD x.toNat false) := by
  have hlen : (onL m).length ≤ 3000 := by have := onF_len m m.length 0; unfold onL; omega
  obtain ⟨p, e⟩ := bs_l0 (onL m) (onF_sorted m m.length 0) hlen x (onL m).length k 0 (onL m).length (by omega) (by omega) (by omega) (Nat.le_refl _) (fun q _ h => by omega) (fun q h1 h2 => by omega)
  refine ⟨p, ?_⟩
  unfold slices_BinarySearch_int64_int64.f
  rw [show slices_BinarySearch_int64_int64.l0 k (onL m) x ((onL m).length : Int) 0 ((onL m).length : Int) = _ from e]
  congr 2
  rw [Bool.eq_iff_iff, decide_eq_true_iff, mem_onL]
  constructor
  · rintro ⟨s, _, rfl, h⟩
    exact h
  · intro h
    exact ⟨x.toNat, by omega, by omega, h⟩
theorem iRul (n : Nat) (hn : n ≤ 3000) (FS : List S138) (hE : endsIn n FS) (hl : FS.length ≤ 40) (m : List Bool) (hm : m.length = n) : ∀ (b a : List S138) (k : Nat), FS = a ++ b → b.length + 3001 < k →
    impl_network_rulesIn.l0 k (onL m) (rul a m) FS (FS.length : Int) (a.length : Int) = some (rul FS m)
  | [], a, k, h, hk => by
    obtain ⟨k, rfl⟩ : ∃ m, k = m + 1 := ⟨k - 1, by omega⟩
    rw [List.append_nil] at h
    subst h
    rw [impl_network_rulesIn.l0, if_neg (by omega)]
  | e :: b, a, k, h, hk => by
    obtain ⟨k, rfl⟩ : ∃ m, k = m + 1 := ⟨k - 1, by omega⟩
    have hlen : FS.length = a.length + (b.length + 1) := by rw [h, List.length_append, List.length_cons]
    have ih := iRul n hn FS hE hl m hm b (a ++ [e]) k (by rw [h]; simp) (by simp at hk; omega)
    have he := hE e (by rw [h]; simp)
    have hrd : rd_T138 FS (a.length : Int) = e := by rw [h]; exact rdN_split a e b
    have ha := rul_len a m
    obtain ⟨p, hp⟩ := bs_on m (by omega) e.f0 he.1 (by omega) k (by omega)
    rw [List.length_append, List.length_singleton, rul_snoc] at ih
    rw [impl_network_rulesIn.l0, if_pos (by omega), if_pos (by omega), if_pos (by omega), hrd, hp, Option.bind_some, nat_next (by omega)]
    by_cases c : m.getD e.f0.toNat false = true
    · rw [if_pos c] at ih
      rw [if_pos c, if_pos (by omega)]
      exact ih
    · rw [if_neg c, List.append_nil] at ih
      rw [if_neg c]
      exact ih
open Classical in
noncomputable def run (n : Nat) (es : List S198) (s : ByteArray) : Nat → Nat → List Bool → List Bool
  | 0, _, m => m
  | d + 1, i, m => run n es s d (i + 1) (cl n es (stp es m (bt s i)))
open Classical in
theorem match_l0 (n : Nat) (hn : n ≤ 3000) (es : List S198) (fs : List S138) (hE : edgesIn n es) (hF : endsIn n fs) (hl : es.length ≤ 12000) (hlf : fs.length ≤ 40) (hsp : ∀ e ∈ es, e.f2.length ≤ 128) (s : ByteArray) (hs : s.size ≤ 300) (d : Nat) : ∀ (k i : Nat) (m : List Bool), d + 130000000 < k → s.size - i = d → i ≤ s.size → m.length = n →
    spec_NfaMatch.l0 k s [] m (i : Int) (n : Int) es fs = some (rul fs (run n es s d i m)) ∧ impl_NfaMatch.l0 k s (onL m) (i : Int) (n : Int) es fs (tabN n (frF es)) (tabN n (stF es 0)) = some (rul fs (run n es s d i m)) := by
  induction d with
  | zero =>
    intro k i m hk hd hi hm
    obtain ⟨k, rfl⟩ : ∃ m, k = m + 1 := ⟨k - 1, by omega⟩
    rw [spec_NfaMatch.l0, impl_NfaMatch.l0, if_neg (by omega), if_neg (by omega)]
    exact ⟨sRul n _ es fs hF hlf m hm fs [] k rfl (by omega), iRul n hn fs hF hlf m hm fs [] k rfl (by omega)⟩
  | succ d ih =>
    intro k i m hk hd hi hm
    obtain ⟨k, rfl⟩ : ∃ m, k = m + 1 := ⟨k - 1, by omega⟩
    have hb : 0 ≤ bt s (i : Int) ∧ bt s (i : Int) ≤ 255 := by
      unfold bt
      split
      · have := (s[(i : Int).toNat]'(by assumption)).toNat_lt
        omega
      · omega
    rw [spec_NfaMatch.l0, impl_NfaMatch.l0, if_pos (by omega), if_pos (by omega), if_pos (by omega), if_pos (by omega), sStep n hn es fs hE hl hsp m hm (bt s (i : Int)) hb k (by omega), Option.bind_some, iMove n hn es fs (bt s (i : Int)) hb hE hl m hm k (by omega), Option.bind_some, nat_next (by omega), run]
    exact ih k (i + 1) _ (by omega) (by omega) (by omega) (cl_len _ _ _)
open Classical in
theorem match_both (n : Int) (es : List S198) (fs : List S138) (s : ByteArray) (g : ∀ y ∈ es, bi_Edge y) : ∃ o : List Int, o.length ≤ 40 ∧ ∀ k, 131000000 ≤ k → spec_NfaMatch.f k n es fs s = some o ∧ impl_NfaMatch.f k n es fs s = some o := by
  by_cases h : nfaOk n es fs
  · have h' := h
    obtain ⟨⟨h1, h2⟩, ⟨h3, h4⟩, _⟩ := h'
    obtain ⟨N, rfl⟩ : ∃ N : Nat, n = (N : Int) := ⟨n.toNat, by omega⟩
    have hE := nfa_edges h
    have hF := nfa_ends h
    have c : ∀ x ∈ ([0] : List Int), 0 ≤ x ∧ x < (N : Int) := fun x hx => by rw [List.mem_singleton] at hx; omega
    have nofalse : ∀ s, (List.replicate N false).getD s false = true ↔ (s : Int) ∈ ([0] : List Int).take 0 := fun s => by
      rw [List.getD_eq_getElem?_getD, List.getElem?_replicate, List.take_zero]
      split <;> simp
    have hS : ∀ k, 131000000 ≤ k → ∃ r, spec_l6Marks.f k (N : Int) es fs [0] = some (r, true) ∧ r.length = N ∧ ∀ s, r.getD s false = true ↔ (s : Int) ∈ ([0] : List Int) := by
      intro k hk
      obtain ⟨r, e, hr, hm⟩ := sMk_l0 N (by omega) es fs [0] c (by simp) 1 k 0 (List.replicate N false) (by omega) (by simp) (by simp) (by simp) nofalse
      have e' : spec_l6Marks.l0 k [0] (List.replicate N false) 0 (N : Int) es fs = some (r, true) := e
      refine ⟨r, ?_, hr, hm⟩
      unfold spec_l6Marks.f
      rw [sNfaOk _ _ _ g k (by omega), Option.bind_some, if_pos (decide_eq_true h), if_pos (by omega), if_pos (by omega), Int.toNat_natCast, e']
    by_cases hz : (s.size : Int) > 300
    · refine ⟨[], by simp, fun k hk => ⟨?_, ?_⟩⟩
      · obtain ⟨r, e, _⟩ := hS k hk
        unfold spec_NfaMatch.f
        obtain ⟨k, rfl⟩ : ∃ m, k = m + 1 := ⟨k - 1, by omega⟩
        rw [Option.bind_some, e, Option.bind_some, if_pos rfl, spec_NfaMatch.j0, if_pos (decide_eq_true hz)]
      · unfold impl_NfaMatch.f
        rw [if_pos hz]
    · refine ⟨rul fs (run N es s s.size 0 (cl N es (fun s => (s : Int) ∈ ([0] : List Int)))), by have := rul_len fs (run N es s s.size 0 (cl N es (fun s => (s : Int) ∈ ([0] : List Int)))); omega, fun k hk => ⟨?_, ?_⟩⟩
      · obtain ⟨r, e, hr, hm⟩ := hS k hk
        unfold spec_NfaMatch.f
        obtain ⟨k, rfl⟩ : ∃ m, k = m + 1 := ⟨k - 1, by omega⟩
        rw [Option.bind_some, e, Option.bind_some, if_pos rfl, spec_NfaMatch.j0, if_neg (by simpa using hz), sClo N (by omega) es fs hE h3 r hr k (by omega), Option.bind_some, cl_congr (fun s => hm s)]
        exact (match_l0 N (by omega) es fs hE hF h3 h4 (nfa_spans h) s (by omega) s.size k 0 _ (by omega) (by omega) (by omega) (cl_len _ _ _)).1
      · unfold impl_NfaMatch.f
        rw [if_neg hz, iNfaOk _ _ _ g k (by omega), Option.bind_some, if_pos (decide_eq_true h), netNew N (by omega) es fs hE h3 k (by omega), Option.bind_some, iClo N (by omega) es fs _ hE h3 [0] c (by simp) k (by omega), Option.bind_some]
        exact (match_l0 N (by omega) es fs hE hF h3 h4 (nfa_spans h) s (by omega) s.size k 0 _ (by omega) (by omega) (by omega) (cl_len _ _ _)).2
  · refine ⟨[], by simp, fun k hk => ⟨?_, ?_⟩⟩
    · unfold spec_NfaMatch.f spec_l6Marks.f
      obtain ⟨k, rfl⟩ : ∃ m, k = m + 1 := ⟨k - 1, by omega⟩
      rw [Option.bind_some, sNfaOk _ _ _ g (k + 1) (by omega), Option.bind_some, if_neg (by simpa using h), Option.bind_some, if_neg (by simp), spec_NfaMatch.j0, if_pos rfl]
    · unfold impl_NfaMatch.f
      by_cases hz : (s.size : Int) > 300
      · rw [if_pos hz]
      · rw [if_neg hz, iNfaOk _ _ _ g k (by omega), Option.bind_some, if_neg (by simpa using h)]
theorem FnExactNfaMatch (x : Int × List S196 × List S201) (g : (Lit.int .i64 x.1).wf = true ∧ (x.2.1.length ≤ maxLen ∧ ∀ y ∈ x.2.1, gd_Edge y) ∧ (x.2.2.length ≤ maxLen ∧ ∀ y ∈ x.2.2, gd_End y)) (s : ByteArray) (_g1 : s.size ≤ 140737488351232) : ∃ k, laws_FnExactNfaMatch.f k x.1 x.2.1 x.2.2 s = some true := by
  obtain ⟨n, es, fs⟩ := x
  suffices ∀ k, 140000000 ≤ k → laws_FnExactNfaMatch.f k n es fs s = some true from ⟨140000000, this _ (Nat.le_refl _)⟩
  intro k hk
  unfold laws_FnExactNfaMatch.f
  by_cases hsl : (s.size : Int) > 1048576
  · rw [if_pos hsl]
  rw [if_neg hsl]
  obtain ⟨r, e, _, _, h⟩ := szL_Nfa k (by omega) n es fs g 1048576 (by omega)
  rw [e, Option.bind_some]
  by_cases hr : r < 0
  · rw [if_pos hr]
  · have hb := h (by omega)
    have hi : bi_EdgeS (es.map c_Edge) := ⟨by rw [List.length_map]; exact hb.1.1, fun y hy => by obtain ⟨z, hz, rfl⟩ := List.mem_map.1 hy; exact bi_of_Edge z (hb.1.2 z hz)⟩
    have hj : bi_EndS (fs.map c_End) := by unfold bi_EndS; rw [List.length_map]; exact hb.2
    rw [if_neg hr, if_pos]
    obtain ⟨o, ol, ho⟩ := match_both n (es.map c_Edge) (fs.map c_End) s hi.2
    obtain ⟨m0, y0, y1, q0, q1, q2⟩ := markNfa_l (es.map c_Edge) (fs.map c_End) hi.1 hi.2 hj 1 (by omega) (by omega) k (by omega)
    obtain ⟨z0, z⟩ := markInt64S_held o (by omega) 1 (by omega) (by omega)
    obtain ⟨z1, z2⟩ := z k (by omega)
    exact ⟨n, es.map c_Edge, fs.map c_End, o, m0, y0, y1, 1 + o.length, z0, toL_Nfa k (by omega) n es fs hb, (ho k (by omega)).1, (ho k (by omega)).2, eqInt64S_same o (by omega) k (by omega), eqL_Nfa k (by omega) n _ _ ⟨hi, hj⟩, q0, by omega, z1, z2, by omega⟩
end Go.Proofs.Ytaemhmgcjpcicaa.Pure
