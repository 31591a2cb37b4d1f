/- The program's Pack and the reference's come to one packing: whatever the table. -/
import Derived.Test.YtbijmhooamjgoaaPFnExactPackx9
import Derived.Test.YtbijmhooamjgoaaKit
import Derived.Test.YtbijmhooamjgoaaKitTab
import Derived.Test.YtbijmhooamjgoaaKitPack
namespace Go.Proofs.Ytbijmhooamjgoaa.Pure
open Go.RowKit Go.Proofs.Ytbijmhooamjgoaa.PFnExactPack Go.Proofs.YtbijmhooamjgoaaW.PrintWords Go.Proofs.YtbijmhooamjgoaaW.PrintLast Go.Proofs.YtbijmhooamjgoaaW.PrintMore Go.Proofs.Ytbijmhooamjgoaa.Kit
set_option linter.unusedVariables false
theorem sIn (a b c : Int) : spec_l1In.f a b c = some (decide (b ≤ a ∧ a ≤ c)) := by
  unfold spec_l1In.f
  by_cases h : a ≥ b
  · rw [if_pos h]; congr 1; simp; omega
  · rw [if_neg h]; congr 1; simp; omega
theorem iWithin (a b c : Int) : impl_within.f a b c = some (decide (b ≤ a ∧ a ≤ c)) := by
  unfold impl_within.f
  by_cases h : a ≥ b
  · rw [if_pos h]; congr 1; simp; omega
  · rw [if_neg h]; congr 1; simp; omega
/-- two lists of numbers that are one are told alike -/
theorem eqInt64S_l (l : List Int) (hl : (l.length : Int) ≤ 1099511627776) (d : Nat) : ∀ (k : Nat) (i : Int), d < k → 0 ≤ i → (l.length : Int) - i = d → laws_eqInt64S.l0 k l l i = some true := by
  induction d with
  | zero =>
    intro k i hk h0 hd
    obtain ⟨k, rfl⟩ : ∃ m, k = m + 1 := ⟨k - 1, by omega⟩
    simp only [laws_eqInt64S.l0]
    rw [if_neg (by omega)]
  | succ d ih =>
    intro k i hk h0 hd
    obtain ⟨k, rfl⟩ : ∃ m, k = m + 1 := ⟨k - 1, by omega⟩
    simp only [laws_eqInt64S.l0]
    rw [if_pos (by omega), if_pos h0, if_pos (by omega), w64 (by omega) (by omega)]
    exact ih k _ (by omega) (by omega) (by omega)
theorem eqInt64S_same (l : List Int) (hl : (l.length : Int) ≤ 1099511627776) (k : Nat) (hk : l.length < k) : laws_eqInt64S.f k l l = some true := by
  unfold laws_eqInt64S.f
  simp only [if_true]
  exact eqInt64S_l l hl l.length k 0 hk (by omega) (by omega)

/-- what is marked is held: the marks of a list, told by its length alone -/
theorem markInt64S_l (d : Nat) : ∀ (k : Nat) (l : List Int) (m i : Int), d < k → 0 ≤ i → (l.length : Int) - i = d → (l.length : Int) ≤ 1099511627776 → 0 ≤ m → m ≤ 4398046511104 → m + d ≤ 4398046511104 →
    ∃ l', laws_markInt64S.l0 k l m i = some (m + d, l') ∧ l'.length = l.length ∧ (∀ j : Nat, (j : Int) < i → l'.getD j 0 = l.getD j 0) ∧ (∀ j : Nat, i ≤ (j : Int) → j < l.length → l'.getD j 0 = m + ((j : Int) - i)) := by
  induction d with
  | zero =>
    intro k l m i hk h0 hd hl hm hm' hmd
    obtain ⟨k, rfl⟩ : ∃ m, k = m + 1 := ⟨k - 1, by omega⟩
    refine ⟨l, ?_, rfl, fun j _ => rfl, fun j hj hj' => by omega⟩
    simp only [laws_markInt64S.l0]
    rw [if_neg (by omega)]
    simp
  | succ d ih =>
    intro k l m i hk h0 hd hl hm hm' hmd
    obtain ⟨k, rfl⟩ : ∃ m, k = m + 1 := ⟨k - 1, by omega⟩
    obtain ⟨l', e, e1, e2, e3⟩ := ih k (l.set i.toNat m) (m + 1) (i + 1) (by omega) (by omega) (by simp; omega) (by simp; omega) (by omega) (by omega) (by omega)
    refine ⟨l', ?_, by simpa using e1, fun j hj => ?_, fun j hj hj' => ?_⟩
    · simp only [laws_markInt64S.l0]
      rw [if_pos (by omega), if_pos h0, w64 (x := m + 1) (by omega) (by omega), w64 (by omega) (by omega), e]
      congr 2
      omega
    · rw [e2 j (by omega), List.getD_eq_getElem?_getD, List.getD_eq_getElem?_getD, List.getElem?_set_ne (by omega)]
    · by_cases hji : (j : Int) = i
      · rw [e2 j (by omega)]
        have : i.toNat = j := by omega
        rw [this, List.getD_eq_getElem?_getD, List.getElem?_set_self hj']
        simp; omega
      · rw [e3 j (by omega) (by simpa using hj')]
        omega
theorem heldInt64S_l (l : List Int) (hl : (l.length : Int) ≤ 1099511627776) (d : Nat) : ∀ (k : Nat) (m i : Int), d < k → 0 ≤ i → (l.length : Int) - i = d → 0 ≤ m → m + d ≤ 4398046511104 →
    (∀ j : Nat, i ≤ (j : Int) → j < l.length → l.getD j 0 = m + ((j : Int) - i)) → laws_heldInt64S.l0 k l m i = some (m + d) := by
  induction d with
  | zero =>
    intro k m i hk h0 hd hm hmd _
    obtain ⟨k, rfl⟩ : ∃ m, k = m + 1 := ⟨k - 1, by omega⟩
    simp only [laws_heldInt64S.l0]
    rw [if_neg (by omega)]
    simp
  | succ d ih =>
    intro k m i hk h0 hd hm hmd hj
    obtain ⟨k, rfl⟩ : ∃ m, k = m + 1 := ⟨k - 1, by omega⟩
    have hi := hj i.toNat (by omega) (by omega)
    simp only [laws_heldInt64S.l0]
    rw [if_pos (by omega), if_pos h0, if_pos (by unfold rd; omega), w64 (x := m + 1) (by omega) (by omega), w64 (by omega) (by omega), ih k _ _ (by omega) (by omega) (by omega) (by omega) (by omega) (fun j h h' => by rw [hj j (by omega) h']; omega)]
    congr 1
    omega
/-- the marks of a list, and that they are held -/
theorem markInt64S_held (l : List Int) (hl : (l.length : Int) ≤ 1099511627776) (m : Int) (hm : 0 ≤ m) (hm' : m ≤ 2199023255552) : ∃ l', ∀ k, l.length < k →
    laws_markInt64S.f k l m = some (m + l.length, l') ∧ laws_heldInt64S.f k l' m = some (m + l.length) := by
  obtain ⟨l', e, e1, _, e3⟩ := markInt64S_l l.length (l.length + 1) l m 0 (by omega) (by omega) (by omega) hl hm (by omega) (by omega)
  refine ⟨l', fun k hk => ⟨?_, ?_⟩⟩
  · obtain ⟨l2, f, _⟩ := markInt64S_l l.length k l m 0 hk (by omega) (by omega) hl hm (by omega) (by omega)
    have : laws_markInt64S.l0 k l m 0 = some (m + l.length, l') := at_rounds (g := fun k => laws_markInt64S.l0 k l m 0) (fun k => laws_markInt64S.mono_l k _ _ _) (by omega : l.length + 1 ≤ k) e
    exact this
  · unfold laws_heldInt64S.f
    exact heldInt64S_l l' (by omega) l.length k m 0 hk (by omega) (by omega) hm (by omega) (fun j h h' => e3 j h (by omega))
def gd_Int64S (x : List Int) : Prop := x.length ≤ maxLen ∧ ∀ y ∈ x, (Lit.int .i64 y).wf = true
def bd_Int64S (x : List Int) : Prop := x.length ≤ 1048576
def bi_Int64S (x : List Int) : Prop := x.length ≤ 1048576
def gd_Int64SS (x : List (List Int)) : Prop := x.length ≤ maxLen ∧ ∀ y ∈ x, gd_Int64S y
def bd_Int64SS (x : List (List Int)) : Prop := x.length ≤ 1048576 ∧ ∀ y ∈ x, bd_Int64S y
def bi_Int64SS (x : List (List Int)) : Prop := x.length ≤ 1048576 ∧ ∀ y ∈ x, bi_Int64S y
def gd_Dfa (x : S49) : Prop := (x.f0.length ≤ maxLen ∧ ∀ y ∈ x.f0, (Lit.int .i64 y).wf = true) ∧ (x.f1.length ≤ maxLen ∧ ∀ y ∈ x.f1, gd_Int64S y) ∧ (x.f2.length ≤ maxLen ∧ ∀ y ∈ x.f2, (Lit.int .i64 y).wf = true)
def bd_Dfa (x : S49) : Prop := (x.f0.length ≤ 1048576) ∧ (x.f1.length ≤ 1048576 ∧ ∀ y ∈ x.f1, bd_Int64S y) ∧ (x.f2.length ≤ 1048576)
def bi_Dfa (x : S53) : Prop := (x.f0.length ≤ 1048576) ∧ (x.f1.length ≤ 1048576 ∧ ∀ y ∈ x.f1, bi_Int64S y) ∧ (x.f2.length ≤ 1048576)
def c_Dfa (x : S49) : S53 := ⟨x.f0, x.f1, x.f2⟩
theorem bi_of_Dfa (x : S49) (h : bd_Dfa x) : bi_Dfa (c_Dfa x) := ⟨h.1, h.2.1, h.2.2⟩
theorem szL_Int64S (k : Nat) (hk : 1048578 ≤ k) (l : List Int) (g : l.length ≤ maxLen ∧ ∀ y ∈ l, (Lit.int .i64 y).wf = true) (n : Int) (hn : 0 ≤ n ∧ n ≤ 1048576) : ∃ r, laws_szInt64S.f l n = some r ∧ -1 ≤ r ∧ r ≤ n ∧ (0 ≤ r → l.length ≤ 1048576) := by
  have hl := g.1
  unfold maxLen at hl
  unfold laws_szInt64S.f
  rw [w64 (by omega) (by omega)]
  by_cases h : n - (l.length : Int) < 0
  · rw [if_pos h]; exact ⟨-1, rfl, by omega, by omega, fun h => by omega⟩
  · rw [if_neg h]; exact ⟨_, rfl, by omega, by omega, fun _ => by omega⟩
theorem szL_Int64SS_l (l : List (List Int)) (g : ∀ y ∈ l, gd_Int64S y) (hl : l.length ≤ 1048576) (d : Nat) : ∀ (k : Nat) (x i : Int), d + 1048578 < k → 0 ≤ i → (l.length : Int) - i = d → 0 ≤ x → x ≤ 1048576 →
    ∃ r, laws_szInt64SS.l0 k l x i = some r ∧ -1 ≤ r ∧ r ≤ x ∧ (0 ≤ r → ∀ j : Nat, i ≤ (j : Int) → (h : j < l.length) → bd_Int64S l[j]) := by
  induction d with
  | zero =>
    intro k x i hk h0 hd g0 g1
    obtain ⟨k, rfl⟩ : ∃ m, k = m + 1 := ⟨k - 1, by omega⟩
    refine ⟨x, ?_, by omega, by omega, fun _ j h1 h2 => by omega⟩
    simp only [laws_szInt64SS.l0]
    rw [if_neg (by omega)]
  | succ d ih =>
    intro k x i hk h0 hd g0 g1
    obtain ⟨k, rfl⟩ : ∃ m, k = m + 1 := ⟨k - 1, by omega⟩
    have hi : i.toNat < l.length := by omega
    have e : rd_L1 l i = l[i.toNat] := by
      unfold rd_L1
      rw [List.getD_eq_getElem?_getD, List.getElem?_eq_getElem hi]
      rfl
    have hg := g l[i.toNat] (List.getElem_mem hi)
    obtain ⟨r, er, r1, r2, r3⟩ := szL_Int64S k (by omega) l[i.toNat] hg x ⟨g0, g1⟩
    simp only [laws_szInt64SS.l0, e]
    rw [if_pos (by omega), if_pos h0, er]
    simp only [Option.bind_some]
    by_cases hr : r < 0
    · rw [if_pos hr]; exact ⟨-1, rfl, by omega, by omega, fun h => by omega⟩
    · rw [if_neg hr, w64 (by omega) (by omega)]
      obtain ⟨q, eq, q1, q2, q3⟩ := ih k r (i + 1) (by omega) (by omega) (by omega) (by omega) (by omega)
      refine ⟨q, eq, q1, by omega, fun h j h1 h2 => ?_⟩
      by_cases hj : (j : Int) = i
      · have : j = i.toNat := by omega
        subst this; exact r3 (by omega)
      · exact q3 h j (by omega) h2
theorem szL_Int64SS (k : Nat) (hk : 2097156 ≤ k) (l : List (List Int)) (g : l.length ≤ maxLen ∧ ∀ y ∈ l, gd_Int64S y) (n : Int) (hn : 0 ≤ n ∧ n ≤ 1048576) : ∃ r, laws_szInt64SS.f k l n = some r ∧ -1 ≤ r ∧ r ≤ n ∧ (0 ≤ r → l.length ≤ 1048576 ∧ ∀ y ∈ l, bd_Int64S y) := by
  have hl := g.1
  unfold maxLen at hl
  unfold laws_szInt64SS.f
  rw [w64 (x := n - (l.length : Int)) (by omega) (by omega)]
  by_cases h : n - (l.length : Int) < 0
  · rw [if_pos h]; exact ⟨-1, rfl, by omega, by omega, fun h => by omega⟩
  · rw [if_neg h]
    obtain ⟨r, e, r1, r2, r3⟩ := szL_Int64SS_l l g.2 (by omega) l.length k (n - (l.length : Int)) 0 (by omega) (by omega) (by omega) (by omega) (by omega)
    exact ⟨r, e, r1, by omega, fun hr => ⟨by omega, fun y hy => by
      obtain ⟨j, hj, rfl⟩ := List.mem_iff_getElem.1 hy
      exact r3 hr j (by omega) hj⟩⟩
theorem szL_Dfa (k : Nat) (hk : 2097156 ≤ k) (f0 : List Int) (f1 : List (List Int)) (f2 : List Int) (g : (f0.length ≤ maxLen ∧ ∀ y ∈ f0, (Lit.int .i64 y).wf = true) ∧ (f1.length ≤ maxLen ∧ ∀ y ∈ f1, gd_Int64S y) ∧ (f2.length ≤ maxLen ∧ ∀ y ∈ f2, (Lit.int .i64 y).wf = true)) (n : Int) (hn : 0 ≤ n ∧ n ≤ 1048576) : ∃ r, laws_szDfa.f k f0 f1 f2 n = some r ∧ -1 ≤ r ∧ r ≤ n ∧ (0 ≤ r → (f0.length ≤ 1048576) ∧ (f1.length ≤ 1048576 ∧ ∀ y ∈ f1, bd_Int64S y) ∧ (f2.length ≤ 1048576)) := by
  unfold laws_szDfa.f
  obtain ⟨r1, e1, a1, b1, d1⟩ := szL_Int64S k (by omega) f0 g.1 n (by omega)
  rw [e1]
  simp only [Option.bind_some]
  by_cases c1 : r1 < 0
  · rw [if_pos c1]; exact ⟨-1, rfl, by omega, by omega, fun h => by omega⟩
  rw [if_neg c1]
  obtain ⟨r2, e2, a2, b2, d2⟩ := szL_Int64SS k (by omega) f1 g.2.1 r1 (by omega)
  rw [e2]
  simp only [Option.bind_some]
  by_cases c2 : r2 < 0
  · rw [if_pos c2]; exact ⟨-1, rfl, by omega, by omega, fun h => by omega⟩
  rw [if_neg c2]
  obtain ⟨r3, e3, a3, b3, d3⟩ := szL_Int64S k (by omega) f2 g.2.2 r2 (by omega)
  rw [e3]
  simp only [Option.bind_some]
  by_cases c3 : r3 < 0
  · rw [if_pos c3]; exact ⟨-1, rfl, by omega, by omega, fun h => by omega⟩
  rw [if_neg c3]
  exact ⟨r3, rfl, by omega, by omega, fun _ => ⟨(d1 (by omega)), (d2 (by omega)), (d3 (by omega))⟩⟩
theorem toL_Int64S_l (l : List Int) (hl : l.length ≤ 1048576) (d : Nat) : ∀ (k : Nat) (acc : List Int) (i : Int), d + 0 < k → 0 ≤ i → (l.length : Int) - i = d → acc.length = l.length →
    laws_toInt64S.l0 k l acc i = some (acc.take i.toNat ++ (l).drop i.toNat) := by
  induction d with
  | zero =>
    intro k acc i hk h0 hd ha
    obtain ⟨k, rfl⟩ : ∃ m, k = m + 1 := ⟨k - 1, by omega⟩
    simp only [laws_toInt64S.l0]
    rw [if_neg (by omega), List.take_of_length_le (by omega), List.drop_eq_nil_of_le (by first | omega | (rw [List.length_map]; omega)), List.append_nil]
  | succ d ih =>
    intro k acc i hk h0 hd ha
    obtain ⟨k, rfl⟩ : ∃ m, k = m + 1 := ⟨k - 1, by omega⟩
    have hi : i.toNat < l.length := by omega
    have e : rd l i = l[i.toNat] := by
      unfold rd
      rw [List.getD_eq_getElem?_getD, List.getElem?_eq_getElem hi]
      rfl
    simp only [laws_toInt64S.l0, e]
    rw [if_pos (by omega), if_pos h0, if_pos (by omega), w64 (by omega) (by omega), ih k _ _ (by omega) (by omega) (by omega) (by simpa using ha)]
    have e1 : (i + 1).toNat = i.toNat + 1 := by omega
    rw [e1, List.take_succ_eq_append_getElem (by simp; omega), List.take_set_of_le (Nat.le_refl _), List.getElem_set_self, List.append_assoc, List.singleton_append]
    congr 2
    rw [List.drop_eq_getElem_cons (i := i.toNat) hi]
theorem toL_Int64S (k : Nat) (hk : 1048578 ≤ k) (l : List Int) (g : l.length ≤ 1048576) : laws_toInt64S.f k l = some (l) := by
  have hl : l.length ≤ 1048576 := g
  unfold laws_toInt64S.f
  rw [if_pos (by omega), if_pos (by omega), toL_Int64S_l l hl l.length k _ 0 (by omega) (by omega) (by omega) (by simp)]
  simp
theorem toL_Int64SS_l (l : List (List Int)) (g : ∀ y ∈ l, bd_Int64S y) (hl : l.length ≤ 1048576) (d : Nat) : ∀ (k : Nat) (acc : List (List Int)) (i : Int), d + 1048578 < k → 0 ≤ i → (l.length : Int) - i = d → acc.length = l.length →
    laws_toInt64SS.l0 k l acc i = some (acc.take i.toNat ++ (l).drop i.toNat) := by
  induction d with
  | zero =>
    intro k acc i hk h0 hd ha
    obtain ⟨k, rfl⟩ : ∃ m, k = m + 1 := ⟨k - 1, by omega⟩
    simp only [laws_toInt64SS.l0]
    rw [if_neg (by omega), List.take_of_length_le (by omega), List.drop_eq_nil_of_le (by first | omega | (rw [List.length_map]; omega)), List.append_nil]
  | succ d ih =>
    intro k acc i hk h0 hd ha
    obtain ⟨k, rfl⟩ : ∃ m, k = m + 1 := ⟨k - 1, by omega⟩
    have hi : i.toNat < l.length := by omega
    have e : rd_L1 l i = l[i.toNat] := by
      unfold rd_L1
      rw [List.getD_eq_getElem?_getD, List.getElem?_eq_getElem hi]
      rfl
    have ee := toL_Int64S k (by omega) l[i.toNat] (g l[i.toNat] (List.getElem_mem hi))
    simp only [laws_toInt64SS.l0, e]
    rw [if_pos (by omega), if_pos h0]
    first | rw [ee] | skip
    try simp only [Option.bind_some]
    rw [if_pos (by omega)]
    try rw [ee]
    try simp only [Option.bind_some]
    try rw [if_pos (by omega)]
    rw [w64 (by omega) (by omega)]
    rw [ih k _ _ (by omega) (by omega) (by omega) (by simpa using ha)]
    have e1 : (i + 1).toNat = i.toNat + 1 := by omega
    rw [e1, List.take_succ_eq_append_getElem (by simp; omega), List.take_set_of_le (Nat.le_refl _), List.getElem_set_self, List.append_assoc, List.singleton_append]
    congr 2
    rw [List.drop_eq_getElem_cons (i := i.toNat) hi]
theorem toL_Int64SS (k : Nat) (hk : 2097156 ≤ k) (l : List (List Int)) (g : l.length ≤ 1048576 ∧ ∀ y ∈ l, bd_Int64S y) : laws_toInt64SS.f k l = some (l) := by
  have hl : l.length ≤ 1048576 := g.1
  unfold laws_toInt64SS.f
  rw [if_pos (by omega), if_pos (by omega), toL_Int64SS_l l g.2 hl l.length k _ 0 (by omega) (by omega) (by omega) (by simp)]
  simp
theorem toL_Dfa (k : Nat) (hk : 2097156 ≤ k) (f0 : List Int) (f1 : List (List Int)) (f2 : List Int) (g : (f0.length ≤ 1048576) ∧ (f1.length ≤ 1048576 ∧ ∀ y ∈ f1, bd_Int64S y) ∧ (f2.length ≤ 1048576)) : laws_toDfa.f k f0 f1 f2 = some (f0, f1, f2) := by
  unfold laws_toDfa.f
  rw [toL_Int64S k (by omega) f0 (g.1)]
  simp only [Option.bind_some]
  rw [toL_Int64SS k (by omega) f1 (g.2.1)]
  simp only [Option.bind_some]
  rw [toL_Int64S k (by omega) f2 (g.2.2)]
  simp only [Option.bind_some]
  all_goals (first | rfl | simp)
theorem eqL_Int64S_l (l : List Int) (hl : l.length ≤ 1048576) (d : Nat) : ∀ (k : Nat) (i : Int), d + 0 < k → 0 ≤ i → (l.length : Int) - i = d → laws_eqInt64S.l0 k l l i = some true := by
  induction d with
  | zero =>
    intro k i hk h0 hd
    obtain ⟨k, rfl⟩ : ∃ m, k = m + 1 := ⟨k - 1, by omega⟩
    simp only [laws_eqInt64S.l0]
    rw [if_neg (by omega)]
  | succ d ih =>
    intro k i hk h0 hd
    obtain ⟨k, rfl⟩ : ∃ m, k = m + 1 := ⟨k - 1, by omega⟩
    have hi : i.toNat < l.length := by omega
    simp only [laws_eqInt64S.l0]
    rw [if_pos (by omega), if_pos h0, if_pos (by omega)]
    simp only [if_true]
    rw [w64 (by omega) (by omega)]
    exact ih k _ (by omega) (by omega) (by omega)
theorem eqL_Int64S (k : Nat) (hk : 1048578 ≤ k) (l : List Int) (g : l.length ≤ 1048576) : laws_eqInt64S.f k l l = some true := by
  have hl : l.length ≤ 1048576 := g
  unfold laws_eqInt64S.f
  simp only [if_true]
  exact eqL_Int64S_l l hl l.length k 0 (by omega) (by omega) (by omega)
theorem eqL_Int64SS_l (l : List (List Int)) (g : ∀ y ∈ l, bi_Int64S y) (hl : l.length ≤ 1048576) (d : Nat) : ∀ (k : Nat) (i : Int), d + 1048578 < k → 0 ≤ i → (l.length : Int) - i = d → laws_eqInt64SS.l0 k l l i = some true := by
  induction d with
  | zero =>
    intro k i hk h0 hd
    obtain ⟨k, rfl⟩ : ∃ m, k = m + 1 := ⟨k - 1, by omega⟩
    simp only [laws_eqInt64SS.l0]
    rw [if_neg (by omega)]
  | succ d ih =>
    intro k i hk h0 hd
    obtain ⟨k, rfl⟩ : ∃ m, k = m + 1 := ⟨k - 1, by omega⟩
    have hi : i.toNat < l.length := by omega
    have e : rd_L1 l i = l[i.toNat] := by
      unfold rd_L1
      rw [List.getD_eq_getElem?_getD, List.getElem?_eq_getElem hi]
      rfl
    have ee := eqL_Int64S k (by omega) l[i.toNat] (g l[i.toNat] (List.getElem_mem hi))
    simp only [laws_eqInt64SS.l0, e]
    rw [if_pos (by omega), if_pos h0, if_pos (by omega), ee]
    simp only [Option.bind_some, if_true]
    rw [w64 (by omega) (by omega)]
    exact ih k _ (by omega) (by omega) (by omega)
theorem eqL_Int64SS (k : Nat) (hk : 2097156 ≤ k) (l : List (List Int)) (g : l.length ≤ 1048576 ∧ ∀ y ∈ l, bi_Int64S y) : laws_eqInt64SS.f k l l = some true := by
  have hl : l.length ≤ 1048576 := g.1
  unfold laws_eqInt64SS.f
  simp only [if_true]
  exact eqL_Int64SS_l l g.2 hl l.length k 0 (by omega) (by omega) (by omega)
theorem eqL_Dfa (k : Nat) (hk : 2097156 ≤ k) (f0 : List Int) (f1 : List (List Int)) (f2 : List Int) (g : (f0.length ≤ 1048576) ∧ (f1.length ≤ 1048576 ∧ ∀ y ∈ f1, bi_Int64S y) ∧ (f2.length ≤ 1048576)) : laws_eqDfa.f k f0 f1 f2 f0 f1 f2 = some true := by
  unfold laws_eqDfa.f
  simp [eqL_Int64S k (by omega) f0 (g.1), eqL_Int64SS k (by omega) f1 (g.2.1), eqL_Int64S k (by omega) f2 (g.2.2)]
theorem sBlocks_l (l : List Int) (hl : l.length = 256) (d : Nat) : ∀ (k i : Nat) (n : Int), d < k → 256 - i = d → i ≤ 256 → 0 ≤ n → n ≤ i → spec_l7Blocks.l0 k l n (i : Int) = some ((blkLoop l d i n).getD (-1)) := by
  induction d with
  | zero =>
    intro k i n hk hd hi h0 h1
    obtain ⟨k, rfl⟩ : ∃ m, k = m + 1 := ⟨k - 1, by omega⟩
    simp only [spec_l7Blocks.l0]
    rw [if_neg (by omega)]
    rfl
  | succ d ih =>
    intro k i n hk hd hi h0 h1
    obtain ⟨k, rfl⟩ : ∃ m, k = m + 1 := ⟨k - 1, by omega⟩
    simp only [spec_l7Blocks.l0, sIn, Option.bind_some, decide_eq_true_eq]
    rw [if_pos (by omega), if_pos (by omega), if_pos (by omega)]
    unfold blkLoop
    by_cases hc : 0 ≤ rd l (i : Int) ∧ rd l (i : Int) ≤ n
    · rw [if_pos hc, if_pos hc, w64 (x := rd l (i : Int) + 1) (by omega) (by omega), nat_next (by omega)]
      exact ih k (i + 1) _ (by omega) (by omega) (by omega) (by have := le_mx_left n (rd l (i : Int) + 1); omega) (mx_le (by omega) (by omega))
    · rw [if_neg hc, if_neg hc]
      rfl
theorem sBlocks (l : List Int) (k : Nat) (hk : 300 ≤ k) : spec_l7Blocks.f k l = some ((blocksM l).getD (-1)) := by
  unfold spec_l7Blocks.f blocksM
  by_cases h : l.length = 256
  · rw [if_pos (by omega), if_pos h]
    exact sBlocks_l l h 256 k 0 0 (by omega) (by omega) (by omega) (by omega) (by omega)
  · rw [if_neg (by omega), if_neg h]
    rfl
theorem iBlocks_l (l : List Int) (hl : l.length ≤ 1048576) (d : Nat) : ∀ (k i : Nat) (n : Int), d < k → l.length - i = d → i ≤ l.length → 0 ≤ n → n ≤ i →
    impl_blocksOk.l0 k l (n - 1) l (l.length : Int) (i : Int) = some (match blkLoop l d i n with | some m => (m, ((l.length : Int) == 256)) | none => (0, false)) := by
  induction d with
  | zero =>
    intro k i n hk hd hi h0 h1
    obtain ⟨k, rfl⟩ : ∃ m, k = m + 1 := ⟨k - 1, by omega⟩
    simp only [impl_blocksOk.l0]
    rw [if_neg (by omega), w64 (by omega) (by omega), Int.sub_add_cancel]
    rfl
  | succ d ih =>
    intro k i n hk hd hi h0 h1
    obtain ⟨k, rfl⟩ : ∃ m, k = m + 1 := ⟨k - 1, by omega⟩
    simp only [impl_blocksOk.l0, iWithin, Option.bind_some, decide_eq_true_eq]
    rw [if_pos (by omega), if_pos (by omega), if_pos (by omega), w64 (x := n - 1 + 1) (by omega) (by omega), Int.sub_add_cancel]
    unfold blkLoop
    by_cases hc : 0 ≤ rd l (i : Int) ∧ rd l (i : Int) ≤ n
    · rw [if_pos hc, if_pos hc, nat_next (by omega)]
      have e : mx (n - 1) (rd l (i : Int)) = mx n (rd l (i : Int) + 1) - 1 := by unfold mx; split <;> split <;> omega
      rw [e]
      exact ih k (i + 1) _ (by omega) (by omega) (by omega) (by have := le_mx_left n (rd l (i : Int) + 1); omega) (mx_le (by omega) (by omega))
    · rw [if_neg hc, if_neg hc]
/-- what the program's blocksOk tells -/
theorem iBlocks (l : List Int) (hl : l.length ≤ 1048576) (k : Nat) (hk : 1048578 ≤ k) : ∃ r, impl_blocksOk.f k l = some r ∧ r.2 = (blocksM l).isSome ∧ ∀ m, blocksM l = some m → r.1 = m := by
  unfold impl_blocksOk.f
  have e : impl_blocksOk.l0 k l (-1) l (l.length : Int) 0 = _ := iBlocks_l l hl l.length k 0 0 (by omega) (by omega) (by omega) (by omega) (by omega)
  refine ⟨_, e, ?_, ?_⟩
  · unfold blocksM
    by_cases h : l.length = 256
    · rw [if_pos h, h]
      cases blkLoop l 256 0 0 <;> rfl
    · rw [if_neg h]
      cases blkLoop l l.length 0 0
      · rfl
      · show ((l.length : Int) == 256) = false
        rw [beq_eq_false_iff_ne]
        omega
  · intro m hm
    unfold blocksM at hm
    by_cases h : l.length = 256
    · rw [if_pos h] at hm
      rw [h, hm]
    · rw [if_neg h] at hm
      exact absurd hm (by simp)
theorem rdL_row (nx : List (List Int)) (i : Int) : rd_L1 nx i = drow nx i.toNat := rfl
def cellP (nx : List (List Int)) (s : Nat) (j : Nat) : Prop := 0 ≤ rd (drow nx s) (j : Int) ∧ rd (drow nx s) (j : Int) ≤ (nx.length : Int) - 1
open Classical in
theorem sDfa_l1 (b : List Int) (nx : List (List Int)) (acc : List Int) (hn : 1 ≤ nx.length ∧ nx.length ≤ 1000) (m : Int) (s : Nat) (hs : s < nx.length) (hm : ((drow nx s).length : Int) = m) (m1 : m ≤ 256) (K : Nat) (Q : Prop)
    (H : ∀ k, K < k → spec_DfaOk.l0 k (nx.length : Int) m ((s + 1 : Nat) : Int) b nx acc = some (decide Q)) (d : Nat) : ∀ (k j : Nat), d + K + 1 < k → (drow nx s).length - j = d → j ≤ (drow nx s).length →
    spec_DfaOk.l1 k (nx.length : Int) m (s : Int) (j : Int) b nx acc = some (decide (fromN (cellP nx s) (drow nx s).length j ∧ Q)) := by
  induction d with
  | zero =>
    intro k j hk hd hj
    obtain ⟨k, rfl⟩ : ∃ m, k = m + 1 := ⟨k - 1, by omega⟩
    simp only [spec_DfaOk.l1]
    rw [if_neg (by omega), nat_next (by omega), H k (by omega)]
    exact congrArg some (decide_eq_decide.2 ⟨fun h => ⟨fromN_end (by omega), h⟩, fun h => h.2⟩)
  | succ d ih =>
    intro k j hk hd hj
    obtain ⟨k, rfl⟩ : ∃ m, k = m + 1 := ⟨k - 1, by omega⟩
    have hlt : j < (drow nx s).length := by omega
    have es : ((s : Nat) : Int).toNat = s := by omega
    simp only [spec_DfaOk.l1, sIn, Option.bind_some, decide_eq_true_eq, rdL_row, es]
    rw [if_pos (by omega), if_pos (by omega), if_pos (by omega), if_pos (by omega), if_pos (by omega), w64 (x := (nx.length : Int) - 1) (by omega) (by omega), nat_next (by omega)]
    by_cases h1 : 0 ≤ rd (drow nx s) (j : Int) ∧ rd (drow nx s) (j : Int) ≤ (nx.length : Int) - 1
    · rw [if_pos h1, ih k (j + 1) (by omega) (by omega) (by omega)]; exact congrArg some (decide_eq_decide.2 (fromN_go hlt h1))
    · rw [if_neg h1, decide_eq_false (fromN_no hlt h1)]
open Classical in
theorem sDfa_l0 (b : List Int) (nx : List (List Int)) (acc : List Int) (hn : 1 ≤ nx.length ∧ nx.length ≤ 1000) (ha : acc.length = nx.length) (m : Int) (m1 : m ≤ 256) (d : Nat) : ∀ (k s : Nat), d * 300 < k → nx.length - s = d → s ≤ nx.length →
    spec_DfaOk.l0 k (nx.length : Int) m (s : Int) b nx acc = some (decide (fromN (rowP nx m acc) nx.length s)) := by
  induction d with
  | zero =>
    intro k s hk hd hs
    obtain ⟨k, rfl⟩ : ∃ m, k = m + 1 := ⟨k - 1, by omega⟩
    simp only [spec_DfaOk.l0]
    rw [if_neg (by omega), decide_eq_true (fromN_end (by omega))]
  | succ d ih =>
    intro k s hk hd hs
    obtain ⟨k, rfl⟩ : ∃ m, k = m + 2 := ⟨k - 2, by omega⟩
    have hlt : s < nx.length := by omega
    have es : ((s : Nat) : Int).toNat = s := by omega
    have hst := fromN_step (P := rowP nx m acc) hlt
    simp only [spec_DfaOk.l0, sIn, Option.bind_some, decide_eq_true_eq, rdL_row, es]
    rw [if_pos (by omega), if_pos (by omega), if_pos (by omega)]
    by_cases h1 : -1 ≤ rd acc (s : Int) ∧ rd acc (s : Int) ≤ 39
    · rw [if_pos h1, if_pos (by omega)]
      by_cases h2 : ((drow nx s).length : Int) = m
      · rw [bne_eq_false_iff_eq.2 h2]
        simp only [spec_DfaOk.j2]
        rw [if_neg (by simp)]
        have e : spec_DfaOk.l1 k (nx.length : Int) m (s : Int) 0 b nx acc = _ := sDfa_l1 b nx acc hn m s hlt h2 m1 (d * 300) _ (fun k hk => ih k (s + 1) hk (by omega) (by omega)) (drow nx s).length k 0 (by omega) (by omega) (by omega)
        rw [e]
        refine congrArg some (decide_eq_decide.2 ⟨fun h => hst.2 ⟨⟨h1, h2, fun i hi => h.1 i (by omega) hi⟩, h.2⟩, fun h => ⟨fun i _ hi => (hst.1 h).1.2.2 i hi, (hst.1 h).2⟩⟩)
      · rw [bne_iff_ne.2 h2]
        simp only [spec_DfaOk.j2]
        rw [if_pos trivial, decide_eq_false (fun h => h2 (hst.1 h).1.2.1)]
    · rw [if_neg h1]
      simp only [spec_DfaOk.j2]
      rw [if_pos trivial, decide_eq_false (fun h => h1 (hst.1 h).1.1)]
open Classical in
theorem sDfaOk (b : List Int) (nx : List (List Int)) (acc : List Int) (k : Nat) (hk : 400000 ≤ k) : spec_DfaOk.f k b nx acc = some (decide (dfaOk b nx acc)) := by
  obtain ⟨k, rfl⟩ : ∃ m, k = m + 1 := ⟨k - 1, by omega⟩
  unfold spec_DfaOk.f
  rw [sBlocks b _ (by omega)]
  simp only [Option.bind_some]
  have no : ∀ x, ¬ dfaOk b nx acc → spec_DfaOk.j0 (k + 1) (nx.length : Int) x true b nx acc = some (decide (dfaOk b nx acc)) := by
    intro x h
    rw [decide_eq_false h]
    simp [spec_DfaOk.j0]
  by_cases h1 : (nx.length : Int) < 1
  · rw [if_pos h1]
    exact no _ (fun ⟨m, _, g, _⟩ => by omega)
  · rw [if_neg h1]
    by_cases h2 : (nx.length : Int) > 1000
    · rw [if_pos h2]
      exact no _ (fun ⟨m, _, g, _⟩ => by omega)
    · rw [if_neg h2]
      by_cases h3 : (acc.length : Int) = (nx.length : Int)
      · rw [if_pos h3]
        cases hb : blocksM b with
        | none =>
          rw [decide_eq_true (by simp)]
          exact no _ (fun ⟨m, g, _, _⟩ => by rw [hb] at g; exact absurd g (by simp))
        | some m =>
          have hm := blocksM_some hb
          rw [decide_eq_false (by simp; omega)]
          simp only [spec_DfaOk.j0, Option.getD_some]
          rw [if_neg (by simp)]
          have e : spec_DfaOk.l0 k (nx.length : Int) m 0 b nx acc = _ := sDfa_l0 b nx acc (by omega) (by omega) m (by omega) nx.length k 0 (by omega) (by omega) (by omega)
          rw [e]
          exact congrArg some (decide_eq_decide.2 (dfaOk_iff hb (by omega)).symm)
      · rw [if_neg h3]
        exact no _ (fun ⟨m, _, g, _⟩ => by omega)
theorem drow_mem {nx : List (List Int)} {P : List Int → Prop} : (∀ row ∈ nx, P row) ↔ ∀ i, i < nx.length → P (drow nx i) := by
  unfold drow
  constructor
  · intro h i hi
    rw [List.getD_eq_getElem?_getD, List.getElem?_eq_getElem hi]
    exact h _ (List.getElem_mem hi)
  · intro h x hx
    obtain ⟨i, hi, rfl⟩ := List.mem_iff_getElem.1 hx
    have := h i hi
    rw [List.getD_eq_getElem?_getD, List.getElem?_eq_getElem hi] at this
    exact this
open Classical in
theorem iDfaOk (b : List Int) (nx : List (List Int)) (acc : List Int) (hbl : b.length ≤ 1048576) (k : Nat) (hk : 1300000 ≤ k) : impl_DfaOk.f k b nx acc = some (decide (dfaOk b nx acc)) := by
  obtain ⟨⟨m', ok⟩, er, r2, r1⟩ := iBlocks b hbl k (by omega)
  unfold impl_DfaOk.f
  by_cases h1 : 1 ≤ (nx.length : Int) ∧ (nx.length : Int) ≤ 1000
  · rw [if_pos h1]
    by_cases h2 : (acc.length : Int) = (nx.length : Int)
    · rw [if_pos h2]
      by_cases h3 : ∀ x ∈ acc, -1 ≤ x ∧ x ≤ 39
      · rw [if_pos h3, er]
        simp only [Option.bind_some]
        simp only at r2
        rw [r2]
        cases hb : blocksM b with
        | none =>
          rw [if_neg (by simp), decide_eq_false (fun ⟨m, g, _, _⟩ => by rw [hb] at g; exact absurd g (by simp))]
        | some m =>
          have e := r1 m hb
          simp only at e
          subst e
          rw [if_pos (by simp)]
          refine congrArg some (decide_eq_decide.2 ?_)
          rw [dfaOk_iff hb (by omega), drow_mem]
          rw [inR_mem] at h3
          constructor
          · intro h i _ hi
            have := h i hi
            exact ⟨h3 i (by omega), this.1, (inR_mem _ _ _).1 this.2⟩
          · intro h i hi
            have := h i (by omega) hi
            exact ⟨this.2.1, (inR_mem _ _ _).2 this.2.2⟩
      · rw [if_neg h3, decide_eq_false]
        rintro ⟨m, _, g, h⟩
        rw [inR_mem] at h3
        exact h3 (fun i hi => (h i (by omega) (by omega)).1)
    · rw [if_neg h2, decide_eq_false (fun ⟨m, _, g, _⟩ => by omega)]
  · rw [if_neg h1, decide_eq_false (fun ⟨m, _, g, _⟩ => by omega)]
/-- where the marks of a row of rows begin -/
def offI (x : List (List Int)) (m : Int) : Nat → Int
  | 0 => m
  | i + 1 => offI x m i + ((x.getD i []).length : Int)
theorem rowI {x : List (List Int)} (h : ∀ row ∈ x, row.length ≤ 1048576) (i : Nat) : (x.getD i []).length ≤ 1048576 := by
  rw [List.getD_eq_getElem?_getD]
  by_cases hi : i < x.length
  · rw [List.getElem?_eq_getElem hi]; exact h _ (List.getElem_mem hi)
  · rw [List.getElem?_eq_none (by omega)]; simp
theorem offI_rng {x : List (List Int)} (h : ∀ row ∈ x, row.length ≤ 1048576) (m : Int) : ∀ i, m ≤ offI x m i ∧ offI x m i ≤ m + 1048576 * (i : Int)
  | 0 => by simp [offI]
  | i + 1 => by have := offI_rng h m i; have := rowI h i; simp only [offI]; omega
def markedI (c : Int) (y : List Int) : Prop := ∀ j : Nat, (0 : Int) ≤ (j : Int) → j < y.length → y.getD j 0 = c + ((j : Int) - 0)
theorem getD_set_ri (l : List (List Int)) (a : Nat) (v : List Int) (j : Nat) (h : a < l.length) : (l.set a v).getD j [] = if a = j then v else l.getD j [] := by
  rw [List.getD_eq_getElem?_getD, List.getD_eq_getElem?_getD, List.getElem?_set]
  by_cases e : a = j
  · subst e; simp [h]
  · simp [e]
theorem markISS_l (x : List (List Int)) (hx : x.length ≤ 1048576) (h4 : ∀ row ∈ x, row.length ≤ 1048576) (m : Int) (m0 : 0 ≤ m ∧ m ≤ 1099511627776) (d : Nat) : ∀ (k i : Nat) (y : List (List Int)), d + 1048580 < k → x.length - i = d → i ≤ x.length → y.length = x.length → (∀ j, (y.getD j []).length = (x.getD j []).length) → (∀ j, j < i → markedI (offI x m j) (y.getD j [])) →
    ∃ y', laws_markInt64SS.l0 k y (offI x m i) (i : Int) = some (offI x m x.length, y') ∧ y'.length = x.length ∧ (∀ j, (y'.getD j []).length = (x.getD j []).length) ∧ (∀ j, j < x.length → markedI (offI x m j) (y'.getD j [])) := by
  induction d with
  | zero =>
    intro k i y hk hd hi hy hl hm
    obtain ⟨k, rfl⟩ : ∃ m, k = m + 1 := ⟨k - 1, by omega⟩
    obtain rfl : i = x.length := by omega
    exact ⟨y, by rw [laws_markInt64SS.l0, if_neg (by omega)], hy, hl, hm⟩
  | succ d ih =>
    intro k i y hk hd hi hy hl hm
    obtain ⟨k, rfl⟩ : ∃ m, k = m + 1 := ⟨k - 1, by omega⟩
    have o := offI_rng h4 m i
    have r4 := rowI h4 i
    have hli := hl i
    obtain ⟨z, e, z1, _, z2⟩ := markInt64S_l (y.getD i []).length k (y.getD i []) (offI x m i) 0 (by omega) (by omega) (by omega) (by omega) (by omega) (by omega) (by omega)
    have e' : laws_markInt64S.f k (y.getD i []) (offI x m i) = some (offI x m (i + 1), z) := by
      unfold laws_markInt64S.f
      rw [e, hli]
      rfl
    rw [laws_markInt64SS.l0, if_pos (by omega), if_pos (by omega), Int.toNat_natCast, e', Option.bind_some, nat_next (by omega)]
    refine ih k (i + 1) (y.set i z) (by omega) (by omega) (by omega) (by rw [List.length_set]; exact hy) (fun j => ?_) (fun j hj => ?_)
    · rw [getD_set_ri _ _ _ _ (by omega)]
      split
      · rename_i q; subst q; rw [z1, hli]
      · exact hl j
    · rw [getD_set_ri _ _ _ _ (by omega)]
      split
      · rename_i q; subst q; intro j' h0 h1; exact z2 j' h0 (by omega)
      · exact hm j (by omega)
theorem rdLI (y : List (List Int)) (i : Nat) : rd_L1 y (i : Int) = y.getD i [] := by
  unfold rd_L1
  rw [Int.toNat_natCast]
/-- marks of a row, and that they are held -/
theorem mkI_l (d : Nat) : ∀ (l : List Int) (m : Int) (i : Nat), l.length - i = d → i ≤ l.length → l.length ≤ 1099511627776 → 0 ≤ m → m + d ≤ 4611686018427387904 →
    ∃ l', l'.length = l.length ∧ (∀ j, j < i → rd l' (j : Int) = rd l (j : Int)) ∧ ∀ k, d < k → laws_markInt64S.l0 k l m (i : Int) = some (m + d, l') ∧ laws_heldInt64S.l0 k l' m (i : Int) = some (m + d) := by
  induction d with
  | zero =>
    intro l m i hd hi hl hm hmd
    refine ⟨l, rfl, fun _ _ => rfl, fun k hk => ?_⟩
    obtain ⟨k, rfl⟩ : ∃ m, k = m + 1 := ⟨k - 1, by omega⟩
    rw [laws_markInt64S.l0, laws_heldInt64S.l0, if_neg (by omega), if_neg (by omega)]
    exact ⟨by simp, by simp⟩
  | succ d ih =>
    intro l m i hd hi hl hm hmd
    obtain ⟨l', h1, h2, h3⟩ := ih (l.set i m) (m + 1) (i + 1) (by rw [List.length_set]; omega) (by rw [List.length_set]; omega) (by rw [List.length_set]; omega) (by omega) (by omega)
    rw [List.length_set] at h1
    have hri : rd l' (i : Int) = m := by
      rw [h2 i (by omega)]
      unfold rd
      rw [Int.toNat_natCast, List.getD_eq_getElem?_getD, List.getElem?_set_self (by omega)]; rfl
    refine ⟨l', h1, fun j hj => ?_, fun k hk => ?_⟩
    · rw [h2 j (by omega)]
      unfold rd
      rw [Int.toNat_natCast, List.getD_eq_getElem?_getD, List.getD_eq_getElem?_getD, List.getElem?_set_ne (by omega)]
    · obtain ⟨k, rfl⟩ : ∃ m, k = m + 1 := ⟨k - 1, by omega⟩
      obtain ⟨h4, h5⟩ := h3 k (by omega)
      rw [laws_markInt64S.l0, laws_heldInt64S.l0, if_pos (by omega), if_pos (by omega), if_pos (by omega), if_pos (by omega), if_pos hri, nat_next (by omega), w64 (x := m + 1) (by omega) (by omega), Int.toNat_natCast, h4, h5]
      exact ⟨by congr 2; omega, by congr 1; omega⟩
theorem mkI (l : List Int) (hl : l.length ≤ 1099511627776) (m : Int) (hm : 0 ≤ m) (hm2 : m ≤ 4000000000000000000) :
    ∃ l', l'.length = l.length ∧ ∀ k, l.length < k → laws_markInt64S.f k l m = some (m + l.length, l') ∧ laws_heldInt64S.f k l' m = some (m + l.length) := by
  obtain ⟨l', h1, _, h3⟩ := mkI_l l.length l m 0 (by omega) (by omega) hl hm (by omega)
  exact ⟨l', h1, h3⟩
theorem getD_setI (l : List Int) (a : Nat) (v : Int) (j : Nat) (h : a < l.length) : (l.set a v).getD j 0 = if a = j then v else l.getD j 0 := by
  rw [List.getD_eq_getElem?_getD, List.getD_eq_getElem?_getD, List.getElem?_set]
  by_cases e : a = j
  · subst e; simp [h]
  · simp [e]
theorem rdI (l : List Int) (j : Nat) : rd l (j : Int) = l.getD j 0 := by unfold rd; rw [Int.toNat_natCast]
theorem rdI' (l : List Int) (x : Int) : rd l x = l.getD x.toNat 0 := rfl
/-- the counts -/
theorem sDef_l0 (row : List Int) (n : Nat) (hn : n ≤ 1000000) (hr : row.length ≤ 1000000) (h0 : ∀ x ∈ row, 0 ≤ x ∧ x < n) (K : Nat) (d : Nat) : ∀ (i : Nat) (c : List Int), row.length - i = d → i ≤ row.length → c.length = n → (∀ j, j < n → c.getD j 0 = (((row.take i).count (j : Int) : Nat) : Int)) →
    ∃ c', c'.length = n ∧ (∀ j, j < n → c'.getD j 0 = ((row.count (j : Int) : Nat) : Int)) ∧ spec_l10Default.l0 (K + d + 1) row (n : Int) c (i : Int) = spec_l10Default.l1 K (n : Int) c' 0 0 := by
  induction d with
  | zero =>
    intro i c hd hi hc hcc
    refine ⟨c, hc, fun j hj => ?_, ?_⟩
    · rw [hcc j hj, List.take_of_length_le (by omega)]
    · rw [show K + 0 + 1 = K + 1 by omega, spec_l10Default.l0, if_neg (by omega)]
  | succ d ih =>
    intro i c hd hi hc hcc
    have hlt : i < row.length := by omega
    have hx := h0 row[i] (List.getElem_mem hlt)
    have er : rd row (i : Int) = row[i] := by rw [rdI, List.getD_eq_getElem?_getD, List.getElem?_eq_getElem hlt]; rfl
    have hcn : (row.take i).count row[i] ≤ row.length := Nat.le_trans List.count_le_length (by rw [List.length_take]; omega)
    have ecx : rd c row[i] = ((row.take i).count row[i] : Nat) := by
      rw [rdI', hcc row[i].toNat (by omega), Int.toNat_of_nonneg hx.1]
    obtain ⟨c', h1, h2, h3⟩ := ih (i + 1) (c.set row[i].toNat (((row.take i).count row[i] : Nat) + 1)) (by omega) (by omega) (by rw [List.length_set]; exact hc) (fun j hj => by
      rw [getD_setI _ _ _ _ (by omega), List.take_succ_eq_append_getElem hlt, List.count_append, List.count_singleton]
      by_cases e : row[i].toNat = j
      · have e2 : row[i] = (j : Int) := by omega
        rw [if_pos e, e2]
        simp
      · have e2 : ¬ row[i] = (j : Int) := by omega
        rw [if_neg e, hcc j hj, show (row[i] == (j : Int)) = false from beq_eq_false_iff_ne.2 e2]
        simp)
    refine ⟨c', h1, h2, ?_⟩
    rw [show K + (d + 1) + 1 = (K + d + 1) + 1 by omega, spec_l10Default.l0, if_pos (by omega), if_pos (by omega), er, if_pos (by omega), if_pos (by omega), nat_next (by omega), ecx, w64 (by omega) (by omega)]
    exact h3
/-- the best of the counts -/
theorem sDef_l1 (row : List Int) (n : Nat) (hn : n ≤ 1000000) (c : List Int) (hc : c.length = n) (hcc : ∀ j, j < n → c.getD j 0 = ((row.count (j : Int) : Nat) : Int)) (d : Nat) : ∀ (k i b : Nat), d < k → n - i = d → i ≤ n → b < n → b ≤ i → (∀ j, j < i → row.count (j : Int) < row.count (b : Int) ∨ (row.count (j : Int) = row.count (b : Int) ∧ b ≤ j)) →
    ∃ r : Nat, r < n ∧ spec_l10Default.l1 k (n : Int) c (b : Int) (i : Int) = some (r : Int) ∧ ∀ j, j < n → row.count (j : Int) < row.count (r : Int) ∨ (row.count (j : Int) = row.count (r : Int) ∧ r ≤ j) := by
  induction d with
  | zero =>
    intro k i b hk hd hi hb hbi hbb
    obtain ⟨k, rfl⟩ : ∃ m, k = m + 1 := ⟨k - 1, by omega⟩
    obtain rfl : i = n := by omega
    exact ⟨b, hb, by rw [spec_l10Default.l1, if_neg (by omega)], hbb⟩
  | succ d ih =>
    intro k i b hk hd hi hb hbi hbb
    obtain ⟨k, rfl⟩ : ∃ m, k = m + 1 := ⟨k - 1, by omega⟩
    rw [spec_l10Default.l1, if_pos (by omega), if_pos (by omega), if_pos (by omega), if_pos (by omega), if_pos (by omega), rdI, rdI, hcc i (by omega), hcc b hb, nat_next (by omega)]
    by_cases g : row.count (b : Int) < row.count (i : Int)
    · rw [if_pos (by omega)]
      refine ih k (i + 1) i (by omega) (by omega) (by omega) (by omega) (by omega) (fun j hj => ?_)
      rcases Nat.lt_or_eq_of_le (Nat.le_of_lt_succ hj) with q | q
      · have := hbb j q; omega
      · subst q; exact .inr ⟨rfl, Nat.le_refl _⟩
    · rw [if_neg (by omega)]
      refine ih k (i + 1) b (by omega) (by omega) (by omega) hb (by omega) (fun j hj => ?_)
      rcases Nat.lt_or_eq_of_le (Nat.le_of_lt_succ hj) with q | q
      · exact hbb j q
      · subst q
        by_cases e : row.count (j : Int) = row.count (b : Int)
        · exact .inr ⟨e, hbi⟩
        · left; omega
/-- what a row has most often: the program's and the reference's -/
theorem most_both (row : List Int) (n : Nat) (hn : n ≤ 1000000) (h1 : 1 ≤ row.length) (hr : row.length ≤ 1000000) (h0 : ∀ x ∈ row, 0 ≤ x ∧ x < n) : ∃ u : Int, 0 ≤ u ∧ u < n ∧ impl_mostOften.f row = some u ∧ ∀ k, 2100000 ≤ k → spec_l10Default.f k row (n : Int) = some u := by
  obtain ⟨x, hx⟩ : ∃ x, x ∈ row := ⟨row[0], List.getElem_mem (by omega)⟩
  have hxn := h0 x hx
  refine ⟨mostM row, ?_⟩
  have hm := mostM_is row (fun y hy => (h0 y hy).1)
  have key : ∀ k, 2100000 ≤ k → spec_l10Default.f k row (n : Int) = some (mostM row) := by
    intro k hk
    unfold spec_l10Default.f
    rw [if_pos (by omega), if_pos (by omega), Int.toNat_natCast]
    obtain ⟨c', q1, q2, q3⟩ := sDef_l0 row n hn hr h0 (k - row.length - 1) row.length 0 (List.replicate n 0) (by omega) (by omega) (by simp) (fun j hj => by
      rw [List.getD_eq_getElem?_getD, List.getElem?_replicate, if_pos hj]; simp)
    rw [show k = k - row.length - 1 + row.length + 1 by omega]
    have e : spec_l10Default.l0 (k - row.length - 1 + row.length + 1) row (n : Int) (List.replicate n 0) 0 = _ := q3
    rw [e]
    obtain ⟨r, r1, r2, r3⟩ := sDef_l1 row n hn c' q1 q2 n (k - row.length - 1) 0 0 (by omega) (by omega) (by omega) (by omega) (by omega) (fun j hj => by omega)
    have e2 : spec_l10Default.l1 (k - row.length - 1) (n : Int) c' 0 0 = some (r : Int) := r2
    rw [e2]
    congr 1
    have hcx : 1 ≤ row.count x := List.count_pos_iff.2 hx
    have hrr : (r : Int) ∈ row := by
      apply List.count_pos_iff.1
      have := r3 x.toNat (by omega)
      rw [Int.toNat_of_nonneg hxn.1] at this
      omega
    refine IsMost.uniq (l := row) ?_ hm
    refine .inr ⟨by omega, hrr, trivial, fun y hy _ => ?_⟩
    have hy0 := h0 y hy
    have := r3 y.toNat (by omega)
    rw [Int.toNat_of_nonneg hy0.1] at this
    omega
  have hmem : 0 ≤ mostM row ∧ mostM row ∈ row := by
    rcases hm with ⟨_, h⟩ | ⟨a, b, _⟩
    · exact absurd trivial (h x hx)
    · exact ⟨a, b⟩
  have hu := h0 _ hmem.2
  refine ⟨hu.1, hu.2, ?_, key⟩
  unfold impl_mostOften.f
  rw [if_pos]
  refine ⟨fun y hy => ?_, by omega⟩
  have := h0 y hy
  refine ⟨this.1, ?_⟩
  simp [Lit.wf, IntKind.min, IntKind.max, IntKind.signed, IntKind.bits]
  omega
/-- whether a row's marks meet what is there -/
theorem sMeets_l (ck row : List Int) (u : Int) (b : Int) (hb : 0 ≤ b ∧ b ≤ 1000000000) (hr : row.length ≤ 1000000) (d : Nat) : ∀ (k i : Nat), d < k → row.length - i = d → i ≤ row.length → (marksI row u i).any (meetsB ck b) = false →
    spec_l10Meets.l0 k ck row u b (i : Int) = some ((marksI row u row.length).any (meetsB ck b)) := by
  induction d with
  | zero =>
    intro k i hk hd hi hm
    obtain ⟨k, rfl⟩ : ∃ m, k = m + 1 := ⟨k - 1, by omega⟩
    obtain rfl : i = row.length := by omega
    rw [spec_l10Meets.l0, if_neg (by omega), hm]
  | succ d ih =>
    intro k i hk hd hi hm
    obtain ⟨k, rfl⟩ : ∃ m, k = m + 1 := ⟨k - 1, by omega⟩
    rw [spec_l10Meets.l0, if_pos (by omega), if_pos (by omega), rdI, w64 (x := b + (i : Int)) (by omega) (by omega), nat_next (by omega)]
    by_cases e : row.getD i 0 = u
    · rw [if_pos e]
      exact ih k (i + 1) (by omega) (by omega) (by omega) (by rw [marksI_succ, if_neg (by simpa using e)]; exact hm)
    · rw [if_neg e]
      have step : meetsB ck b (i : Int) = false → spec_l10Meets.l0 k ck row u b ((i + 1 : Nat) : Int) = some ((marksI row u row.length).any (meetsB ck b)) := fun q =>
        ih k (i + 1) (by omega) (by omega) (by omega) (by rw [marksI_succ, if_pos e, List.any_append, hm, List.any_cons, q]; rfl)
      by_cases c : b + (i : Int) < (ck.length : Int)
      · rw [if_pos c, if_pos (by omega)]
        by_cases g : rd ck (b + (i : Int)) ≥ 0
        · rw [if_pos g]
          congr 1
          symm
          rw [List.any_eq_true]
          exact ⟨(i : Int), marksI_mem e (by omega), by unfold meetsB; rw [decide_eq_true c, decide_eq_true g]; rfl⟩
        · rw [if_neg g]
          exact step (by unfold meetsB; rw [decide_eq_false g, Bool.and_false])
      · rw [if_neg c]
        exact step (by unfold meetsB; rw [decide_eq_false c, Bool.false_and])
theorem sMeets (ck row : List Int) (u : Int) (b : Int) (hb : 0 ≤ b ∧ b ≤ 1000000000) (hr : row.length ≤ 1000000) (k : Nat) (hk : row.length < k) : spec_l10Meets.f k ck row u b = some ((marksI row u row.length).any (meetsB ck b)) := by
  unfold spec_l10Meets.f
  exact sMeets_l ck row u b hb hr row.length k 0 hk (by omega) (by omega) (by simp [marksI])
/-- the least base: both search alike -/
theorem base_l (ck row : List Int) (u : Int) (hr : row.length ≤ 1000000) (hc : ck.length ≤ 200000) (d : Nat) : ∀ (b : Nat), ck.length + 1 - b = d → b ≤ ck.length →
    ∃ r : Nat, r ≤ ck.length ∧ ∀ k, row.length + d + 1 < k → spec_Pack.l1 k ck row u (b : Int) = some (r : Int) ∧ impl_baseFor.l0 k ck (marksI row u row.length) (b : Int) = some (r : Int) := by
  induction d with
  | zero => intro b hd hb; omega
  | succ d ih =>
    intro b hd hb
    by_cases m : (marksI row u row.length).any (meetsB ck (b : Int)) = true
    · have hlt : b < ck.length := by
        obtain ⟨x, hx, h⟩ := List.any_eq_true.1 m
        have := marksI_rng row u row.length x hx
        unfold meetsB at h
        rw [Bool.and_eq_true] at h
        have := of_decide_eq_true h.1
        omega
      obtain ⟨r, r1, r2⟩ := ih (b + 1) (by omega) (by omega)
      refine ⟨r, r1, fun k hk => ?_⟩
      obtain ⟨k, rfl⟩ : ∃ m, k = m + 1 := ⟨k - 1, by omega⟩
      obtain ⟨r3, r4⟩ := r2 k (by omega)
      rw [spec_Pack.l1, impl_baseFor.l0, if_pos (by omega), if_pos (by omega), if_pos m, sMeets ck row u b (by omega) hr k (by omega), Option.bind_some, if_pos m, show (b : Int) + 1 = ((b + 1 : Nat) : Int) by omega]
      exact ⟨r3, r4⟩
    · refine ⟨b, hb, fun k hk => ?_⟩
      obtain ⟨k, rfl⟩ : ∃ m, k = m + 1 := ⟨k - 1, by omega⟩
      rw [spec_Pack.l1, impl_baseFor.l0, if_pos (by omega), if_pos (by omega), if_neg m, sMeets ck row u b (by omega) hr k (by omega), Option.bind_some, if_neg m]
      exact ⟨rfl, rfl⟩
theorem base_both (ck row : List Int) (u : Int) (hr : row.length ≤ 1000000) (hc : ck.length ≤ 200000) :
    ∃ r : Nat, r ≤ ck.length ∧ ∀ k, 1300000 ≤ k → spec_Pack.l1 k ck row u 0 = some (r : Int) ∧ impl_baseFor.f k ck (marksI row u row.length) = some (r : Int) := by
  obtain ⟨r, r1, r2⟩ := base_l ck row u hr hc (ck.length + 1) 0 (by omega) (by omega)
  by_cases hz : (marksI row u row.length).length = 0
  · refine ⟨0, by omega, fun k hk => ?_⟩
    obtain ⟨k, rfl⟩ : ∃ m, k = m + 1 := ⟨k - 1, by omega⟩
    have e : marksI row u row.length = [] := List.length_eq_zero_iff.1 hz
    constructor
    · rw [spec_Pack.l1, if_pos (by omega), sMeets ck row u 0 (by omega) hr k (by omega), Option.bind_some, e, if_neg (by simp)]; rfl
    · unfold impl_baseFor.f
      rw [if_pos hz]; rfl
  · refine ⟨r, r1, fun k hk => ?_⟩
    obtain ⟨r3, r4⟩ := r2 k (by omega)
    refine ⟨r3, ?_⟩
    unfold impl_baseFor.f
    rw [if_neg hz, if_pos (fun m hm => by have := marksI_rng row u row.length m hm; omega)]
    exact r4
/-- how far the marks reach -/
theorem placeM_big (s : Int) (row : List Int) (b : Int) (hb : 0 ≤ b) : ∀ (ms : List Int) (q : List Int × List Int), (∀ m ∈ ms, 0 ≤ m) → q.2.length = q.1.length →
    ((placeM s row b ms q).1.length > 200000 ↔ q.1.length > 200000 ∨ ∃ m ∈ ms, 200000 ≤ b + m)
  | [], q, _, _ => by
    show q.1.length > 200000 ↔ _
    constructor
    · exact .inl
    · rintro (h | ⟨m, hm, _⟩)
      · exact h
      · cases hm
  | m :: r, q, h, he => by
    have h0 := h m (List.mem_cons_self)
    have hl : (place1 s row b q m).1.length = max (b + m + 1).toNat q.1.length := by unfold place1; simp only [List.length_set, padTo_len]
    have hl2 : (place1 s row b q m).2.length = (place1 s row b q m).1.length := by unfold place1; simp only [List.length_set, padTo_len]; omega
    have ih := placeM_big s row b hb r (place1 s row b q m) (fun x hx => h x (List.mem_cons_of_mem _ hx)) hl2
    show (placeM s row b r (place1 s row b q m)).1.length > 200000 ↔ _
    rw [ih, hl]
    constructor
    · rintro (g | ⟨x, hx, g⟩)
      · by_cases e : q.1.length > 200000
        · exact .inl e
        · exact .inr ⟨m, List.mem_cons_self, by omega⟩
      · exact .inr ⟨x, List.mem_cons_of_mem _ hx, g⟩
    · rintro (g | ⟨x, hx, g⟩)
      · left; omega
      · rcases List.mem_cons.1 hx with rfl | hx
        · left; omega
        · exact .inr ⟨x, hx, g⟩
/-- rows laid one behind the other -/
theorem pack_l (x : List (List Int)) (hx : x.length ≤ 1000) (hrow : ∀ s, s < x.length → 1 ≤ (x.getD s []).length ∧ (x.getD s []).length ≤ 256 ∧ ∀ y ∈ x.getD s [], 0 ≤ y ∧ y < x.length) (d : Nat) : ∀ (s : Nat) (bs df ck vl : List Int), x.length - s = d → s ≤ x.length → bs.length = s → df.length = s → vl.length = ck.length → ck.length ≤ 200000 →
    ∃ o1 o2 o3 o4 o5, o1.length ≤ 1000 ∧ o2.length ≤ 1000 ∧ o3.length ≤ 200000 ∧ o4.length ≤ 200000 ∧ ∀ k, 2200000 + d < k → spec_Pack.l0 k x s bs df ck vl = some (o1, o2, o3, o4, o5) ∧ impl_Pack.l0 k x s bs df ck vl = some (o1, o2, o3, o4, o5) := by
  induction d with
  | zero =>
    intro s bs df ck vl hd hs hb hdf hv hc
    refine ⟨bs, df, ck, vl, true, by omega, by omega, by omega, by omega, fun k hk => ?_⟩
    obtain ⟨k, rfl⟩ : ∃ m, k = m + 1 := ⟨k - 1, by omega⟩
    rw [spec_Pack.l0, impl_Pack.l0, if_neg (by omega), if_neg (by omega)]
    exact ⟨rfl, rfl⟩
  | succ d ih =>
    intro s bs df ck vl hd hs hb hdf hv hc
    obtain ⟨r1, r2, r3⟩ := hrow s (by omega)
    obtain ⟨u, u0, u1, u2, u3⟩ := most_both (x.getD s []) x.length (by omega) r1 (by omega) r3
    obtain ⟨b, b1, b2⟩ := base_both ck (x.getD s []) u (by omega) hc
    have hrng := marksI_rng (x.getD s []) u (x.getD s []).length
    have hpl := placeM_len (s := (s : Int)) (row := x.getD s []) (b := (b : Int)) (n := 200257) (marksI (x.getD s []) u (x.getD s []).length) (ck, vl) hv (by simp only; omega) (fun m hm => by have := hrng m hm; omega)
    have hbig := placeM_big (s : Int) (x.getD s []) (b : Int) (by omega) (marksI (x.getD s []) u (x.getD s []).length) (ck, vl) (fun m hm => (hrng m hm).1) hv
    have hgd : (x.getD s []).length ≤ 1000000 ∧ 0 ≤ (b : Int) ∧ (b : Int) ≤ 1000000000 ∧ vl.length = ck.length ∧ ck.length ≤ 2000000000 ∧ bs.length ≤ 1000000000 ∧ df.length ≤ 1000000000 := by omega
    by_cases g : (marksI (x.getD s []) u (x.getD s []).length).any (fun m => decide (200000 ≤ (b : Int) + m)) = true
    · have g2 : (placeM (s : Int) (x.getD s []) (b : Int) (marksI (x.getD s []) u (x.getD s []).length) (ck, vl)).1.length > 200000 := by
        obtain ⟨m, hm, h⟩ := List.any_eq_true.1 g
        exact hbig.2 (.inr ⟨m, hm, of_decide_eq_true h⟩)
      refine ⟨[], [], [], [], false, by simp, by simp, by simp, by simp, fun k hk => ?_⟩
      obtain ⟨k, rfl⟩ : ∃ m, k = m + 1 := ⟨k - 1, by omega⟩
      obtain ⟨b3, b4⟩ := b2 k (by omega)
      rw [spec_Pack.l0, impl_Pack.l0, if_pos (by omega), if_pos (by omega), u2, u3 k (by omega), Option.bind_some, Option.bind_some, b3, b4, Option.bind_some, Option.bind_some, if_pos hgd, if_pos hgd, if_pos g, if_pos g2]
      exact ⟨rfl, rfl⟩
    · have g2 : ¬ (placeM (s : Int) (x.getD s []) (b : Int) (marksI (x.getD s []) u (x.getD s []).length) (ck, vl)).1.length > 200000 := by
        intro q
        rcases hbig.1 q with q | ⟨m, hm, q⟩
        · simp only at q; omega
        · exact g (List.any_eq_true.2 ⟨m, hm, decide_eq_true q⟩)
      obtain ⟨o1, o2, o3, o4, o5, p1, p2, p3, p4, p5⟩ := ih (s + 1) (bs ++ [(b : Int)]) (df ++ [u]) (placeM (s : Int) (x.getD s []) (b : Int) (marksI (x.getD s []) u (x.getD s []).length) (ck, vl)).1 (placeM (s : Int) (x.getD s []) (b : Int) (marksI (x.getD s []) u (x.getD s []).length) (ck, vl)).2 (by omega) (by omega) (by simp; omega) (by simp; omega) hpl.1 (by omega)
      refine ⟨o1, o2, o3, o4, o5, p1, p2, p3, p4, fun k hk => ?_⟩
      obtain ⟨k, rfl⟩ : ∃ m, k = m + 1 := ⟨k - 1, by omega⟩
      obtain ⟨b3, b4⟩ := b2 k (by omega)
      obtain ⟨p6, p7⟩ := p5 k (by omega)
      rw [spec_Pack.l0, impl_Pack.l0, if_pos (by omega), if_pos (by omega), u2, u3 k (by omega), Option.bind_some, Option.bind_some, b3, b4, Option.bind_some, Option.bind_some, if_pos hgd, if_pos hgd, if_neg g, if_neg g2]
      exact ⟨p6, p7⟩
theorem drow_is (nx : List (List Int)) (s : Nat) : nx.getD s [] = drow nx s := rfl
open Classical in
theorem pack_both (b : List Int) (nx : List (List Int)) (acc : List Int) (hb : b.length ≤ 1048576) (_hnx : nx.length ≤ 1048576) (ha : acc.length ≤ 1048576) :
    ∃ p0 p1 p2 p3 p4 p5 ok, p0.length ≤ 1048576 ∧ p1.length ≤ 1048576 ∧ p2.length ≤ 1048576 ∧ p3.length ≤ 1048576 ∧ p4.length ≤ 1048576 ∧ p5.length ≤ 1048576 ∧ ∀ k, 3000000 ≤ k → spec_Pack.f k b nx acc = some (p0, p1, p2, p3, p4, p5, ok) ∧ impl_Pack.f k b nx acc = some (p0, p1, p2, p3, p4, p5, ok) := by
  by_cases hd : dfaOk b nx acc
  · have hd' := hd
    obtain ⟨m, hm, ⟨n1, n2, n3⟩, hrows⟩ := hd
    have hm' := blocksM_some hm
    obtain ⟨o1, o2, o3, o4, o5, q1, q2, q3, q4, q5⟩ := pack_l nx (by omega) (fun s hs => by
      have := hrows s (Nat.zero_le _) hs
      unfold rowP at this
      rw [drow_is]
      refine ⟨by omega, by omega, fun y hy => ?_⟩
      have h2 := (inR_mem _ _ _).2 this.2.2 y hy
      omega) nx.length 0 [] [] [] [] (by omega) (by omega) rfl rfl rfl (by simp)
    cases o5 with
    | true =>
      refine ⟨b, o1, o2, o3, o4, acc, true, hb, by omega, by omega, by omega, by omega, ha, fun k hk => ?_⟩
      obtain ⟨q6, q7⟩ := q5 k (by omega)
      unfold spec_Pack.f impl_Pack.f slices_Clone_int64_int64.f
      rw [sDfaOk b nx acc k (by omega), iDfaOk b nx acc hb k (by omega), Option.bind_some, Option.bind_some, if_pos (decide_eq_true hd'), if_pos (decide_eq_true hd'), if_pos (by omega), if_pos (by omega), if_pos (by omega), Option.bind_some, Option.bind_some, q6, q7]
      exact ⟨rfl, rfl⟩
    | false =>
      refine ⟨[], [], [], [], [], [], false, by simp, by simp, by simp, by simp, by simp, by simp, fun k hk => ?_⟩
      obtain ⟨q6, q7⟩ := q5 k (by omega)
      unfold spec_Pack.f impl_Pack.f slices_Clone_int64_int64.f
      rw [sDfaOk b nx acc k (by omega), iDfaOk b nx acc hb k (by omega), Option.bind_some, Option.bind_some, if_pos (decide_eq_true hd'), if_pos (decide_eq_true hd'), if_pos (by omega), if_pos (by omega), if_pos (by omega), Option.bind_some, Option.bind_some, q6, q7]
      exact ⟨rfl, rfl⟩
  · refine ⟨[], [], [], [], [], [], false, by simp, by simp, by simp, by simp, by simp, by simp, fun k hk => ?_⟩
    unfold spec_Pack.f impl_Pack.f
    rw [sDfaOk b nx acc k (by omega), iDfaOk b nx acc hb k (by omega), Option.bind_some, Option.bind_some, if_neg (by rw [decide_eq_false hd]; decide), if_neg (by rw [decide_eq_false hd]; decide)]
    exact ⟨rfl, rfl⟩
theorem packedMarks (l0 l1 l2 l3 l4 l5 : List Int) (h0 : l0.length ≤ 1048576) (h1 : l1.length ≤ 1048576) (h2 : l2.length ≤ 1048576) (h3 : l3.length ≤ 1048576) (h4 : l4.length ≤ 1048576) (h5 : l5.length ≤ 1048576) (k : Nat) (hk : 2000000 ≤ k) :
    laws_eqPacked.f k l0 l1 l2 l3 l4 l5 l0 l1 l2 l3 l4 l5 = some true ∧ ∃ m z0 z1 z2 z3 z4 z5, laws_markPacked.f k l0 l1 l2 l3 l4 l5 1 = some (m, z0, z1, z2, z3, z4, z5) ∧ laws_heldPacked.f k z0 z1 z2 z3 z4 z5 1 = some m ∧ 0 ≤ m := by
  constructor
  · unfold laws_eqPacked.f
    rw [eqInt64S_same l0 (by omega) k (by omega), Option.bind_some, if_pos rfl, eqInt64S_same l1 (by omega) k (by omega), Option.bind_some, if_pos rfl, eqInt64S_same l2 (by omega) k (by omega), Option.bind_some, if_pos rfl, eqInt64S_same l3 (by omega) k (by omega), Option.bind_some, if_pos rfl, eqInt64S_same l4 (by omega) k (by omega), Option.bind_some, if_pos rfl, eqInt64S_same l5 (by omega) k (by omega), Option.bind_some, if_pos rfl]
  · obtain ⟨z0, _, q0⟩ := mkI l0 (by omega) 1 (by omega) (by omega)
    obtain ⟨z1, _, q1⟩ := mkI l1 (by omega) (1 + l0.length) (by omega) (by omega)
    obtain ⟨z2, _, q2⟩ := mkI l2 (by omega) (1 + l0.length + l1.length) (by omega) (by omega)
    obtain ⟨z3, _, q3⟩ := mkI l3 (by omega) (1 + l0.length + l1.length + l2.length) (by omega) (by omega)
    obtain ⟨z4, _, q4⟩ := mkI l4 (by omega) (1 + l0.length + l1.length + l2.length + l3.length) (by omega) (by omega)
    obtain ⟨z5, _, q5⟩ := mkI l5 (by omega) (1 + l0.length + l1.length + l2.length + l3.length + l4.length) (by omega) (by omega)
    obtain ⟨a0, b0⟩ := q0 k (by omega)
    obtain ⟨a1, b1⟩ := q1 k (by omega)
    obtain ⟨a2, b2⟩ := q2 k (by omega)
    obtain ⟨a3, b3⟩ := q3 k (by omega)
    obtain ⟨a4, b4⟩ := q4 k (by omega)
    obtain ⟨a5, b5⟩ := q5 k (by omega)
    refine ⟨1 + l0.length + l1.length + l2.length + l3.length + l4.length + l5.length, z0, z1, z2, z3, z4, z5, ?_, ?_, by omega⟩
    · unfold laws_markPacked.f
      rw [a0, Option.bind_some, a1, Option.bind_some, a2, Option.bind_some, a3, Option.bind_some, a4, Option.bind_some, a5, Option.bind_some]
    · unfold laws_heldPacked.f
      rw [b0, Option.bind_some, if_neg (by omega), b1, Option.bind_some, if_neg (by omega), b2, Option.bind_some, if_neg (by omega), b3, Option.bind_some, if_neg (by omega), b4, Option.bind_some, if_neg (by omega), b5, Option.bind_some, if_neg (by omega)]
theorem FnExactPack (x : List Int × List (List Int) × List Int) (g0 : gd_Int64S x.1 ∧ gd_Int64SS x.2.1 ∧ gd_Int64S x.2.2) : ∃ k, laws_FnExactPack.f k x.1 x.2.1 x.2.2 = some true := by
  obtain ⟨b, nx, acc⟩ := x
  suffices ∀ k, 10000000 ≤ k → laws_FnExactPack.f k b nx acc = some true from ⟨10000000, this _ (Nat.le_refl _)⟩
  intro k hk
  unfold laws_FnExactPack.f
  obtain ⟨r, e, _, _, h⟩ := szL_Dfa k (by omega) b nx acc g0 1048576 (by omega)
  rw [e, Option.bind_some]
  by_cases hr : r < 0
  · rw [if_pos hr]
  · have hb := h (by omega)
    have hb' : b.length ≤ 1048576 ∧ (nx.length ≤ 1048576 ∧ ∀ y ∈ nx, y.length ≤ 1048576) ∧ acc.length ≤ 1048576 := hb
    rw [if_neg hr, if_pos]
    obtain ⟨p0, p1, p2, p3, p4, p5, ok, h0, h1, h2, h3, h4, h5, hp⟩ := pack_both b nx acc hb'.1 hb'.2.1.1 hb'.2.2
    obtain ⟨hp1, hp2⟩ := hp k (by omega)
    obtain ⟨y0, q0, _⟩ := markInt64S_l b.length k b 1 0 (by omega) (by omega) (by omega) (by omega) (by omega) (by omega) (by omega)
    obtain ⟨y1, q1, _⟩ := markISS_l nx hb'.2.1.1 hb'.2.1.2 (1 + b.length) (by omega) nx.length k 0 nx (by omega) (by omega) (by omega) rfl (fun _ => rfl) (fun j hj => by omega)
    have og := offI_rng hb'.2.1.2 (1 + (b.length : Int)) nx.length
    obtain ⟨y2, q2, _⟩ := markInt64S_l acc.length k acc (offI nx (1 + b.length) nx.length) 0 (by omega) (by omega) (by omega) (by omega) (by omega) (by omega) (by omega)
    obtain ⟨f1, mr, w0, w1, w2, w3, w4, w5, f2, f3, f4⟩ := packedMarks p0 p1 p2 p3 p4 p5 h0 h1 h2 h3 h4 h5 k (by omega)
    refine ⟨b, nx, acc, p0, p1, p2, p3, p4, p5, ok, offI nx (1 + b.length) nx.length + acc.length, y0, y1, y2, mr, w0, w1, w2, w3, w4, w5, toL_Dfa k (by omega) b nx acc hb, hp1, hp2, f1, eqL_Dfa k (by omega) b nx acc hb, ?_, by omega, f2, f3, f4⟩
    unfold laws_markDfa.f
    rw [show laws_markInt64S.f k b 1 = _ from q0, Option.bind_some, show laws_markInt64SS.f k nx (1 + b.length) = _ from q1, Option.bind_some, show laws_markInt64S.f k acc (offI nx (1 + b.length) nx.length) = _ from q2, Option.bind_some]
end Go.Proofs.Ytbijmhooamjgoaa.Pure
