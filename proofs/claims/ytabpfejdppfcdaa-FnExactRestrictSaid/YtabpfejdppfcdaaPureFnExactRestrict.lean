/- The program's Restrict and the reference's come to the same table: whatever the table and the rules. -/
import Derived.Test.YtabpfejdppfcdaaPFnExactRestrictx9
import Derived.Test.YtabpfejdppfcdaaKit
import Derived.Test.YtabpfejdppfcdaaKitTab
namespace Go.Proofs.Ytabpfejdppfcdaa.Pure
open Go.RowKit Go.Proofs.Ytabpfejdppfcdaa.PFnExactRestrict Go.Proofs.YtabpfejdppfcdaaW.PrintWords Go.Proofs.YtabpfejdppfcdaaW.PrintLast Go.Proofs.YtabpfejdppfcdaaW.PrintMore Go.Proofs.Ytabpfejdppfcdaa.Kit
set_option linter.unusedVariables false
theorem sIn (a b c : Int) : spec_l1In.f a b c = some (decide (b ≤ a ∧ a ≤ c)) := by
  unfold spec_l1In.f
  by_cases h : a ≥ b
  · rw [if_pos h]; congr 1; simp; omega
  · rw [if_neg h]; congr 1; simp; omega
theorem iWithin (a b c : Int) : impl_within.f a b c = some (decide (b ≤ a ∧ a ≤ c)) := by
  unfold impl_within.f
  by_cases h : a ≥ b
  · rw [if_pos h]; congr 1; simp; omega
  · rw [if_neg h]; congr 1; simp; omega
/-- two lists of numbers that are one are told alike -/
theorem eqInt64S_l (l : List Int) (hl : (l.length : Int) ≤ 1099511627776) (d : Nat) : ∀ (k : Nat) (i : Int), d < k → 0 ≤ i → (l.length : Int) - i = d → laws_eqInt64S.l0 k l l i = some true := by
  induction d with
  | zero =>
    intro k i hk h0 hd
    obtain ⟨k, rfl⟩ : ∃ m, k = m + 1 := ⟨k - 1, by omega⟩
    simp only [laws_eqInt64S.l0]
    rw [if_neg (by omega)]
  | succ d ih =>
    intro k i hk h0 hd
    obtain ⟨k, rfl⟩ : ∃ m, k = m + 1 := ⟨k - 1, by omega⟩
    simp only [laws_eqInt64S.l0]
    rw [if_pos (by omega), if_pos h0, if_pos (by omega), w64 (by omega) (by omega)]
    exact ih k _ (by omega) (by omega) (by omega)
theorem eqInt64S_same (l : List Int) (hl : (l.length : Int) ≤ 1099511627776) (k : Nat) (hk : l.length < k) : laws_eqInt64S.f k l l = some true := by
  unfold laws_eqInt64S.f
  simp only [if_true]
  exact eqInt64S_l l hl l.length k 0 hk (by omega) (by omega)

/-- what is marked is held: the marks of a list, told by its length alone -/
theorem markInt64S_l (d : Nat) : ∀ (k : Nat) (l : List Int) (m i : Int), d < k → 0 ≤ i → (l.length : Int) - i = d → (l.length : Int) ≤ 1099511627776 → 0 ≤ m → m ≤ 4398046511104 → m + d ≤ 4398046511104 →
    ∃ l', laws_markInt64S.l0 k l m i = some (m + d, l') ∧ l'.length = l.length ∧ (∀ j : Nat, (j : Int) < i → l'.getD j 0 = l.getD j 0) ∧ (∀ j : Nat, i ≤ (j : Int) → j < l.length → l'.getD j 0 = m + ((j : Int) - i)) := by
  induction d with
  | zero =>
    intro k l m i hk h0 hd hl hm hm' hmd
    obtain ⟨k, rfl⟩ : ∃ m, k = m + 1 := ⟨k - 1, by omega⟩
    refine ⟨l, ?_, rfl, fun j _ => rfl, fun j hj hj' => by omega⟩
    simp only [laws_markInt64S.l0]
    rw [if_neg (by omega)]
    simp
  | succ d ih =>
    intro k l m i hk h0 hd hl hm hm' hmd
    obtain ⟨k, rfl⟩ : ∃ m, k = m + 1 := ⟨k - 1, by omega⟩
    obtain ⟨l', e, e1, e2, e3⟩ := ih k (l.set i.toNat m) (m + 1) (i + 1) (by omega) (by omega) (by simp; omega) (by simp; omega) (by omega) (by omega) (by omega)
    refine ⟨l', ?_, by simpa using e1, fun j hj => ?_, fun j hj hj' => ?_⟩
    · simp only [laws_markInt64S.l0]
      rw [if_pos (by omega), if_pos h0, w64 (x := m + 1) (by omega) (by omega), w64 (by omega) (by omega), e]
      congr 2
      omega
    · rw [e2 j (by omega), List.getD_eq_getElem?_getD, List.getD_eq_getElem?_getD, List.getElem?_set_ne (by omega)]
    · by_cases hji : (j : Int) = i
      · rw [e2 j (by omega)]
        have : i.toNat = j := by omega
        rw [this, List.getD_eq_getElem?_getD, List.getElem?_set_self hj']
        simp; omega
      · rw [e3 j (by omega) (by simpa using hj')]
        omega
theorem heldInt64S_l (l : List Int) (hl : (l.length : Int) ≤ 1099511627776) (d : Nat) : ∀ (k : Nat) (m i : Int), d < k → 0 ≤ i → (l.length : Int) - i = d → 0 ≤ m → m + d ≤ 4398046511104 →
    (∀ j : Nat, i ≤ (j : Int) → j < l.length → l.getD j 0 = m + ((j : Int) - i)) → laws_heldInt64S.l0 k l m i = some (m + d) := by
  induction d with
  | zero =>
    intro k m i hk h0 hd hm hmd _
    obtain ⟨k, rfl⟩ : ∃ m, k = m + 1 := ⟨k - 1, by omega⟩
    simp only [laws_heldInt64S.l0]
    rw [if_neg (by omega)]
    simp
  | succ d ih =>
    intro k m i hk h0 hd hm hmd hj
    obtain ⟨k, rfl⟩ : ∃ m, k = m + 1 := ⟨k - 1, by omega⟩
    have hi := hj i.toNat (by omega) (by omega)
    simp only [laws_heldInt64S.l0]
    rw [if_pos (by omega), if_pos h0, if_pos (by unfold rd; omega), w64 (x := m + 1) (by omega) (by omega), w64 (by omega) (by omega), ih k _ _ (by omega) (by omega) (by omega) (by omega) (by omega) (fun j h h' => by rw [hj j (by omega) h']; omega)]
    congr 1
    omega
/-- the marks of a list, and that they are held -/
theorem markInt64S_held (l : List Int) (hl : (l.length : Int) ≤ 1099511627776) (m : Int) (hm : 0 ≤ m) (hm' : m ≤ 2199023255552) : ∃ l', ∀ k, l.length < k →
    laws_markInt64S.f k l m = some (m + l.length, l') ∧ laws_heldInt64S.f k l' m = some (m + l.length) := by
  obtain ⟨l', e, e1, _, e3⟩ := markInt64S_l l.length (l.length + 1) l m 0 (by omega) (by omega) (by omega) hl hm (by omega) (by omega)
  refine ⟨l', fun k hk => ⟨?_, ?_⟩⟩
  · obtain ⟨l2, f, _⟩ := markInt64S_l l.length k l m 0 hk (by omega) (by omega) hl hm (by omega) (by omega)
    have : laws_markInt64S.l0 k l m 0 = some (m + l.length, l') := at_rounds (g := fun k => laws_markInt64S.l0 k l m 0) (fun k => laws_markInt64S.mono_l k _ _ _) (by omega : l.length + 1 ≤ k) e
    exact this
  · unfold laws_heldInt64S.f
    exact heldInt64S_l l' (by omega) l.length k m 0 hk (by omega) (by omega) hm (by omega) (fun j h h' => e3 j h (by omega))
def gd_Int64S (x : List Int) : Prop := x.length ≤ maxLen ∧ ∀ y ∈ x, (Lit.int .i64 y).wf = true
def bd_Int64S (x : List Int) : Prop := x.length ≤ 1048576
def bi_Int64S (x : List Int) : Prop := x.length ≤ 1048576
def gd_Int64SS (x : List (List Int)) : Prop := x.length ≤ maxLen ∧ ∀ y ∈ x, gd_Int64S y
def bd_Int64SS (x : List (List Int)) : Prop := x.length ≤ 1048576 ∧ ∀ y ∈ x, bd_Int64S y
def bi_Int64SS (x : List (List Int)) : Prop := x.length ≤ 1048576 ∧ ∀ y ∈ x, bi_Int64S y
def gd_Dfa (x : S63) : Prop := (x.f0.length ≤ maxLen ∧ ∀ y ∈ x.f0, (Lit.int .i64 y).wf = true) ∧ (x.f1.length ≤ maxLen ∧ ∀ y ∈ x.f1, gd_Int64S y) ∧ (x.f2.length ≤ maxLen ∧ ∀ y ∈ x.f2, (Lit.int .i64 y).wf = true)
def bd_Dfa (x : S63) : Prop := (x.f0.length ≤ 1048576) ∧ (x.f1.length ≤ 1048576 ∧ ∀ y ∈ x.f1, bd_Int64S y) ∧ (x.f2.length ≤ 1048576)
def bi_Dfa (x : S66) : Prop := (x.f0.length ≤ 1048576) ∧ (x.f1.length ≤ 1048576 ∧ ∀ y ∈ x.f1, bi_Int64S y) ∧ (x.f2.length ≤ 1048576)
def c_Dfa (x : S63) : S66 := ⟨x.f0, x.f1, x.f2⟩
theorem bi_of_Dfa (x : S63) (h : bd_Dfa x) : bi_Dfa (c_Dfa x) := ⟨h.1, h.2.1, h.2.2⟩
theorem szL_Int64S (k : Nat) (hk : 1048578 ≤ k) (l : List Int) (g : l.length ≤ maxLen ∧ ∀ y ∈ l, (Lit.int .i64 y).wf = true) (n : Int) (hn : 0 ≤ n ∧ n ≤ 1048576) : ∃ r, laws_szInt64S.f l n = some r ∧ -1 ≤ r ∧ r ≤ n ∧ (0 ≤ r → l.length ≤ 1048576) := by
  have hl := g.1
  unfold maxLen at hl
  unfold laws_szInt64S.f
  rw [w64 (by omega) (by omega)]
  by_cases h : n - (l.length : Int) < 0
  · rw [if_pos h]; exact ⟨-1, rfl, by omega, by omega, fun h => by omega⟩
  · rw [if_neg h]; exact ⟨_, rfl, by omega, by omega, fun _ => by omega⟩
theorem szL_Int64SS_l (l : List (List Int)) (g : ∀ y ∈ l, gd_Int64S y) (hl : l.length ≤ 1048576) (d : Nat) : ∀ (k : Nat) (x i : Int), d + 1048578 < k → 0 ≤ i → (l.length : Int) - i = d → 0 ≤ x → x ≤ 1048576 →
    ∃ r, laws_szInt64SS.l0 k l x i = some r ∧ -1 ≤ r ∧ r ≤ x ∧ (0 ≤ r → ∀ j : Nat, i ≤ (j : Int) → (h : j < l.length) → bd_Int64S l[j]) := by
  induction d with
  | zero =>
    intro k x i hk h0 hd g0 g1
    obtain ⟨k, rfl⟩ : ∃ m, k = m + 1 := ⟨k - 1, by omega⟩
    refine ⟨x, ?_, by omega, by omega, fun _ j h1 h2 => by omega⟩
    simp only [laws_szInt64SS.l0]
    rw [if_neg (by omega)]
  | succ d ih =>
    intro k x i hk h0 hd g0 g1
    obtain ⟨k, rfl⟩ : ∃ m, k = m + 1 := ⟨k - 1, by omega⟩
    have hi : i.toNat < l.length := by omega
    have e : rd_L1 l i = l[i.toNat] := by
      unfold rd_L1
      rw [List.getD_eq_getElem?_getD, List.getElem?_eq_getElem hi]
      rfl
    have hg := g l[i.toNat] (List.getElem_mem hi)
    obtain ⟨r, er, r1, r2, r3⟩ := szL_Int64S k (by omega) l[i.toNat] hg x ⟨g0, g1⟩
    simp only [laws_szInt64SS.l0, e]
    rw [if_pos (by omega), if_pos h0, er]
    simp only [Option.bind_some]
    by_cases hr : r < 0
    · rw [if_pos hr]; exact ⟨-1, rfl, by omega, by omega, fun h => by omega⟩
    · rw [if_neg hr, w64 (by omega) (by omega)]
      obtain ⟨q, eq, q1, q2, q3⟩ := ih k r (i + 1) (by omega) (by omega) (by omega) (by omega) (by omega)
      refine ⟨q, eq, q1, by omega, fun h j h1 h2 => ?_⟩
      by_cases hj : (j : Int) = i
      · have : j = i.toNat := by omega
        subst this; exact r3 (by omega)
      · exact q3 h j (by omega) h2
theorem szL_Int64SS (k : Nat) (hk : 2097156 ≤ k) (l : List (List Int)) (g : l.length ≤ maxLen ∧ ∀ y ∈ l, gd_Int64S y) (n : Int) (hn : 0 ≤ n ∧ n ≤ 1048576) : ∃ r, laws_szInt64SS.f k l n = some r ∧ -1 ≤ r ∧ r ≤ n ∧ (0 ≤ r → l.length ≤ 1048576 ∧ ∀ y ∈ l, bd_Int64S y) := by
  have hl := g.1
  unfold maxLen at hl
  unfold laws_szInt64SS.f
  rw [w64 (x := n - (l.length : Int)) (by omega) (by omega)]
  by_cases h : n - (l.length : Int) < 0
  · rw [if_pos h]; exact ⟨-1, rfl, by omega, by omega, fun h => by omega⟩
  · rw [if_neg h]
    obtain ⟨r, e, r1, r2, r3⟩ := szL_Int64SS_l l g.2 (by omega) l.length k (n - (l.length : Int)) 0 (by omega) (by omega) (by omega) (by omega) (by omega)
    exact ⟨r, e, r1, by omega, fun hr => ⟨by omega, fun y hy => by
      obtain ⟨j, hj, rfl⟩ := List.mem_iff_getElem.1 hy
      exact r3 hr j (by omega) hj⟩⟩
theorem szL_Dfa (k : Nat) (hk : 2097156 ≤ k) (f0 : List Int) (f1 : List (List Int)) (f2 : List Int) (g : (f0.length ≤ maxLen ∧ ∀ y ∈ f0, (Lit.int .i64 y).wf = true) ∧ (f1.length ≤ maxLen ∧ ∀ y ∈ f1, gd_Int64S y) ∧ (f2.length ≤ maxLen ∧ ∀ y ∈ f2, (Lit.int .i64 y).wf = true)) (n : Int) (hn : 0 ≤ n ∧ n ≤ 1048576) : ∃ r, laws_szDfa.f k f0 f1 f2 n = some r ∧ -1 ≤ r ∧ r ≤ n ∧ (0 ≤ r → (f0.length ≤ 1048576) ∧ (f1.length ≤ 1048576 ∧ ∀ y ∈ f1, bd_Int64S y) ∧ (f2.length ≤ 1048576)) := by
  unfold laws_szDfa.f
  obtain ⟨r1, e1, a1, b1, d1⟩ := szL_Int64S k (by omega) f0 g.1 n (by omega)
  rw [e1]
  simp only [Option.bind_some]
  by_cases c1 : r1 < 0
  · rw [if_pos c1]; exact ⟨-1, rfl, by omega, by omega, fun h => by omega⟩
  rw [if_neg c1]
  obtain ⟨r2, e2, a2, b2, d2⟩ := szL_Int64SS k (by omega) f1 g.2.1 r1 (by omega)
  rw [e2]
  simp only [Option.bind_some]
  by_cases c2 : r2 < 0
  · rw [if_pos c2]; exact ⟨-1, rfl, by omega, by omega, fun h => by omega⟩
  rw [if_neg c2]
  obtain ⟨r3, e3, a3, b3, d3⟩ := szL_Int64S k (by omega) f2 g.2.2 r2 (by omega)
  rw [e3]
  simp only [Option.bind_some]
  by_cases c3 : r3 < 0
  · rw [if_pos c3]; exact ⟨-1, rfl, by omega, by omega, fun h => by omega⟩
  rw [if_neg c3]
  exact ⟨r3, rfl, by omega, by omega, fun _ => ⟨(d1 (by omega)), (d2 (by omega)), (d3 (by omega))⟩⟩
theorem toL_Int64S_l (l : List Int) (hl : l.length ≤ 1048576) (d : Nat) : ∀ (k : Nat) (acc : List Int) (i : Int), d + 0 < k → 0 ≤ i → (l.length : Int) - i = d → acc.length = l.length →
    laws_toInt64S.l0 k l acc i = some (acc.take i.toNat ++ (l).drop i.toNat) := by
  induction d with
  | zero =>
    intro k acc i hk h0 hd ha
    obtain ⟨k, rfl⟩ : ∃ m, k = m + 1 := ⟨k - 1, by omega⟩
    simp only [laws_toInt64S.l0]
    rw [if_neg (by omega), List.take_of_length_le (by omega), List.drop_eq_nil_of_le (by first | omega | (rw [List.length_map]; omega)), List.append_nil]
  | succ d ih =>
    intro k acc i hk h0 hd ha
    obtain ⟨k, rfl⟩ : ∃ m, k = m + 1 := ⟨k - 1, by omega⟩
    have hi : i.toNat < l.length := by omega
    have e : rd l i = l[i.toNat] := by
      unfold rd
      rw [List.getD_eq_getElem?_getD, List.getElem?_eq_getElem hi]
      rfl
    simp only [laws_toInt64S.l0, e]
    rw [if_pos (by omega), if_pos h0, if_pos (by omega), w64 (by omega) (by omega), ih k _ _ (by omega) (by omega) (by omega) (by simpa using ha)]
    have e1 : (i + 1).toNat = i.toNat + 1 := by omega
    rw [e1, List.take_succ_eq_append_getElem (by simp; omega), List.take_set_of_le (Nat.le_refl _), List.getElem_set_self, List.append_assoc, List.singleton_append]
    congr 2
    rw [List.drop_eq_getElem_cons (i := i.toNat) hi]
theorem toL_Int64S (k : Nat) (hk : 1048578 ≤ k) (l : List Int) (g : l.length ≤ 1048576) : laws_toInt64S.f k l = some (l) := by
  have hl : l.length ≤ 1048576 := g
  unfold laws_toInt64S.f
  rw [if_pos (by omega), if_pos (by omega), toL_Int64S_l l hl l.length k _ 0 (by omega) (by omega) (by omega) (by simp)]
  simp
theorem toL_Int64SS_l (l : List (List Int)) (g : ∀ y ∈ l, bd_Int64S y) (hl : l.length ≤ 1048576) (d : Nat) : ∀ (k : Nat) (acc : List (List Int)) (i : Int), d + 1048578 < k → 0 ≤ i → (l.length : Int) - i = d → acc.length = l.length →
    laws_toInt64SS.l0 k l acc i = some (acc.take i.toNat ++ (l).drop i.toNat) := by
  induction d with
  | zero =>
    intro k acc i hk h0 hd ha
    obtain ⟨k, rfl⟩ : ∃ m, k = m + 1 := ⟨k - 1, by omega⟩
    simp only [laws_toInt64SS.l0]
    rw [if_neg (by omega), List.take_of_length_le (by omega), List.drop_eq_nil_of_le (by first | omega | (rw [List.length_map]; omega)), List.append_nil]
  | succ d ih =>
    intro k acc i hk h0 hd ha
    obtain ⟨k, rfl⟩ : ∃ m, k = m + 1 := ⟨k - 1, by omega⟩
    have hi : i.toNat < l.length := by omega
    have e : rd_L1 l i = l[i.toNat] := by
      unfold rd_L1
      rw [List.getD_eq_getElem?_getD, List.getElem?_eq_getElem hi]
      rfl
    have ee := toL_Int64S k (by omega) l[i.toNat] (g l[i.toNat] (List.getElem_mem hi))
    simp only [laws_toInt64SS.l0, e]
    rw [if_pos (by omega), if_pos h0]
    first | rw [ee] | skip
    try simp only [Option.bind_some]
    rw [if_pos (by omega)]
    try rw [ee]
    try simp only [Option.bind_some]
    try rw [if_pos (by omega)]
    rw [w64 (by omega) (by omega)]
    rw [ih k _ _ (by omega) (by omega) (by omega) (by simpa using ha)]
    have e1 : (i + 1).toNat = i.toNat + 1 := by omega
    rw [e1, List.take_succ_eq_append_getElem (by simp; omega), List.take_set_of_le (Nat.le_refl _), List.getElem_set_self, List.append_assoc, List.singleton_append]
    congr 2
    rw [List.drop_eq_getElem_cons (i := i.toNat) hi]
theorem toL_Int64SS (k : Nat) (hk : 2097156 ≤ k) (l : List (List Int)) (g : l.length ≤ 1048576 ∧ ∀ y ∈ l, bd_Int64S y) : laws_toInt64SS.f k l = some (l) := by
  have hl : l.length ≤ 1048576 := g.1
  unfold laws_toInt64SS.f
  rw [if_pos (by omega), if_pos (by omega), toL_Int64SS_l l g.2 hl l.length k _ 0 (by omega) (by omega) (by omega) (by simp)]
  simp
theorem toL_Dfa (k : Nat) (hk : 2097156 ≤ k) (f0 : List Int) (f1 : List (List Int)) (f2 : List Int) (g : (f0.length ≤ 1048576) ∧ (f1.length ≤ 1048576 ∧ ∀ y ∈ f1, bd_Int64S y) ∧ (f2.length ≤ 1048576)) : laws_toDfa.f k f0 f1 f2 = some (f0, f1, f2) := by
  unfold laws_toDfa.f
  rw [toL_Int64S k (by omega) f0 (g.1)]
  simp only [Option.bind_some]
  rw [toL_Int64SS k (by omega) f1 (g.2.1)]
  simp only [Option.bind_some]
  rw [toL_Int64S k (by omega) f2 (g.2.2)]
  simp only [Option.bind_some]
  all_goals (first | rfl | simp)
theorem eqL_Int64S_l (l : List Int) (hl : l.length ≤ 1048576) (d : Nat) : ∀ (k : Nat) (i : Int), d + 0 < k → 0 ≤ i → (l.length : Int) - i = d → laws_eqInt64S.l0 k l l i = some true := by
  induction d with
  | zero =>
    intro k i hk h0 hd
    obtain ⟨k, rfl⟩ : ∃ m, k = m + 1 := ⟨k - 1, by omega⟩
    simp only [laws_eqInt64S.l0]
    rw [if_neg (by omega)]
  | succ d ih =>
    intro k i hk h0 hd
    obtain ⟨k, rfl⟩ : ∃ m, k = m + 1 := ⟨k - 1, by omega⟩
    have hi : i.toNat < l.length := by omega
    simp only [laws_eqInt64S.l0]
    rw [if_pos (by omega), if_pos h0, if_pos (by omega)]
    simp only [if_true]
    rw [w64 (by omega) (by omega)]
    exact ih k _ (by omega) (by omega) (by omega)
theorem eqL_Int64S (k : Nat) (hk : 1048578 ≤ k) (l : List Int) (g : l.length ≤ 1048576) : laws_eqInt64S.f k l l = some true := by
  have hl : l.length ≤ 1048576 := g
  unfold laws_eqInt64S.f
  simp only [if_true]
  exact eqL_Int64S_l l hl l.length k 0 (by omega) (by omega) (by omega)
theorem eqL_Int64SS_l (l : List (List Int)) (g : ∀ y ∈ l, bi_Int64S y) (hl : l.length ≤ 1048576) (d : Nat) : ∀ (k : Nat) (i : Int), d + 1048578 < k → 0 ≤ i → (l.length : Int) - i = d → laws_eqInt64SS.l0 k l l i = some true := by
  induction d with
  | zero =>
    intro k i hk h0 hd
    obtain ⟨k, rfl⟩ : ∃ m, k = m + 1 := ⟨k - 1, by omega⟩
    simp only [laws_eqInt64SS.l0]
    rw [if_neg (by omega)]
  | succ d ih =>
    intro k i hk h0 hd
    obtain ⟨k, rfl⟩ : ∃ m, k = m + 1 := ⟨k - 1, by omega⟩
    have hi : i.toNat < l.length := by omega
    have e : rd_L1 l i = l[i.toNat] := by
      unfold rd_L1
      rw [List.getD_eq_getElem?_getD, List.getElem?_eq_getElem hi]
      rfl
    have ee := eqL_Int64S k (by omega) l[i.toNat] (g l[i.toNat] (List.getElem_mem hi))
    simp only [laws_eqInt64SS.l0, e]
    rw [if_pos (by omega), if_pos h0, if_pos (by omega), ee]
    simp only [Option.bind_some, if_true]
    rw [w64 (by omega) (by omega)]
    exact ih k _ (by omega) (by omega) (by omega)
theorem eqL_Int64SS (k : Nat) (hk : 2097156 ≤ k) (l : List (List Int)) (g : l.length ≤ 1048576 ∧ ∀ y ∈ l, bi_Int64S y) : laws_eqInt64SS.f k l l = some true := by
  have hl : l.length ≤ 1048576 := g.1
  unfold laws_eqInt64SS.f
  simp only [if_true]
  exact eqL_Int64SS_l l g.2 hl l.length k 0 (by omega) (by omega) (by omega)
theorem eqL_Dfa (k : Nat) (hk : 2097156 ≤ k) (f0 : List Int) (f1 : List (List Int)) (f2 : List Int) (g : (f0.length ≤ 1048576) ∧ (f1.length ≤ 1048576 ∧ ∀ y ∈ f1, bi_Int64S y) ∧ (f2.length ≤ 1048576)) : laws_eqDfa.f k f0 f1 f2 f0 f1 f2 = some true := by
  unfold laws_eqDfa.f
  simp [eqL_Int64S k (by omega) f0 (g.1), eqL_Int64SS k (by omega) f1 (g.2.1), eqL_Int64S k (by omega) f2 (g.2.2)]
theorem sBlocks_l (l : List Int) (hl : l.length = 256) (d : Nat) : ∀ (k i : Nat) (n : Int), d < k → 256 - i = d → i ≤ 256 → 0 ≤ n → n ≤ i → spec_l7Blocks.l0 k l n (i : Int) = some ((blkLoop l d i n).getD (-1)) := by
  induction d with
  | zero =>
    intro k i n hk hd hi h0 h1
    obtain ⟨k, rfl⟩ : ∃ m, k = m + 1 := ⟨k - 1, by omega⟩
    simp only [spec_l7Blocks.l0]
    rw [if_neg (by omega)]
    rfl
  | succ d ih =>
    intro k i n hk hd hi h0 h1
    obtain ⟨k, rfl⟩ : ∃ m, k = m + 1 := ⟨k - 1, by omega⟩
    simp only [spec_l7Blocks.l0, sIn, Option.bind_some, decide_eq_true_eq]
    rw [if_pos (by omega), if_pos (by omega), if_pos (by omega)]
    unfold blkLoop
    by_cases hc : 0 ≤ rd l (i : Int) ∧ rd l (i : Int) ≤ n
    · rw [if_pos hc, if_pos hc, w64 (x := rd l (i : Int) + 1) (by omega) (by omega), nat_next (by omega)]
      exact ih k (i + 1) _ (by omega) (by omega) (by omega) (by have := le_mx_left n (rd l (i : Int) + 1); omega) (mx_le (by omega) (by omega))
    · rw [if_neg hc, if_neg hc]
      rfl
theorem sBlocks (l : List Int) (k : Nat) (hk : 300 ≤ k) : spec_l7Blocks.f k l = some ((blocksM l).getD (-1)) := by
  unfold spec_l7Blocks.f blocksM
  by_cases h : l.length = 256
  · rw [if_pos (by omega), if_pos h]
    exact sBlocks_l l h 256 k 0 0 (by omega) (by omega) (by omega) (by omega) (by omega)
  · rw [if_neg (by omega), if_neg h]
    rfl
theorem iBlocks_l (l : List Int) (hl : l.length ≤ 1048576) (d : Nat) : ∀ (k i : Nat) (n : Int), d < k → l.length - i = d → i ≤ l.length → 0 ≤ n → n ≤ i →
    impl_blocksOk.l0 k l (n - 1) l (l.length : Int) (i : Int) = some (match blkLoop l d i n with | some m => (m, ((l.length : Int) == 256)) | none => (0, false)) := by
  induction d with
  | zero =>
    intro k i n hk hd hi h0 h1
    obtain ⟨k, rfl⟩ : ∃ m, k = m + 1 := ⟨k - 1, by omega⟩
    simp only [impl_blocksOk.l0]
    rw [if_neg (by omega), w64 (by omega) (by omega), Int.sub_add_cancel]
    rfl
  | succ d ih =>
    intro k i n hk hd hi h0 h1
    obtain ⟨k, rfl⟩ : ∃ m, k = m + 1 := ⟨k - 1, by omega⟩
    simp only [impl_blocksOk.l0, iWithin, Option.bind_some, decide_eq_true_eq]
    rw [if_pos (by omega), if_pos (by omega), if_pos (by omega), w64 (x := n - 1 + 1) (by omega) (by omega), Int.sub_add_cancel]
    unfold blkLoop
    by_cases hc : 0 ≤ rd l (i : Int) ∧ rd l (i : Int) ≤ n
    · rw [if_pos hc, if_pos hc, nat_next (by omega)]
      have e : mx (n - 1) (rd l (i : Int)) = mx n (rd l (i : Int) + 1) - 1 := by unfold mx; split <;> split <;> omega
      rw [e]
      exact ih k (i + 1) _ (by omega) (by omega) (by omega) (by have := le_mx_left n (rd l (i : Int) + 1); omega) (mx_le (by omega) (by omega))
    · rw [if_neg hc, if_neg hc]
/-- what the program's blocksOk tells -/
theorem iBlocks (l : List Int) (hl : l.length ≤ 1048576) (k : Nat) (hk : 1048578 ≤ k) : ∃ r, impl_blocksOk.f k l = some r ∧ r.2 = (blocksM l).isSome ∧ ∀ m, blocksM l = some m → r.1 = m := by
  unfold impl_blocksOk.f
  have e : impl_blocksOk.l0 k l (-1) l (l.length : Int) 0 = _ := iBlocks_l l hl l.length k 0 0 (by omega) (by omega) (by omega) (by omega) (by omega)
  refine ⟨_, e, ?_, ?_⟩
  · unfold blocksM
    by_cases h : l.length = 256
    · rw [if_pos h, h]
      cases blkLoop l 256 0 0 <;> rfl
    · rw [if_neg h]
      cases blkLoop l l.length 0 0
      · rfl
      · show ((l.length : Int) == 256) = false
        rw [beq_eq_false_iff_ne]
        omega
  · intro m hm
    unfold blocksM at hm
    by_cases h : l.length = 256
    · rw [if_pos h] at hm
      rw [h, hm]
    · rw [if_neg h] at hm
      exact absurd hm (by simp)
theorem rdL_row (nx : List (List Int)) (i : Int) : rd_L1 nx i = drow nx i.toNat := rfl
def cellP (nx : List (List Int)) (s : Nat) (j : Nat) : Prop := 0 ≤ rd (drow nx s) (j : Int) ∧ rd (drow nx s) (j : Int) ≤ (nx.length : Int) - 1
open Classical in
theorem sDfa_l1 (b : List Int) (nx : List (List Int)) (acc : List Int) (hn : 1 ≤ nx.length ∧ nx.length ≤ 1000) (m : Int) (s : Nat) (hs : s < nx.length) (hm : ((drow nx s).length : Int) = m) (m1 : m ≤ 256) (K : Nat) (Q : Prop)
    (H : ∀ k, K < k → spec_DfaOk.l0 k (nx.length : Int) m ((s + 1 : Nat) : Int) b nx acc = some (decide Q)) (d : Nat) : ∀ (k j : Nat), d + K + 1 < k → (drow nx s).length - j = d → j ≤ (drow nx s).length →
    spec_DfaOk.l1 k (nx.length : Int) m (s : Int) (j : Int) b nx acc = some (decide (fromN (cellP nx s) (drow nx s).length j ∧ Q)) := by
  induction d with
  | zero =>
    intro k j hk hd hj
    obtain ⟨k, rfl⟩ : ∃ m, k = m + 1 := ⟨k - 1, by omega⟩
    simp only [spec_DfaOk.l1]
    rw [if_neg (by omega), nat_next (by omega), H k (by omega)]
    exact congrArg some (decide_eq_decide.2 ⟨fun h => ⟨fromN_end (by omega), h⟩, fun h => h.2⟩)
  | succ d ih =>
    intro k j hk hd hj
    obtain ⟨k, rfl⟩ : ∃ m, k = m + 1 := ⟨k - 1, by omega⟩
    have hlt : j < (drow nx s).length := by omega
    have es : ((s : Nat) : Int).toNat = s := by omega
    simp only [spec_DfaOk.l1, sIn, Option.bind_some, decide_eq_true_eq, rdL_row, es]
    rw [if_pos (by omega), if_pos (by omega), if_pos (by omega), if_pos (by omega), if_pos (by omega), w64 (x := (nx.length : Int) - 1) (by omega) (by omega), nat_next (by omega)]
    by_cases h1 : 0 ≤ rd (drow nx s) (j : Int) ∧ rd (drow nx s) (j : Int) ≤ (nx.length : Int) - 1
    · rw [if_pos h1, ih k (j + 1) (by omega) (by omega) (by omega)]; exact congrArg some (decide_eq_decide.2 (fromN_go hlt h1))
    · rw [if_neg h1, decide_eq_false (fromN_no hlt h1)]
open Classical in
theorem sDfa_l0 (b : List Int) (nx : List (List Int)) (acc : List Int) (hn : 1 ≤ nx.length ∧ nx.length ≤ 1000) (ha : acc.length = nx.length) (m : Int) (m1 : m ≤ 256) (d : Nat) : ∀ (k s : Nat), d * 300 < k → nx.length - s = d → s ≤ nx.length →
    spec_DfaOk.l0 k (nx.length : Int) m (s : Int) b nx acc = some (decide (fromN (rowP nx m acc) nx.length s)) := by
  induction d with
  | zero =>
    intro k s hk hd hs
    obtain ⟨k, rfl⟩ : ∃ m, k = m + 1 := ⟨k - 1, by omega⟩
    simp only [spec_DfaOk.l0]
    rw [if_neg (by omega), decide_eq_true (fromN_end (by omega))]
  | succ d ih =>
    intro k s hk hd hs
    obtain ⟨k, rfl⟩ : ∃ m, k = m + 2 := ⟨k - 2, by omega⟩
    have hlt : s < nx.length := by omega
    have es : ((s : Nat) : Int).toNat = s := by omega
    have hst := fromN_step (P := rowP nx m acc) hlt
    simp only [spec_DfaOk.l0, sIn, Option.bind_some, decide_eq_true_eq, rdL_row, es]
    rw [if_pos (by omega), if_pos (by omega), if_pos (by omega)]
    by_cases h1 : -1 ≤ rd acc (s : Int) ∧ rd acc (s : Int) ≤ 39
    · rw [if_pos h1, if_pos (by omega)]
      by_cases h2 : ((drow nx s).length : Int) = m
      · rw [bne_eq_false_iff_eq.2 h2]
        simp only [spec_DfaOk.j2]
        rw [if_neg (by simp)]
        have e : spec_DfaOk.l1 k (nx.length : Int) m (s : Int) 0 b nx acc = _ := sDfa_l1 b nx acc hn m s hlt h2 m1 (d * 300) _ (fun k hk => ih k (s + 1) hk (by omega) (by omega)) (drow nx s).length k 0 (by omega) (by omega) (by omega)
        rw [e]
        refine congrArg some (decide_eq_decide.2 ⟨fun h => hst.2 ⟨⟨h1, h2, fun i hi => h.1 i (by omega) hi⟩, h.2⟩, fun h => ⟨fun i _ hi => (hst.1 h).1.2.2 i hi, (hst.1 h).2⟩⟩)
      · rw [bne_iff_ne.2 h2]
        simp only [spec_DfaOk.j2]
        rw [if_pos trivial, decide_eq_false (fun h => h2 (hst.1 h).1.2.1)]
    · rw [if_neg h1]
      simp only [spec_DfaOk.j2]
      rw [if_pos trivial, decide_eq_false (fun h => h1 (hst.1 h).1.1)]
open Classical in
theorem sDfaOk (b : List Int) (nx : List (List Int)) (acc : List Int) (k : Nat) (hk : 400000 ≤ k) : spec_DfaOk.f k b nx acc = some (decide (dfaOk b nx acc)) := by
  obtain ⟨k, rfl⟩ : ∃ m, k = m + 1 := ⟨k - 1, by omega⟩
  unfold spec_DfaOk.f
  rw [sBlocks b _ (by omega)]
  simp only [Option.bind_some]
  have no : ∀ x, ¬ dfaOk b nx acc → spec_DfaOk.j0 (k + 1) (nx.length : Int) x true b nx acc = some (decide (dfaOk b nx acc)) := by
    intro x h
    rw [decide_eq_false h]
    simp [spec_DfaOk.j0]
  by_cases h1 : (nx.length : Int) < 1
  · rw [if_pos h1]
    exact no _ (fun ⟨m, _, g, _⟩ => by omega)
  · rw [if_neg h1]
    by_cases h2 : (nx.length : Int) > 1000
    · rw [if_pos h2]
      exact no _ (fun ⟨m, _, g, _⟩ => by omega)
    · rw [if_neg h2]
      by_cases h3 : (acc.length : Int) = (nx.length : Int)
      · rw [if_pos h3]
        cases hb : blocksM b with
        | none =>
          rw [decide_eq_true (by simp)]
          exact no _ (fun ⟨m, g, _, _⟩ => by rw [hb] at g; exact absurd g (by simp))
        | some m =>
          have hm := blocksM_some hb
          rw [decide_eq_false (by simp; omega)]
          simp only [spec_DfaOk.j0, Option.getD_some]
          rw [if_neg (by simp)]
          have e : spec_DfaOk.l0 k (nx.length : Int) m 0 b nx acc = _ := sDfa_l0 b nx acc (by omega) (by omega) m (by omega) nx.length k 0 (by omega) (by omega) (by omega)
          rw [e]
          exact congrArg some (decide_eq_decide.2 (dfaOk_iff hb (by omega)).symm)
      · rw [if_neg h3]
        exact no _ (fun ⟨m, _, g, _⟩ => by omega)
theorem drow_mem {nx : List (List Int)} {P : List Int → Prop} : (∀ row ∈ nx, P row) ↔ ∀ i, i < nx.length → P (drow nx i) := by
  unfold drow
  constructor
  · intro h i hi
    rw [List.getD_eq_getElem?_getD, List.getElem?_eq_getElem hi]
    exact h _ (List.getElem_mem hi)
  · intro h x hx
    obtain ⟨i, hi, rfl⟩ := List.mem_iff_getElem.1 hx
    have := h i hi
    rw [List.getD_eq_getElem?_getD, List.getElem?_eq_getElem hi] at this
    exact this
open Classical in
theorem iDfaOk (b : List Int) (nx : List (List Int)) (acc : List Int) (hbl : b.length ≤ 1048576) (k : Nat) (hk : 1300000 ≤ k) : impl_DfaOk.f k b nx acc = some (decide (dfaOk b nx acc)) := by
  obtain ⟨⟨m', ok⟩, er, r2, r1⟩ := iBlocks b hbl k (by omega)
  unfold impl_DfaOk.f
  by_cases h1 : 1 ≤ (nx.length : Int) ∧ (nx.length : Int) ≤ 1000
  · rw [if_pos h1]
    by_cases h2 : (acc.length : Int) = (nx.length : Int)
    · rw [if_pos h2]
      by_cases h3 : ∀ x ∈ acc, -1 ≤ x ∧ x ≤ 39
      · rw [if_pos h3, er]
        simp only [Option.bind_some]
        simp only at r2
        rw [r2]
        cases hb : blocksM b with
        | none =>
          rw [if_neg (by simp), decide_eq_false (fun ⟨m, g, _, _⟩ => by rw [hb] at g; exact absurd g (by simp))]
        | some m =>
          have e := r1 m hb
          simp only at e
          subst e
          rw [if_pos (by simp)]
          refine congrArg some (decide_eq_decide.2 ?_)
          rw [dfaOk_iff hb (by omega), drow_mem]
          rw [inR_mem] at h3
          constructor
          · intro h i _ hi
            have := h i hi
            exact ⟨h3 i (by omega), this.1, (inR_mem _ _ _).1 this.2⟩
          · intro h i hi
            have := h i (by omega) hi
            exact ⟨this.2.1, (inR_mem _ _ _).2 this.2.2⟩
      · rw [if_neg h3, decide_eq_false]
        rintro ⟨m, _, g, h⟩
        rw [inR_mem] at h3
        exact h3 (fun i hi => (h i (by omega) (by omega)).1)
    · rw [if_neg h2, decide_eq_false (fun ⟨m, _, g, _⟩ => by omega)]
  · rw [if_neg h1, decide_eq_false (fun ⟨m, _, g, _⟩ => by omega)]
/-- where the marks of a row of rows begin -/
def offI (x : List (List Int)) (m : Int) : Nat → Int
  | 0 => m
  | i + 1 => offI x m i + ((x.getD i []).length : Int)
theorem rowI {x : List (List Int)} (h : ∀ row ∈ x, row.length ≤ 1048576) (i : Nat) : (x.getD i []).length ≤ 1048576 := by
  rw [List.getD_eq_getElem?_getD]
  by_cases hi : i < x.length
  · rw [List.getElem?_eq_getElem hi]; exact h _ (List.getElem_mem hi)
  · rw [List.getElem?_eq_none (by omega)]; simp
theorem offI_rng {x : List (List Int)} (h : ∀ row ∈ x, row.length ≤ 1048576) (m : Int) : ∀ i, m ≤ offI x m i ∧ offI x m i ≤ m + 1048576 * (i : Int)
  | 0 => by simp [offI]
  | i + 1 => by have := offI_rng h m i; have := rowI h i; simp only [offI]; omega
def markedI (c : Int) (y : List Int) : Prop := ∀ j : Nat, (0 : Int) ≤ (j : Int) → j < y.length → y.getD j 0 = c + ((j : Int) - 0)
theorem getD_set_ri (l : List (List Int)) (a : Nat) (v : List Int) (j : Nat) (h : a < l.length) : (l.set a v).getD j [] = if a = j then v else l.getD j [] := by
  rw [List.getD_eq_getElem?_getD, List.getD_eq_getElem?_getD, List.getElem?_set]
  by_cases e : a = j
  · subst e; simp [h]
  · simp [e]
theorem markISS_l (x : List (List Int)) (hx : x.length ≤ 1048576) (h4 : ∀ row ∈ x, row.length ≤ 1048576) (m : Int) (m0 : 0 ≤ m ∧ m ≤ 1099511627776) (d : Nat) : ∀ (k i : Nat) (y : List (List Int)), d + 1048580 < k → x.length - i = d → i ≤ x.length → y.length = x.length → (∀ j, (y.getD j []).length = (x.getD j []).length) → (∀ j, j < i → markedI (offI x m j) (y.getD j [])) →
    ∃ y', laws_markInt64SS.l0 k y (offI x m i) (i : Int) = some (offI x m x.length, y') ∧ y'.length = x.length ∧ (∀ j, (y'.getD j []).length = (x.getD j []).length) ∧ (∀ j, j < x.length → markedI (offI x m j) (y'.getD j [])) := by
  induction d with
  | zero =>
    intro k i y hk hd hi hy hl hm
    obtain ⟨k, rfl⟩ : ∃ m, k = m + 1 := ⟨k - 1, by omega⟩
    obtain rfl : i = x.length := by omega
    exact ⟨y, by rw [laws_markInt64SS.l0, if_neg (by omega)], hy, hl, hm⟩
  | succ d ih =>
    intro k i y hk hd hi hy hl hm
    obtain ⟨k, rfl⟩ : ∃ m, k = m + 1 := ⟨k - 1, by omega⟩
    have o := offI_rng h4 m i
    have r4 := rowI h4 i
    have hli := hl i
    obtain ⟨z, e, z1, _, z2⟩ := markInt64S_l (y.getD i []).length k (y.getD i []) (offI x m i) 0 (by omega) (by omega) (by omega) (by omega) (by omega) (by omega) (by omega)
    have e' : laws_markInt64S.f k (y.getD i []) (offI x m i) = some (offI x m (i + 1), z) := by
      unfold laws_markInt64S.f
      rw [e, hli]
      rfl
    rw [laws_markInt64SS.l0, if_pos (by omega), if_pos (by omega), Int.toNat_natCast, e', Option.bind_some, nat_next (by omega)]
    refine ih k (i + 1) (y.set i z) (by omega) (by omega) (by omega) (by rw [List.length_set]; exact hy) (fun j => ?_) (fun j hj => ?_)
    · rw [getD_set_ri _ _ _ _ (by omega)]
      split
      · rename_i q; subst q; rw [z1, hli]
      · exact hl j
    · rw [getD_set_ri _ _ _ _ (by omega)]
      split
      · rename_i q; subst q; intro j' h0 h1; exact z2 j' h0 (by omega)
      · exact hm j (by omega)
theorem rdLI (y : List (List Int)) (i : Nat) : rd_L1 y (i : Int) = y.getD i [] := by
  unfold rd_L1
  rw [Int.toNat_natCast]
theorem heldISS_l (x y : List (List Int)) (hx : x.length ≤ 1048576) (h4 : ∀ row ∈ x, row.length ≤ 1048576) (m : Int) (m0 : 0 ≤ m ∧ m ≤ 1099511627776) (hy : y.length = x.length) (hl : ∀ j, (y.getD j []).length = (x.getD j []).length) (hm : ∀ j, j < x.length → markedI (offI x m j) (y.getD j [])) (d : Nat) : ∀ (k i : Nat), d + 1048580 < k → x.length - i = d → i ≤ x.length →
    laws_heldInt64SS.l0 k y (offI x m i) (i : Int) = some (offI x m x.length) := by
  induction d with
  | zero =>
    intro k i hk hd hi
    obtain ⟨k, rfl⟩ : ∃ m, k = m + 1 := ⟨k - 1, by omega⟩
    obtain rfl : i = x.length := by omega
    rw [laws_heldInt64SS.l0, if_neg (by omega)]
  | succ d ih =>
    intro k i hk hd hi
    obtain ⟨k, rfl⟩ : ∃ m, k = m + 1 := ⟨k - 1, by omega⟩
    have o := offI_rng h4 m i
    have o2 := offI_rng h4 m (i + 1)
    have r4 := rowI h4 i
    have hli := hl i
    have e' : laws_heldInt64S.f k (y.getD i []) (offI x m i) = some (offI x m (i + 1)) := by
      unfold laws_heldInt64S.f
      rw [heldInt64S_l (y.getD i []) (by omega) (y.getD i []).length k (offI x m i) 0 (by omega) (by omega) (by omega) (by omega) (by omega) (fun j h h' => hm i (by omega) j h h'), hli]
      rfl
    rw [laws_heldInt64SS.l0, if_pos (by omega), if_pos (by omega), rdLI, e', Option.bind_some, if_neg (by omega), nat_next (by omega)]
    exact ih k (i + 1) (by omega) (by omega) (by omega)
/-- the marks of rows of rows, and that they are held -/
theorem markISS_held (x : List (List Int)) (hx : x.length ≤ 1048576) (h4 : ∀ row ∈ x, row.length ≤ 1048576) (m : Int) (m0 : 0 ≤ m ∧ m ≤ 1099511627776) (k : Nat) (hk : 2097200 ≤ k) :
    ∃ m' y, laws_markInt64SS.f k x m = some (m', y) ∧ laws_heldInt64SS.f k y m = some m' ∧ m ≤ m' ∧ m' ≤ m + 1099511627776 := by
  obtain ⟨y, m1, m2, m3, m4⟩ := markISS_l x hx h4 m m0 x.length k 0 x (by omega) (by omega) (by omega) rfl (fun _ => rfl) (fun j hj => by omega)
  have hh := heldISS_l x y hx h4 m m0 m2 m3 m4 x.length k 0 (by omega) (by omega) (by omega)
  have o := offI_rng h4 m x.length
  exact ⟨_, y, m1, hh, by omega, by omega⟩
/-- two rows of rows that are one are told alike -/
theorem eqISS_l (x : List (List Int)) (hx : x.length ≤ 1048576) (h4 : ∀ row ∈ x, row.length ≤ 1048576) (d : Nat) : ∀ (k i : Nat), d + 1048580 < k → x.length - i = d → i ≤ x.length → laws_eqInt64SS.l0 k x x (i : Int) = some true := by
  induction d with
  | zero =>
    intro k i hk hd hi
    obtain ⟨k, rfl⟩ : ∃ m, k = m + 1 := ⟨k - 1, by omega⟩
    rw [laws_eqInt64SS.l0, if_neg (by omega)]
  | succ d ih =>
    intro k i hk hd hi
    obtain ⟨k, rfl⟩ : ∃ m, k = m + 1 := ⟨k - 1, by omega⟩
    have r4 := rowI h4 i
    rw [laws_eqInt64SS.l0, if_pos (by omega), if_pos (by omega), if_pos (by omega), rdLI, eqInt64S_same _ (by omega) k (by omega), Option.bind_some, if_pos rfl, nat_next (by omega)]
    exact ih k (i + 1) (by omega) (by omega) (by omega)
theorem eqISS (x : List (List Int)) (hx : x.length ≤ 1048576) (h4 : ∀ row ∈ x, row.length ≤ 1048576) (k : Nat) (hk : 2097200 ≤ k) : laws_eqInt64SS.f k x x = some true := by
  unfold laws_eqInt64SS.f
  rw [if_pos rfl]
  exact eqISS_l x hx h4 x.length k 0 (by omega) (by omega) (by omega)
/-- a table that came back: alike to itself, marked, and its marks held -/
theorem dfaMarks (b : List Int) (nx : List (List Int)) (acc : List Int) (hb : b.length ≤ 1048576) (hn : nx.length ≤ 1048576) (h4 : ∀ row ∈ nx, row.length ≤ 1048576) (ha : acc.length ≤ 1048576) (k : Nat) (hk : 3000000 ≤ k) :
    laws_eqDfa.f k b nx acc b nx acc = some true ∧ ∃ m y0 y1 y2, laws_markDfa.f k b nx acc 1 = some (m, y0, y1, y2) ∧ laws_heldDfa.f k y0 y1 y2 1 = some m ∧ 0 ≤ m := by
  constructor
  · unfold laws_eqDfa.f
    rw [eqInt64S_same b (by omega) k (by omega), Option.bind_some, if_pos rfl, eqISS nx hn h4 k (by omega), Option.bind_some, if_pos rfl, eqInt64S_same acc (by omega) k (by omega), Option.bind_some, if_pos rfl]
  · obtain ⟨y0, q0⟩ := markInt64S_held b (by omega) 1 (by omega) (by omega)
    obtain ⟨q1, q2⟩ := q0 k (by omega)
    obtain ⟨m1, y1, r1, r2, r3, r4⟩ := markISS_held nx hn h4 (1 + b.length) (by omega) k (by omega)
    obtain ⟨y2, s0⟩ := markInt64S_held acc (by omega) m1 (by omega) (by omega)
    obtain ⟨s1, s2⟩ := s0 k (by omega)
    refine ⟨m1 + acc.length, y0, y1, y2, ?_, ?_, by omega⟩
    · unfold laws_markDfa.f
      rw [q1, Option.bind_some, r1, Option.bind_some, s1, Option.bind_some]
    · unfold laws_heldDfa.f
      rw [q2, Option.bind_some, if_neg (by omega), r2, Option.bind_some, if_neg (by omega), s2, Option.bind_some, if_neg (by omega)]
theorem sHas (l : List Int) (x : Int) (hl : l.length ≤ 1048576) : ∀ (d k i : Nat), d < k → l.length - i = d → i ≤ l.length → (∀ j, j < i → rd l (j : Int) ≠ x) → spec_l1Has.l0 k l x (i : Int) = some (decide (x ∈ l))
  | 0, k, i, hk, hd, hi, hn => by
    obtain ⟨k, rfl⟩ : ∃ q, k = q + 1 := ⟨k - 1, by omega⟩
    rw [spec_l1Has.l0, if_neg (by omega), decide_eq_false]
    intro hx
    obtain ⟨j, hj, e⟩ := List.mem_iff_getElem.1 hx
    exact hn j (by omega) (by rw [rd_nat hj, e])
  | d + 1, k, i, hk, hd, hi, hn => by
    obtain ⟨k, rfl⟩ : ∃ q, k = q + 1 := ⟨k - 1, by omega⟩
    rw [spec_l1Has.l0, if_pos (by omega), if_pos (by omega), nat_next (by omega)]
    by_cases c : rd l (i : Int) = x
    · rw [if_pos c, decide_eq_true]
      rw [rd_nat (show i < l.length by omega)] at c
      exact c ▸ List.getElem_mem _
    · rw [if_neg c]
      refine sHas l x hl d k (i + 1) (by omega) (by omega) (by omega) (fun j hj => ?_)
      by_cases e : j = i
      · subst e; exact c
      · exact hn j (by omega)
theorem iIdx (l : List Int) (x : Int) (hl : l.length ≤ 1048576) : ∀ (d k i : Nat), d < k → l.length - i = d → i ≤ l.length → (∀ j, j < i → rd l (j : Int) ≠ x) → ∃ r, slices_Index_int64_int64.l0 k l x (l.length : Int) (i : Int) = some r ∧ (r ≥ 0 ↔ x ∈ l)
  | 0, k, i, hk, hd, hi, hn => by
    obtain ⟨k, rfl⟩ : ∃ q, k = q + 1 := ⟨k - 1, by omega⟩
    refine ⟨-1, by rw [slices_Index_int64_int64.l0, if_neg (by omega)], ?_⟩
    constructor
    · intro h; omega
    · intro hx
      obtain ⟨j, hj, e⟩ := List.mem_iff_getElem.1 hx
      exact absurd (by rw [rd_nat hj, e]) (hn j (by omega))
  | d + 1, k, i, hk, hd, hi, hn => by
    obtain ⟨k, rfl⟩ : ∃ q, k = q + 1 := ⟨k - 1, by omega⟩
    rw [slices_Index_int64_int64.l0, if_pos (by omega), if_pos (by omega), if_pos (by omega), nat_next (by omega)]
    by_cases c : x = rd l (i : Int)
    · rw [if_pos c]
      refine ⟨i, rfl, ?_⟩
      rw [rd_nat (show i < l.length by omega)] at c
      exact ⟨fun _ => c ▸ List.getElem_mem _, fun _ => by omega⟩
    · rw [if_neg c]
      refine iIdx l x hl d k (i + 1) (by omega) (by omega) (by omega) (fun j hj => ?_)
      by_cases e : j = i
      · subst e; exact fun q => c q.symm
      · exact hn j (by omega)
theorem iHas (l : List Int) (x : Int) (hl : l.length ≤ 1048576) (k : Nat) (hk : 1048600 ≤ k) : slices_Contains_int64_int64.f k l x = some (decide (x ∈ l)) := by
  obtain ⟨r, e, h⟩ := iIdx l x hl l.length k 0 (by omega) (by omega) (by omega) (fun j hj => by omega)
  unfold slices_Contains_int64_int64.f slices_Index_int64_int64.f
  have e' : slices_Index_int64_int64.l0 k l x (l.length : Int) 0 = some r := e
  rw [e', Option.bind_some]
  exact congrArg some (decide_eq_decide.2 h)
/-- a rule that is kept -/
def keepR (rules : List Int) (r : Int) : Int := if r ∈ rules then r else -1
theorem sCopy (b : List Int) (nx : List (List Int)) (acc : List Int) (hn : nx.length ≤ 1000) (hr : ∀ s, s < nx.length → (drow nx s).length ≤ 256) : ∀ (d k i : Nat) (X0 X2 : List Int), d < k → nx.length - i = d → i ≤ nx.length → spec_l8Copy.l0 k (i : Int) b nx acc X0 (nx.take i) X2 = some (X0, nx, X2)
  | 0, k, i, X0, X2, hk, hd, hi => by
    obtain ⟨k, rfl⟩ : ∃ q, k = q + 1 := ⟨k - 1, by omega⟩
    rw [spec_l8Copy.l0, if_neg (by omega), List.take_of_length_le (by omega)]
  | d + 1, k, i, X0, X2, hk, hd, hi => by
    obtain ⟨k, rfl⟩ : ∃ q, k = q + 1 := ⟨k - 1, by omega⟩
    have hl := hr i (by omega)
    have er : rd_L1 nx (i : Int) = drow nx i := by rw [rdL_row, Int.toNat_natCast]
    have el : drow nx i = nx[i] := by unfold drow; rw [List.getD_eq_getElem?_getD, List.getElem?_eq_getElem (by omega)]; rfl
    rw [spec_l8Copy.l0, if_pos (by omega), Option.bind_some, if_pos (by omega), er, if_pos (by simp; omega), if_pos (by rw [List.length_take]; omega), nat_next (by omega), List.nil_append, el, ← List.take_succ_eq_append_getElem (by omega)]
    exact sCopy b nx acc hn hr d k (i + 1) X0 X2 (by omega) (by omega) (by omega)
theorem sRes (rules acc : List Int) (hn : acc.length ≤ 1000) (hl : rules.length ≤ 1048576) (X0 : List Int) (X1 : List (List Int)) : ∀ (d k i : Nat), 1048600 + d < k → acc.length - i = d → i ≤ acc.length → spec_Restrict.l0 k rules (i : Int) X0 X1 ((acc.take i).map (keepR rules) ++ acc.drop i) = some (X0, X1, acc.map (keepR rules))
  | 0, k, i, hk, hd, hi => by
    obtain ⟨k, rfl⟩ : ∃ q, k = q + 1 := ⟨k - 1, by omega⟩
    rw [spec_Restrict.l0, if_neg (by simp; omega), List.take_of_length_le (by omega), List.drop_eq_nil_of_le (by omega), List.append_nil]
  | d + 1, k, i, hk, hd, hi => by
    obtain ⟨k, rfl⟩ : ∃ q, k = q + 1 := ⟨k - 1, by omega⟩
    have hi' : i < acc.length := by omega
    have hlen : ((acc.take i).map (keepR rules)).length = i := by rw [List.length_map, List.length_take]; omega
    have er : rd ((acc.take i).map (keepR rules) ++ acc.drop i) (i : Int) = acc[i] := by
      unfold rd
      rw [Int.toNat_natCast, List.getD_eq_getElem?_getD, List.getElem?_append_right (by omega), hlen, Nat.sub_self, List.getElem?_drop, Nat.add_zero, List.getElem?_eq_getElem hi']
      rfl
    have es : (acc.take (i + 1)).map (keepR rules) ++ acc.drop (i + 1) = (acc.take i).map (keepR rules) ++ keepR rules acc[i] :: acc.drop (i + 1) := by
      rw [List.take_succ_eq_append_getElem hi', List.map_append, List.append_assoc]; rfl
    rw [spec_Restrict.l0, if_pos (by rw [List.length_append, hlen, List.length_drop]; omega), if_pos (by omega), er, spec_l1Has.f]
    have e := sHas rules acc[i] hl rules.length k 0 (by omega) (by omega) (by omega) (fun j hj => by omega)
    have e' : spec_l1Has.l0 k rules acc[i] 0 = some (decide (acc[i] ∈ rules)) := e
    rw [e', Option.bind_some, nat_next (by omega)]
    by_cases c : acc[i] ∈ rules
    · rw [if_pos (decide_eq_true c)]
      have := sRes rules acc hn hl X0 X1 d k (i + 1) (by omega) (by omega) (by omega)
      rw [es] at this
      rw [List.drop_eq_getElem_cons hi', show keepR rules acc[i] = acc[i] by unfold keepR; rw [if_pos c]] at *
      exact this
    · rw [if_neg (by simpa using c)]
      have := sRes rules acc hn hl X0 X1 d k (i + 1) (by omega) (by omega) (by omega)
      rw [es, show keepR rules acc[i] = -1 by unfold keepR; rw [if_neg c]] at this
      have e2 : ((acc.take i).map (keepR rules) ++ acc.drop i).set (i : Int).toNat (-1) = (acc.take i).map (keepR rules) ++ -1 :: acc.drop (i + 1) := by
        rw [Int.toNat_natCast, List.drop_eq_getElem_cons hi', List.set_append_right _ _ (by omega), hlen, Nat.sub_self]; rfl
      rw [e2]
      exact this
theorem iRes (rules : List Int) (hl : rules.length ≤ 1048576) (b : List Int) (nx : List (List Int)) (acc : List Int) (X0 : List Int) (ha : acc.length = nx.length) (hn : nx.length ≤ 1000) (hr : ∀ s, s < nx.length → 1 ≤ (drow nx s).length ∧ (drow nx s).length ≤ 256) : ∀ (d k i : Nat), 1048600 + d < k → nx.length - i = d → i ≤ nx.length →
    impl_Restrict.l0 k rules nx (nx.length : Int) (i : Int) b nx acc X0 (nx.take i) ((acc.take i).map (keepR rules)) = some (X0, nx, acc.map (keepR rules))
  | 0, k, i, hk, hd, hi => by
    obtain ⟨k, rfl⟩ : ∃ q, k = q + 1 := ⟨k - 1, by omega⟩
    rw [impl_Restrict.l0, if_neg (by omega), List.take_of_length_le (by omega), List.take_of_length_le (by omega)]
  | d + 1, k, i, hk, hd, hi => by
    obtain ⟨k, rfl⟩ : ∃ q, k = q + 1 := ⟨k - 1, by omega⟩
    have hi' : i < acc.length := by omega
    have hl2 := hr i (by omega)
    have er : rd_L1 nx (i : Int) = drow nx i := by rw [rdL_row, Int.toNat_natCast]
    have el : drow nx i = nx[i] := by unfold drow; rw [List.getD_eq_getElem?_getD, List.getElem?_eq_getElem (by omega)]; rfl
    have cl : slices_Clone_int64_int64.f (drow nx i) = some (drow nx i) := by unfold slices_Clone_int64_int64.f; rw [if_pos (by omega)]
    have es : (acc.take (i + 1)).map (keepR rules) = (acc.take i).map (keepR rules) ++ [keepR rules acc[i]] := by
      rw [List.take_succ_eq_append_getElem hi', List.map_append]; rfl
    have := iRes rules hl b nx acc X0 ha hn hr d k (i + 1) (by omega) (by omega) (by omega)
    rw [es, List.take_succ_eq_append_getElem (show i < nx.length by omega)] at this
    rw [impl_Restrict.l0, if_pos (by omega), if_pos (by omega), if_pos (by omega), if_pos (by omega), rd_nat hi', iHas rules acc[i] hl k (by omega), Option.bind_some, er, cl, nat_next (by omega), el]
    by_cases c : acc[i] ∈ rules
    · rw [if_pos (decide_eq_true c), Option.bind_some, if_pos (by rw [List.length_take]; omega), if_pos (by rw [List.length_map, List.length_take]; omega)]
      rw [show keepR rules acc[i] = acc[i] by unfold keepR; rw [if_pos c]] at this
      exact this
    · rw [if_neg (by simpa using c), Option.bind_some, if_pos (by rw [List.length_take]; omega), if_pos (by rw [List.length_map, List.length_take]; omega)]
      rw [show keepR rules acc[i] = -1 by unfold keepR; rw [if_neg c]] at this
      exact this
open Classical in
theorem restrict_both (b : List Int) (nx : List (List Int)) (acc rules : List Int) (hbl : b.length ≤ 1048576) (hl : rules.length ≤ 1048576) : ∃ o0 o1 o2, o0.length ≤ 1048576 ∧ o1.length ≤ 1048576 ∧ (∀ row ∈ o1, row.length ≤ 1048576) ∧ o2.length ≤ 1048576 ∧ ∀ k, 4000000 ≤ k → spec_Restrict.f k b nx acc rules = some (o0, o1, o2) ∧ impl_Restrict.f k b nx acc rules = some (o0, o1, o2) := by
  by_cases h : dfaOk b nx acc
  · obtain ⟨m, hm, h1, h2⟩ := h
    have hb := blocksM_some hm
    have hrow : ∀ s, s < nx.length → 1 ≤ (drow nx s).length ∧ (drow nx s).length ≤ 256 := fun s hs => by have r := (h2 s (Nat.zero_le _) hs).2.1; omega
    have hok : dfaOk b nx acc := ⟨m, hm, h1, h2⟩
    refine ⟨b, nx, acc.map (keepR rules), hbl, by omega, fun row hrw => ?_, by rw [List.length_map]; omega, fun k hk => ⟨?_, ?_⟩⟩
    · obtain ⟨s, hs, rfl⟩ := List.mem_iff_getElem.1 hrw
      have := hrow s hs
      unfold drow at this
      rw [List.getD_eq_getElem?_getD, List.getElem?_eq_getElem hs] at this
      have h3 : (nx[s]).length ≤ 256 := this.2
      omega
    · unfold spec_Restrict.f
      rw [sDfaOk b nx acc k (by omega), decide_eq_true hok, Option.bind_some, if_pos rfl, spec_l8Copy.f, Option.bind_some, if_pos (by simp; omega), Option.bind_some, if_pos (by simp; omega)]
      have e := sCopy b nx acc h1.2.1 (fun s hs => (hrow s hs).2) nx.length k 0 ([] ++ b) ([] ++ acc) (by omega) (by omega) (by omega)
      rw [List.take_zero] at e
      have e' : spec_l8Copy.l0 k 0 b nx acc ([] ++ b) [] ([] ++ acc) = some ([] ++ b, nx, [] ++ acc) := e
      rw [e', Option.bind_some, List.nil_append, List.nil_append]
      have q := sRes rules acc (by omega) hl b nx acc.length k 0 (by omega) (by omega) (by omega)
      rw [List.take_zero, List.drop_zero, List.map_nil, List.nil_append] at q
      exact q
    · unfold impl_Restrict.f
      rw [iDfaOk b nx acc hbl k (by omega), decide_eq_true hok, Option.bind_some, if_pos rfl, show slices_Clone_int64_int64.f b = some b by unfold slices_Clone_int64_int64.f; rw [if_pos (by omega)], Option.bind_some]
      have q := iRes rules hl b nx acc b h1.2.2 h1.2.1 hrow nx.length k 0 (by omega) (by omega) (by omega)
      rw [List.take_zero, List.take_zero, List.map_nil] at q
      exact q
  · refine ⟨[], [], [], by simp, by simp, by simp, by simp, fun k hk => ⟨?_, ?_⟩⟩
    · unfold spec_Restrict.f
      rw [sDfaOk b nx acc k (by omega), decide_eq_false h]
      rfl
    · unfold impl_Restrict.f
      rw [iDfaOk b nx acc hbl k (by omega), decide_eq_false h]
      rfl
theorem FnExactRestrict (x : List Int × List (List Int) × List Int) (g0 : gd_Int64S x.1 ∧ gd_Int64SS x.2.1 ∧ gd_Int64S x.2.2) (rules : List Int) (_g1 : gd_Int64S rules) : ∃ k, laws_FnExactRestrict.f k x.1 x.2.1 x.2.2 rules = some true := by
  obtain ⟨b, nx, acc⟩ := x
  suffices ∀ k, 10000000 ≤ k → laws_FnExactRestrict.f k b nx acc rules = some true from ⟨10000000, this _ (Nat.le_refl _)⟩
  intro k hk
  unfold laws_FnExactRestrict.f
  by_cases hrl : (rules.length : Int) > 1048576
  · rw [if_pos hrl]
  rw [if_neg hrl]
  obtain ⟨r, e, _, _, h⟩ := szL_Dfa k (by omega) b nx acc g0 1048576 (by omega)
  rw [e, Option.bind_some]
  by_cases hr : r < 0
  · rw [if_pos hr]
  · have hb := h (by omega)
    have hb' : b.length ≤ 1048576 ∧ (nx.length ≤ 1048576 ∧ ∀ y ∈ nx, y.length ≤ 1048576) ∧ acc.length ≤ 1048576 := hb
    rw [if_neg hr, if_pos]
    obtain ⟨o0, o1, o2, l0, l1, l2, l3, ho⟩ := restrict_both b nx acc rules hb'.1 (by omega)
    obtain ⟨e1, m2, z0, z1, z2, e2, e3, e4⟩ := dfaMarks o0 o1 o2 l0 l1 l2 l3 k (by omega)
    obtain ⟨y0, q0, _⟩ := markInt64S_l b.length k b 1 0 (by omega) (by omega) (by omega) (by omega) (by omega) (by omega) (by omega)
    obtain ⟨y1, q1, _⟩ := markISS_l nx hb'.2.1.1 hb'.2.1.2 (1 + b.length) (by omega) nx.length k 0 nx (by omega) (by omega) (by omega) rfl (fun _ => rfl) (fun j hj => by omega)
    have og := offI_rng hb'.2.1.2 (1 + (b.length : Int)) nx.length
    obtain ⟨y2, q2, _⟩ := markInt64S_l acc.length k acc (offI nx (1 + b.length) nx.length) 0 (by omega) (by omega) (by omega) (by omega) (by omega) (by omega) (by omega)
    obtain ⟨y3, q3, _⟩ := markInt64S_l rules.length k rules (offI nx (1 + b.length) nx.length + acc.length) 0 (by omega) (by omega) (by omega) (by omega) (by omega) (by omega) (by omega)
    refine ⟨o0, o1, o2, offI nx (1 + b.length) nx.length + acc.length, m2, offI nx (1 + b.length) nx.length + acc.length + rules.length, y0, y1, y2, z0, z1, z2, y3, toL_Dfa k (by omega) b nx acc hb, (ho k (by omega)).1, (ho k (by omega)).2, e1, eqL_Dfa k (by omega) b nx acc hb, ?_, by omega, e2, e3, e4, toL_Int64S k (by omega) rules (by omega), eqInt64S_same rules (by omega) k (by omega), q3⟩
    unfold laws_markDfa.f
    rw [show laws_markInt64S.f k b 1 = _ from q0, Option.bind_some, show laws_markInt64SS.f k nx (1 + b.length) = _ from q1, Option.bind_some, show laws_markInt64S.f k acc (offI nx (1 + b.length) nx.length) = _ from q2, Option.bind_some]
end Go.Proofs.Ytabpfejdppfcdaa.Pure
