/- The program's DeadOf and the reference's come to the same states: whatever the table. -/
import Derived.Test.YtabpfejdppfcdaaPFnExactDeadOfx7
import Derived.Test.YtabpfejdppfcdaaKit
import Derived.Test.YtabpfejdppfcdaaKitTab
namespace Go.Proofs.Ytabpfejdppfcdaa.Pure
open Go.RowKit Go.Proofs.Ytabpfejdppfcdaa.PFnExactDeadOf Go.Proofs.YtabpfejdppfcdaaW.PrintWords Go.Proofs.YtabpfejdppfcdaaW.PrintLast Go.Proofs.YtabpfejdppfcdaaW.PrintMore Go.Proofs.Ytabpfejdppfcdaa.Kit
set_option linter.unusedVariables false
theorem sIn (a b c : Int) : spec_l1In.f a b c = some (decide (b ≤ a ∧ a ≤ c)) := by
  unfold spec_l1In.f
  by_cases h : a ≥ b
  · rw [if_pos h]; congr 1; simp; omega
  · rw [if_neg h]; congr 1; simp; omega
theorem iWithin (a b c : Int) : impl_within.f a b c = some (decide (b ≤ a ∧ a ≤ c)) := by
  unfold impl_within.f
  by_cases h : a ≥ b
  · rw [if_pos h]; congr 1; simp; omega
  · rw [if_neg h]; congr 1; simp; omega
/-- two lists of numbers that are one are told alike -/
theorem eqInt64S_l (l : List Int) (hl : (l.length : Int) ≤ 1099511627776) (d : Nat) : ∀ (k : Nat) (i : Int), d < k → 0 ≤ i → (l.length : Int) - i = d → laws_eqInt64S.l0 k l l i = some true := by
  induction d with
  | zero =>
    intro k i hk h0 hd
    obtain ⟨k, rfl⟩ : ∃ m, k = m + 1 := ⟨k - 1, by omega⟩
    simp only [laws_eqInt64S.l0]
    rw [if_neg (by omega)]
  | succ d ih =>
    intro k i hk h0 hd
    obtain ⟨k, rfl⟩ : ∃ m, k = m + 1 := ⟨k - 1, by omega⟩
    simp only [laws_eqInt64S.l0]
    rw [if_pos (by omega), if_pos h0, if_pos (by omega), w64 (by omega) (by omega)]
    exact ih k _ (by omega) (by omega) (by omega)
theorem eqInt64S_same (l : List Int) (hl : (l.length : Int) ≤ 1099511627776) (k : Nat) (hk : l.length < k) : laws_eqInt64S.f k l l = some true := by
  unfold laws_eqInt64S.f
  simp only [if_true]
  exact eqInt64S_l l hl l.length k 0 hk (by omega) (by omega)

/-- what is marked is held: the marks of a list, told by its length alone -/
theorem markInt64S_l (d : Nat) : ∀ (k : Nat) (l : List Int) (m i : Int), d < k → 0 ≤ i → (l.length : Int) - i = d → (l.length : Int) ≤ 1099511627776 → 0 ≤ m → m ≤ 4398046511104 → m + d ≤ 4398046511104 →
    ∃ l', laws_markInt64S.l0 k l m i = some (m + d, l') ∧ l'.length = l.length ∧ (∀ j : Nat, (j : Int) < i → l'.getD j 0 = l.getD j 0) ∧ (∀ j : Nat, i ≤ (j : Int) → j < l.length → l'.getD j 0 = m + ((j : Int) - i)) := by
  induction d with
  | zero =>
    intro k l m i hk h0 hd hl hm hm' hmd
    obtain ⟨k, rfl⟩ : ∃ m, k = m + 1 := ⟨k - 1, by omega⟩
    refine ⟨l, ?_, rfl, fun j _ => rfl, fun j hj hj' => by omega⟩
    simp only [laws_markInt64S.l0]
    rw [if_neg (by omega)]
    simp
  | succ d ih =>
    intro k l m i hk h0 hd hl hm hm' hmd
    obtain ⟨k, rfl⟩ : ∃ m, k = m + 1 := ⟨k - 1, by omega⟩
    obtain ⟨l', e, e1, e2, e3⟩ := ih k (l.set i.toNat m) (m + 1) (i + 1) (by omega) (by omega) (by simp; omega) (by simp; omega) (by omega) (by omega) (by omega)
    refine ⟨l', ?_, by simpa using e1, fun j hj => ?_, fun j hj hj' => ?_⟩
    · simp only [laws_markInt64S.l0]
      rw [if_pos (by omega), if_pos h0, w64 (x := m + 1) (by omega) (by omega), w64 (by omega) (by omega), e]
      congr 2
      omega
    · rw [e2 j (by omega), List.getD_eq_getElem?_getD, List.getD_eq_getElem?_getD, List.getElem?_set_ne (by omega)]
    · by_cases hji : (j : Int) = i
      · rw [e2 j (by omega)]
        have : i.toNat = j := by omega
        rw [this, List.getD_eq_getElem?_getD, List.getElem?_set_self hj']
        simp; omega
      · rw [e3 j (by omega) (by simpa using hj')]
        omega
theorem heldInt64S_l (l : List Int) (hl : (l.length : Int) ≤ 1099511627776) (d : Nat) : ∀ (k : Nat) (m i : Int), d < k → 0 ≤ i → (l.length : Int) - i = d → 0 ≤ m → m + d ≤ 4398046511104 →
    (∀ j : Nat, i ≤ (j : Int) → j < l.length → l.getD j 0 = m + ((j : Int) - i)) → laws_heldInt64S.l0 k l m i = some (m + d) := by
  induction d with
  | zero =>
    intro k m i hk h0 hd hm hmd _
    obtain ⟨k, rfl⟩ : ∃ m, k = m + 1 := ⟨k - 1, by omega⟩
    simp only [laws_heldInt64S.l0]
    rw [if_neg (by omega)]
    simp
  | succ d ih =>
    intro k m i hk h0 hd hm hmd hj
    obtain ⟨k, rfl⟩ : ∃ m, k = m + 1 := ⟨k - 1, by omega⟩
    have hi := hj i.toNat (by omega) (by omega)
    simp only [laws_heldInt64S.l0]
    rw [if_pos (by omega), if_pos h0, if_pos (by unfold rd; omega), w64 (x := m + 1) (by omega) (by omega), w64 (by omega) (by omega), ih k _ _ (by omega) (by omega) (by omega) (by omega) (by omega) (fun j h h' => by rw [hj j (by omega) h']; omega)]
    congr 1
    omega
/-- the marks of a list, and that they are held -/
theorem markInt64S_held (l : List Int) (hl : (l.length : Int) ≤ 1099511627776) (m : Int) (hm : 0 ≤ m) (hm' : m ≤ 2199023255552) : ∃ l', ∀ k, l.length < k →
    laws_markInt64S.f k l m = some (m + l.length, l') ∧ laws_heldInt64S.f k l' m = some (m + l.length) := by
  obtain ⟨l', e, e1, _, e3⟩ := markInt64S_l l.length (l.length + 1) l m 0 (by omega) (by omega) (by omega) hl hm (by omega) (by omega)
  refine ⟨l', fun k hk => ⟨?_, ?_⟩⟩
  · obtain ⟨l2, f, _⟩ := markInt64S_l l.length k l m 0 hk (by omega) (by omega) hl hm (by omega) (by omega)
    have : laws_markInt64S.l0 k l m 0 = some (m + l.length, l') := at_rounds (g := fun k => laws_markInt64S.l0 k l m 0) (fun k => laws_markInt64S.mono_l k _ _ _) (by omega : l.length + 1 ≤ k) e
    exact this
  · unfold laws_heldInt64S.f
    exact heldInt64S_l l' (by omega) l.length k m 0 hk (by omega) (by omega) hm (by omega) (fun j h h' => e3 j h (by omega))
def gd_Int64S (x : List Int) : Prop := x.length ≤ maxLen ∧ ∀ y ∈ x, (Lit.int .i64 y).wf = true
def bd_Int64S (x : List Int) : Prop := x.length ≤ 1048576
def bi_Int64S (x : List Int) : Prop := x.length ≤ 1048576
def gd_Int64SS (x : List (List Int)) : Prop := x.length ≤ maxLen ∧ ∀ y ∈ x, gd_Int64S y
def bd_Int64SS (x : List (List Int)) : Prop := x.length ≤ 1048576 ∧ ∀ y ∈ x, bd_Int64S y
def bi_Int64SS (x : List (List Int)) : Prop := x.length ≤ 1048576 ∧ ∀ y ∈ x, bi_Int64S y
def gd_Dfa (x : S63) : Prop := (x.f0.length ≤ maxLen ∧ ∀ y ∈ x.f0, (Lit.int .i64 y).wf = true) ∧ (x.f1.length ≤ maxLen ∧ ∀ y ∈ x.f1, gd_Int64S y) ∧ (x.f2.length ≤ maxLen ∧ ∀ y ∈ x.f2, (Lit.int .i64 y).wf = true)
def bd_Dfa (x : S63) : Prop := (x.f0.length ≤ 1048576) ∧ (x.f1.length ≤ 1048576 ∧ ∀ y ∈ x.f1, bd_Int64S y) ∧ (x.f2.length ≤ 1048576)
def bi_Dfa (x : S66) : Prop := (x.f0.length ≤ 1048576) ∧ (x.f1.length ≤ 1048576 ∧ ∀ y ∈ x.f1, bi_Int64S y) ∧ (x.f2.length ≤ 1048576)
def c_Dfa (x : S63) : S66 := ⟨x.f0, x.f1, x.f2⟩
theorem bi_of_Dfa (x : S63) (h : bd_Dfa x) : bi_Dfa (c_Dfa x) := ⟨h.1, h.2.1, h.2.2⟩
theorem szL_Int64S (k : Nat) (hk : 1048578 ≤ k) (l : List Int) (g : l.length ≤ maxLen ∧ ∀ y ∈ l, (Lit.int .i64 y).wf = true) (n : Int) (hn : 0 ≤ n ∧ n ≤ 1048576) : ∃ r, laws_szInt64S.f l n = some r ∧ -1 ≤ r ∧ r ≤ n ∧ (0 ≤ r → l.length ≤ 1048576) := by
  have hl := g.1
  unfold maxLen at hl
  unfold laws_szInt64S.f
  rw [w64 (by omega) (by omega)]
  by_cases h : n - (l.length : Int) < 0
  · rw [if_pos h]; exact ⟨-1, rfl, by omega, by omega, fun h => by omega⟩
  · rw [if_neg h]; exact ⟨_, rfl, by omega, by omega, fun _ => by omega⟩
theorem szL_Int64SS_l (l : List (List Int)) (g : ∀ y ∈ l, gd_Int64S y) (hl : l.length ≤ 1048576) (d : Nat) : ∀ (k : Nat) (x i : Int), d + 1048578 < k → 0 ≤ i → (l.length : Int) - i = d → 0 ≤ x → x ≤ 1048576 →
    ∃ r, laws_szInt64SS.l0 k l x i = some r ∧ -1 ≤ r ∧ r ≤ x ∧ (0 ≤ r → ∀ j : Nat, i ≤ (j : Int) → (h : j < l.length) → bd_Int64S l[j]) := by
  induction d with
  | zero =>
    intro k x i hk h0 hd g0 g1
    obtain ⟨k, rfl⟩ : ∃ m, k = m + 1 := ⟨k - 1, by omega⟩
    refine ⟨x, ?_, by omega, by omega, fun _ j h1 h2 => by omega⟩
    simp only [laws_szInt64SS.l0]
    rw [if_neg (by omega)]
  | succ d ih =>
    intro k x i hk h0 hd g0 g1
    obtain ⟨k, rfl⟩ : ∃ m, k = m + 1 := ⟨k - 1, by omega⟩
    have hi : i.toNat < l.length := by omega
    have e : rd_L1 l i = l[i.toNat] := by
      unfold rd_L1
      rw [List.getD_eq_getElem?_getD, List.getElem?_eq_getElem hi]
      rfl
    have hg := g l[i.toNat] (List.getElem_mem hi)
    obtain ⟨r, er, r1, r2, r3⟩ := szL_Int64S k (by omega) l[i.toNat] hg x ⟨g0, g1⟩
    simp only [laws_szInt64SS.l0, e]
    rw [if_pos (by omega), if_pos h0, er]
    simp only [Option.bind_some]
    by_cases hr : r < 0
    · rw [if_pos hr]; exact ⟨-1, rfl, by omega, by omega, fun h => by omega⟩
    · rw [if_neg hr, w64 (by omega) (by omega)]
      obtain ⟨q, eq, q1, q2, q3⟩ := ih k r (i + 1) (by omega) (by omega) (by omega) (by omega) (by omega)
      refine ⟨q, eq, q1, by omega, fun h j h1 h2 => ?_⟩
      by_cases hj : (j : Int) = i
      · have : j = i.toNat := by omega
        subst this; exact r3 (by omega)
      · exact q3 h j (by omega) h2
theorem szL_Int64SS (k : Nat) (hk : 2097156 ≤ k) (l : List (List Int)) (g : l.length ≤ maxLen ∧ ∀ y ∈ l, gd_Int64S y) (n : Int) (hn : 0 ≤ n ∧ n ≤ 1048576) : ∃ r, laws_szInt64SS.f k l n = some r ∧ -1 ≤ r ∧ r ≤ n ∧ (0 ≤ r → l.length ≤ 1048576 ∧ ∀ y ∈ l, bd_Int64S y) := by
  have hl := g.1
  unfold maxLen at hl
  unfold laws_szInt64SS.f
  rw [w64 (x := n - (l.length : Int)) (by omega) (by omega)]
  by_cases h : n - (l.length : Int) < 0
  · rw [if_pos h]; exact ⟨-1, rfl, by omega, by omega, fun h => by omega⟩
  · rw [if_neg h]
    obtain ⟨r, e, r1, r2, r3⟩ := szL_Int64SS_l l g.2 (by omega) l.length k (n - (l.length : Int)) 0 (by omega) (by omega) (by omega) (by omega) (by omega)
    exact ⟨r, e, r1, by omega, fun hr => ⟨by omega, fun y hy => by
      obtain ⟨j, hj, rfl⟩ := List.mem_iff_getElem.1 hy
      exact r3 hr j (by omega) hj⟩⟩
theorem szL_Dfa (k : Nat) (hk : 2097156 ≤ k) (f0 : List Int) (f1 : List (List Int)) (f2 : List Int) (g : (f0.length ≤ maxLen ∧ ∀ y ∈ f0, (Lit.int .i64 y).wf = true) ∧ (f1.length ≤ maxLen ∧ ∀ y ∈ f1, gd_Int64S y) ∧ (f2.length ≤ maxLen ∧ ∀ y ∈ f2, (Lit.int .i64 y).wf = true)) (n : Int) (hn : 0 ≤ n ∧ n ≤ 1048576) : ∃ r, laws_szDfa.f k f0 f1 f2 n = some r ∧ -1 ≤ r ∧ r ≤ n ∧ (0 ≤ r → (f0.length ≤ 1048576) ∧ (f1.length ≤ 1048576 ∧ ∀ y ∈ f1, bd_Int64S y) ∧ (f2.length ≤ 1048576)) := by
  unfold laws_szDfa.f
  obtain ⟨r1, e1, a1, b1, d1⟩ := szL_Int64S k (by omega) f0 g.1 n (by omega)
  rw [e1]
  simp only [Option.bind_some]
  by_cases c1 : r1 < 0
  · rw [if_pos c1]; exact ⟨-1, rfl, by omega, by omega, fun h => by omega⟩
  rw [if_neg c1]
  obtain ⟨r2, e2, a2, b2, d2⟩ := szL_Int64SS k (by omega) f1 g.2.1 r1 (by omega)
  rw [e2]
  simp only [Option.bind_some]
  by_cases c2 : r2 < 0
  · rw [if_pos c2]; exact ⟨-1, rfl, by omega, by omega, fun h => by omega⟩
  rw [if_neg c2]
  obtain ⟨r3, e3, a3, b3, d3⟩ := szL_Int64S k (by omega) f2 g.2.2 r2 (by omega)
  rw [e3]
  simp only [Option.bind_some]
  by_cases c3 : r3 < 0
  · rw [if_pos c3]; exact ⟨-1, rfl, by omega, by omega, fun h => by omega⟩
  rw [if_neg c3]
  exact ⟨r3, rfl, by omega, by omega, fun _ => ⟨(d1 (by omega)), (d2 (by omega)), (d3 (by omega))⟩⟩
theorem toL_Int64S_l (l : List Int) (hl : l.length ≤ 1048576) (d : Nat) : ∀ (k : Nat) (acc : List Int) (i : Int), d + 0 < k → 0 ≤ i → (l.length : Int) - i = d → acc.length = l.length →
    laws_toInt64S.l0 k l acc i = some (acc.take i.toNat ++ (l).drop i.toNat) := by
  induction d with
  | zero =>
    intro k acc i hk h0 hd ha
    obtain ⟨k, rfl⟩ : ∃ m, k = m + 1 := ⟨k - 1, by omega⟩
    simp only [laws_toInt64S.l0]
    rw [if_neg (by omega), List.take_of_length_le (by omega), List.drop_eq_nil_of_le (by first | omega | (rw [List.length_map]; omega)), List.append_nil]
  | succ d ih =>
    intro k acc i hk h0 hd ha
    obtain ⟨k, rfl⟩ : ∃ m, k = m + 1 := ⟨k - 1, by omega⟩
    have hi : i.toNat < l.length := by omega
    have e : rd l i = l[i.toNat] := by
      unfold rd
      rw [List.getD_eq_getElem?_getD, List.getElem?_eq_getElem hi]
      rfl
    simp only [laws_toInt64S.l0, e]
    rw [if_pos (by omega), if_pos h0, if_pos (by omega), w64 (by omega) (by omega), ih k _ _ (by omega) (by omega) (by omega) (by simpa using ha)]
    have e1 : (i + 1).toNat = i.toNat + 1 := by omega
    rw [e1, List.take_succ_eq_append_getElem (by simp; omega), List.take_set_of_le (Nat.le_refl _), List.getElem_set_self, List.append_assoc, List.singleton_append]
    congr 2
    rw [List.drop_eq_getElem_cons (i := i.toNat) hi]
theorem toL_Int64S (k : Nat) (hk : 1048578 ≤ k) (l : List Int) (g : l.length ≤ 1048576) : laws_toInt64S.f k l = some (l) := by
  have hl : l.length ≤ 1048576 := g
  unfold laws_toInt64S.f
  rw [if_pos (by omega), if_pos (by omega), toL_Int64S_l l hl l.length k _ 0 (by omega) (by omega) (by omega) (by simp)]
  simp
theorem toL_Int64SS_l (l : List (List Int)) (g : ∀ y ∈ l, bd_Int64S y) (hl : l.length ≤ 1048576) (d : Nat) : ∀ (k : Nat) (acc : List (List Int)) (i : Int), d + 1048578 < k → 0 ≤ i → (l.length : Int) - i = d → acc.length = l.length →
    laws_toInt64SS.l0 k l acc i = some (acc.take i.toNat ++ (l).drop i.toNat) := by
  induction d with
  | zero =>
    intro k acc i hk h0 hd ha
    obtain ⟨k, rfl⟩ : ∃ m, k = m + 1 := ⟨k - 1, by omega⟩
    simp only [laws_toInt64SS.l0]
    rw [if_neg (by omega), List.take_of_length_le (by omega), List.drop_eq_nil_of_le (by first | omega | (rw [List.length_map]; omega)), List.append_nil]
  | succ d ih =>
    intro k acc i hk h0 hd ha
    obtain ⟨k, rfl⟩ : ∃ m, k = m + 1 := ⟨k - 1, by omega⟩
    have hi : i.toNat < l.length := by omega
    have e : rd_L1 l i = l[i.toNat] := by
      unfold rd_L1
      rw [List.getD_eq_getElem?_getD, List.getElem?_eq_getElem hi]
      rfl
    have ee := toL_Int64S k (by omega) l[i.toNat] (g l[i.toNat] (List.getElem_mem hi))
    simp only [laws_toInt64SS.l0, e]
    rw [if_pos (by omega), if_pos h0]
    first | rw [ee] | skip
    try simp only [Option.bind_some]
    rw [if_pos (by omega)]
    try rw [ee]
    try simp only [Option.bind_some]
    try rw [if_pos (by omega)]
    rw [w64 (by omega) (by omega)]
    rw [ih k _ _ (by omega) (by omega) (by omega) (by simpa using ha)]
    have e1 : (i + 1).toNat = i.toNat + 1 := by omega
    rw [e1, List.take_succ_eq_append_getElem (by simp; omega), List.take_set_of_le (Nat.le_refl _), List.getElem_set_self, List.append_assoc, List.singleton_append]
    congr 2
    rw [List.drop_eq_getElem_cons (i := i.toNat) hi]
theorem toL_Int64SS (k : Nat) (hk : 2097156 ≤ k) (l : List (List Int)) (g : l.length ≤ 1048576 ∧ ∀ y ∈ l, bd_Int64S y) : laws_toInt64SS.f k l = some (l) := by
  have hl : l.length ≤ 1048576 := g.1
  unfold laws_toInt64SS.f
  rw [if_pos (by omega), if_pos (by omega), toL_Int64SS_l l g.2 hl l.length k _ 0 (by omega) (by omega) (by omega) (by simp)]
  simp
theorem toL_Dfa (k : Nat) (hk : 2097156 ≤ k) (f0 : List Int) (f1 : List (List Int)) (f2 : List Int) (g : (f0.length ≤ 1048576) ∧ (f1.length ≤ 1048576 ∧ ∀ y ∈ f1, bd_Int64S y) ∧ (f2.length ≤ 1048576)) : laws_toDfa.f k f0 f1 f2 = some (f0, f1, f2) := by
  unfold laws_toDfa.f
  rw [toL_Int64S k (by omega) f0 (g.1)]
  simp only [Option.bind_some]
  rw [toL_Int64SS k (by omega) f1 (g.2.1)]
  simp only [Option.bind_some]
  rw [toL_Int64S k (by omega) f2 (g.2.2)]
  simp only [Option.bind_some]
  all_goals (first | rfl | simp)
theorem eqL_Int64S_l (l : List Int) (hl : l.length ≤ 1048576) (d : Nat) : ∀ (k : Nat) (i : Int), d + 0 < k → 0 ≤ i → (l.length : Int) - i = d → laws_eqInt64S.l0 k l l i = some true := by
  induction d with
  | zero =>
    intro k i hk h0 hd
    obtain ⟨k, rfl⟩ : ∃ m, k = m + 1 := ⟨k - 1, by omega⟩
    simp only [laws_eqInt64S.l0]
    rw [if_neg (by omega)]
  | succ d ih =>
    intro k i hk h0 hd
    obtain ⟨k, rfl⟩ : ∃ m, k = m + 1 := ⟨k - 1, by omega⟩
    have hi : i.toNat < l.length := by omega
    simp only [laws_eqInt64S.l0]
    rw [if_pos (by omega), if_pos h0, if_pos (by omega)]
    simp only [if_true]
    rw [w64 (by omega) (by omega)]
    exact ih k _ (by omega) (by omega) (by omega)
theorem eqL_Int64S (k : Nat) (hk : 1048578 ≤ k) (l : List Int) (g : l.length ≤ 1048576) : laws_eqInt64S.f k l l = some true := by
  have hl : l.length ≤ 1048576 := g
  unfold laws_eqInt64S.f
  simp only [if_true]
  exact eqL_Int64S_l l hl l.length k 0 (by omega) (by omega) (by omega)
theorem eqL_Int64SS_l (l : List (List Int)) (g : ∀ y ∈ l, bi_Int64S y) (hl : l.length ≤ 1048576) (d : Nat) : ∀ (k : Nat) (i : Int), d + 1048578 < k → 0 ≤ i → (l.length : Int) - i = d → laws_eqInt64SS.l0 k l l i = some true := by
  induction d with
  | zero =>
    intro k i hk h0 hd
    obtain ⟨k, rfl⟩ : ∃ m, k = m + 1 := ⟨k - 1, by omega⟩
    simp only [laws_eqInt64SS.l0]
    rw [if_neg (by omega)]
  | succ d ih =>
    intro k i hk h0 hd
    obtain ⟨k, rfl⟩ : ∃ m, k = m + 1 := ⟨k - 1, by omega⟩
    have hi : i.toNat < l.length := by omega
    have e : rd_L1 l i = l[i.toNat] := by
      unfold rd_L1
      rw [List.getD_eq_getElem?_getD, List.getElem?_eq_getElem hi]
      rfl
    have ee := eqL_Int64S k (by omega) l[i.toNat] (g l[i.toNat] (List.getElem_mem hi))
    simp only [laws_eqInt64SS.l0, e]
    rw [if_pos (by omega), if_pos h0, if_pos (by omega), ee]
    simp only [Option.bind_some, if_true]
    rw [w64 (by omega) (by omega)]
    exact ih k _ (by omega) (by omega) (by omega)
theorem eqL_Int64SS (k : Nat) (hk : 2097156 ≤ k) (l : List (List Int)) (g : l.length ≤ 1048576 ∧ ∀ y ∈ l, bi_Int64S y) : laws_eqInt64SS.f k l l = some true := by
  have hl : l.length ≤ 1048576 := g.1
  unfold laws_eqInt64SS.f
  simp only [if_true]
  exact eqL_Int64SS_l l g.2 hl l.length k 0 (by omega) (by omega) (by omega)
theorem eqL_Dfa (k : Nat) (hk : 2097156 ≤ k) (f0 : List Int) (f1 : List (List Int)) (f2 : List Int) (g : (f0.length ≤ 1048576) ∧ (f1.length ≤ 1048576 ∧ ∀ y ∈ f1, bi_Int64S y) ∧ (f2.length ≤ 1048576)) : laws_eqDfa.f k f0 f1 f2 f0 f1 f2 = some true := by
  unfold laws_eqDfa.f
  simp [eqL_Int64S k (by omega) f0 (g.1), eqL_Int64SS k (by omega) f1 (g.2.1), eqL_Int64S k (by omega) f2 (g.2.2)]
theorem sBlocks_l (l : List Int) (hl : l.length = 256) (d : Nat) : ∀ (k i : Nat) (n : Int), d < k → 256 - i = d → i ≤ 256 → 0 ≤ n → n ≤ i → spec_l7Blocks.l0 k l n (i : Int) = some ((blkLoop l d i n).getD (-1)) := by
  induction d with
  | zero =>
    intro k i n hk hd hi h0 h1
    obtain ⟨k, rfl⟩ : ∃ m, k = m + 1 := ⟨k - 1, by omega⟩
    simp only [spec_l7Blocks.l0]
    rw [if_neg (by omega)]
    rfl
  | succ d ih =>
    intro k i n hk hd hi h0 h1
    obtain ⟨k, rfl⟩ : ∃ m, k = m + 1 := ⟨k - 1, by omega⟩
    simp only [spec_l7Blocks.l0, sIn, Option.bind_some, decide_eq_true_eq]
    rw [if_pos (by omega), if_pos (by omega), if_pos (by omega)]
    unfold blkLoop
    by_cases hc : 0 ≤ rd l (i : Int) ∧ rd l (i : Int) ≤ n
    · rw [if_pos hc, if_pos hc, w64 (x := rd l (i : Int) + 1) (by omega) (by omega), nat_next (by omega)]
      exact ih k (i + 1) _ (by omega) (by omega) (by omega) (by have := le_mx_left n (rd l (i : Int) + 1); omega) (mx_le (by omega) (by omega))
    · rw [if_neg hc, if_neg hc]
      rfl
theorem sBlocks (l : List Int) (k : Nat) (hk : 300 ≤ k) : spec_l7Blocks.f k l = some ((blocksM l).getD (-1)) := by
  unfold spec_l7Blocks.f blocksM
  by_cases h : l.length = 256
  · rw [if_pos (by omega), if_pos h]
    exact sBlocks_l l h 256 k 0 0 (by omega) (by omega) (by omega) (by omega) (by omega)
  · rw [if_neg (by omega), if_neg h]
    rfl
theorem iBlocks_l (l : List Int) (hl : l.length ≤ 1048576) (d : Nat) : ∀ (k i : Nat) (n : Int), d < k → l.length - i = d → i ≤ l.length → 0 ≤ n → n ≤ i →
    impl_blocksOk.l0 k l (n - 1) l (l.length : Int) (i : Int) = some (match blkLoop l d i n with | some m => (m, ((l.length : Int) == 256)) | none => (0, false)) := by
  induction d with
  | zero =>
    intro k i n hk hd hi h0 h1
    obtain ⟨k, rfl⟩ : ∃ m, k = m + 1 := ⟨k - 1, by omega⟩
    simp only [impl_blocksOk.l0]
    rw [if_neg (by omega), w64 (by omega) (by omega), Int.sub_add_cancel]
    rfl
  | succ d ih =>
    intro k i n hk hd hi h0 h1
    obtain ⟨k, rfl⟩ : ∃ m, k = m + 1 := ⟨k - 1, by omega⟩
    simp only [impl_blocksOk.l0, iWithin, Option.bind_some, decide_eq_true_eq]
    rw [if_pos (by omega), if_pos (by omega), if_pos (by omega), w64 (x := n - 1 + 1) (by omega) (by omega), Int.sub_add_cancel]
    unfold blkLoop
    by_cases hc : 0 ≤ rd l (i : Int) ∧ rd l (i : Int) ≤ n
    · rw [if_pos hc, if_pos hc, nat_next (by omega)]
      have e : mx (n - 1) (rd l (i : Int)) = mx n (rd l (i : Int) + 1) - 1 := by unfold mx; split <;> split <;> omega
      rw [e]
      exact ih k (i + 1) _ (by omega) (by omega) (by omega) (by have := le_mx_left n (rd l (i : Int) + 1); omega) (mx_le (by omega) (by omega))
    · rw [if_neg hc, if_neg hc]
/-- what the program's blocksOk tells -/
theorem iBlocks (l : List Int) (hl : l.length ≤ 1048576) (k : Nat) (hk : 1048578 ≤ k) : ∃ r, impl_blocksOk.f k l = some r ∧ r.2 = (blocksM l).isSome ∧ ∀ m, blocksM l = some m → r.1 = m := by
  unfold impl_blocksOk.f
  have e : impl_blocksOk.l0 k l (-1) l (l.length : Int) 0 = _ := iBlocks_l l hl l.length k 0 0 (by omega) (by omega) (by omega) (by omega) (by omega)
  refine ⟨_, e, ?_, ?_⟩
  · unfold blocksM
    by_cases h : l.length = 256
    · rw [if_pos h, h]
      cases blkLoop l 256 0 0 <;> rfl
    · rw [if_neg h]
      cases blkLoop l l.length 0 0
      · rfl
      · show ((l.length : Int) == 256) = false
        rw [beq_eq_false_iff_ne]
        omega
  · intro m hm
    unfold blocksM at hm
    by_cases h : l.length = 256
    · rw [if_pos h] at hm
      rw [h, hm]
    · rw [if_neg h] at hm
      exact absurd hm (by simp)
theorem rdL_row (nx : List (List Int)) (i : Int) : rd_L1 nx i = drow nx i.toNat := rfl
def cellP (nx : List (List Int)) (s : Nat) (j : Nat) : Prop := 0 ≤ rd (drow nx s) (j : Int) ∧ rd (drow nx s) (j : Int) ≤ (nx.length : Int) - 1
open Classical in
theorem sDfa_l1 (b : List Int) (nx : List (List Int)) (acc : List Int) (hn : 1 ≤ nx.length ∧ nx.length ≤ 1000) (m : Int) (s : Nat) (hs : s < nx.length) (hm : ((drow nx s).length : Int) = m) (m1 : m ≤ 256) (K : Nat) (Q : Prop)
    (H : ∀ k, K < k → spec_DfaOk.l0 k (nx.length : Int) m ((s + 1 : Nat) : Int) b nx acc = some (decide Q)) (d : Nat) : ∀ (k j : Nat), d + K + 1 < k → (drow nx s).length - j = d → j ≤ (drow nx s).length →
    spec_DfaOk.l1 k (nx.length : Int) m (s : Int) (j : Int) b nx acc = some (decide (fromN (cellP nx s) (drow nx s).length j ∧ Q)) := by
  induction d with
  | zero =>
    intro k j hk hd hj
    obtain ⟨k, rfl⟩ : ∃ m, k = m + 1 := ⟨k - 1, by omega⟩
    simp only [spec_DfaOk.l1]
    rw [if_neg (by omega), nat_next (by omega), H k (by omega)]
    exact congrArg some (decide_eq_decide.2 ⟨fun h => ⟨fromN_end (by omega), h⟩, fun h => h.2⟩)
  | succ d ih =>
    intro k j hk hd hj
    obtain ⟨k, rfl⟩ : ∃ m, k = m + 1 := ⟨k - 1, by omega⟩
    have hlt : j < (drow nx s).length := by omega
    have es : ((s : Nat) : Int).toNat = s := by omega
    simp only [spec_DfaOk.l1, sIn, Option.bind_some, decide_eq_true_eq, rdL_row, es]
    rw [if_pos (by omega), if_pos (by omega), if_pos (by omega), if_pos (by omega), if_pos (by omega), w64 (x := (nx.length : Int) - 1) (by omega) (by omega), nat_next (by omega)]
    by_cases h1 : 0 ≤ rd (drow nx s) (j : Int) ∧ rd (drow nx s) (j : Int) ≤ (nx.length : Int) - 1
    · rw [if_pos h1, ih k (j + 1) (by omega) (by omega) (by omega)]; exact congrArg some (decide_eq_decide.2 (fromN_go hlt h1))
    · rw [if_neg h1, decide_eq_false (fromN_no hlt h1)]
open Classical in
theorem sDfa_l0 (b : List Int) (nx : List (List Int)) (acc : List Int) (hn : 1 ≤ nx.length ∧ nx.length ≤ 1000) (ha : acc.length = nx.length) (m : Int) (m1 : m ≤ 256) (d : Nat) : ∀ (k s : Nat), d * 300 < k → nx.length - s = d → s ≤ nx.length →
    spec_DfaOk.l0 k (nx.length : Int) m (s : Int) b nx acc = some (decide (fromN (rowP nx m acc) nx.length s)) := by
  induction d with
  | zero =>
    intro k s hk hd hs
    obtain ⟨k, rfl⟩ : ∃ m, k = m + 1 := ⟨k - 1, by omega⟩
    simp only [spec_DfaOk.l0]
    rw [if_neg (by omega), decide_eq_true (fromN_end (by omega))]
  | succ d ih =>
    intro k s hk hd hs
    obtain ⟨k, rfl⟩ : ∃ m, k = m + 2 := ⟨k - 2, by omega⟩
    have hlt : s < nx.length := by omega
    have es : ((s : Nat) : Int).toNat = s := by omega
    have hst := fromN_step (P := rowP nx m acc) hlt
    simp only [spec_DfaOk.l0, sIn, Option.bind_some, decide_eq_true_eq, rdL_row, es]
    rw [if_pos (by omega), if_pos (by omega), if_pos (by omega)]
    by_cases h1 : -1 ≤ rd acc (s : Int) ∧ rd acc (s : Int) ≤ 39
    · rw [if_pos h1, if_pos (by omega)]
      by_cases h2 : ((drow nx s).length : Int) = m
      · rw [bne_eq_false_iff_eq.2 h2]
        simp only [spec_DfaOk.j2]
        rw [if_neg (by simp)]
        have e : spec_DfaOk.l1 k (nx.length : Int) m (s : Int) 0 b nx acc = _ := sDfa_l1 b nx acc hn m s hlt h2 m1 (d * 300) _ (fun k hk => ih k (s + 1) hk (by omega) (by omega)) (drow nx s).length k 0 (by omega) (by omega) (by omega)
        rw [e]
        refine congrArg some (decide_eq_decide.2 ⟨fun h => hst.2 ⟨⟨h1, h2, fun i hi => h.1 i (by omega) hi⟩, h.2⟩, fun h => ⟨fun i _ hi => (hst.1 h).1.2.2 i hi, (hst.1 h).2⟩⟩)
      · rw [bne_iff_ne.2 h2]
        simp only [spec_DfaOk.j2]
        rw [if_pos trivial, decide_eq_false (fun h => h2 (hst.1 h).1.2.1)]
    · rw [if_neg h1]
      simp only [spec_DfaOk.j2]
      rw [if_pos trivial, decide_eq_false (fun h => h1 (hst.1 h).1.1)]
open Classical in
theorem sDfaOk (b : List Int) (nx : List (List Int)) (acc : List Int) (k : Nat) (hk : 400000 ≤ k) : spec_DfaOk.f k b nx acc = some (decide (dfaOk b nx acc)) := by
  obtain ⟨k, rfl⟩ : ∃ m, k = m + 1 := ⟨k - 1, by omega⟩
  unfold spec_DfaOk.f
  rw [sBlocks b _ (by omega)]
  simp only [Option.bind_some]
  have no : ∀ x, ¬ dfaOk b nx acc → spec_DfaOk.j0 (k + 1) (nx.length : Int) x true b nx acc = some (decide (dfaOk b nx acc)) := by
    intro x h
    rw [decide_eq_false h]
    simp [spec_DfaOk.j0]
  by_cases h1 : (nx.length : Int) < 1
  · rw [if_pos h1]
    exact no _ (fun ⟨m, _, g, _⟩ => by omega)
  · rw [if_neg h1]
    by_cases h2 : (nx.length : Int) > 1000
    · rw [if_pos h2]
      exact no _ (fun ⟨m, _, g, _⟩ => by omega)
    · rw [if_neg h2]
      by_cases h3 : (acc.length : Int) = (nx.length : Int)
      · rw [if_pos h3]
        cases hb : blocksM b with
        | none =>
          rw [decide_eq_true (by simp)]
          exact no _ (fun ⟨m, g, _, _⟩ => by rw [hb] at g; exact absurd g (by simp))
        | some m =>
          have hm := blocksM_some hb
          rw [decide_eq_false (by simp; omega)]
          simp only [spec_DfaOk.j0, Option.getD_some]
          rw [if_neg (by simp)]
          have e : spec_DfaOk.l0 k (nx.length : Int) m 0 b nx acc = _ := sDfa_l0 b nx acc (by omega) (by omega) m (by omega) nx.length k 0 (by omega) (by omega) (by omega)
          rw [e]
          exact congrArg some (decide_eq_decide.2 (dfaOk_iff hb (by omega)).symm)
      · rw [if_neg h3]
        exact no _ (fun ⟨m, _, g, _⟩ => by omega)
theorem drow_mem {nx : List (List Int)} {P : List Int → Prop} : (∀ row ∈ nx, P row) ↔ ∀ i, i < nx.length → P (drow nx i) := by
  unfold drow
  constructor
  · intro h i hi
    rw [List.getD_eq_getElem?_getD, List.getElem?_eq_getElem hi]
    exact h _ (List.getElem_mem hi)
  · intro h x hx
    obtain ⟨i, hi, rfl⟩ := List.mem_iff_getElem.1 hx
    have := h i hi
    rw [List.getD_eq_getElem?_getD, List.getElem?_eq_getElem hi] at this
    exact this
open Classical in
theorem iDfaOk (b : List Int) (nx : List (List Int)) (acc : List Int) (hbl : b.length ≤ 1048576) (k : Nat) (hk : 1300000 ≤ k) : impl_DfaOk.f k b nx acc = some (decide (dfaOk b nx acc)) := by
  obtain ⟨⟨m', ok⟩, er, r2, r1⟩ := iBlocks b hbl k (by omega)
  unfold impl_DfaOk.f
  by_cases h1 : 1 ≤ (nx.length : Int) ∧ (nx.length : Int) ≤ 1000
  · rw [if_pos h1]
    by_cases h2 : (acc.length : Int) = (nx.length : Int)
    · rw [if_pos h2]
      by_cases h3 : ∀ x ∈ acc, -1 ≤ x ∧ x ≤ 39
      · rw [if_pos h3, er]
        simp only [Option.bind_some]
        simp only at r2
        rw [r2]
        cases hb : blocksM b with
        | none =>
          rw [if_neg (by simp), decide_eq_false (fun ⟨m, g, _, _⟩ => by rw [hb] at g; exact absurd g (by simp))]
        | some m =>
          have e := r1 m hb
          simp only at e
          subst e
          rw [if_pos (by simp)]
          refine congrArg some (decide_eq_decide.2 ?_)
          rw [dfaOk_iff hb (by omega), drow_mem]
          rw [inR_mem] at h3
          constructor
          · intro h i _ hi
            have := h i hi
            exact ⟨h3 i (by omega), this.1, (inR_mem _ _ _).1 this.2⟩
          · intro h i hi
            have := h i (by omega) hi
            exact ⟨this.2.1, (inR_mem _ _ _).2 this.2.2⟩
      · rw [if_neg h3, decide_eq_false]
        rintro ⟨m, _, g, h⟩
        rw [inR_mem] at h3
        exact h3 (fun i hi => (h i (by omega) (by omega)).1)
    · rw [if_neg h2, decide_eq_false (fun ⟨m, _, g, _⟩ => by omega)]
  · rw [if_neg h1, decide_eq_false (fun ⟨m, _, g, _⟩ => by omega)]
/-- where the marks of a row of rows begin -/
def offI (x : List (List Int)) (m : Int) : Nat → Int
  | 0 => m
  | i + 1 => offI x m i + ((x.getD i []).length : Int)
theorem rowI {x : List (List Int)} (h : ∀ row ∈ x, row.length ≤ 1048576) (i : Nat) : (x.getD i []).length ≤ 1048576 := by
  rw [List.getD_eq_getElem?_getD]
  by_cases hi : i < x.length
  · rw [List.getElem?_eq_getElem hi]; exact h _ (List.getElem_mem hi)
  · rw [List.getElem?_eq_none (by omega)]; simp
theorem offI_rng {x : List (List Int)} (h : ∀ row ∈ x, row.length ≤ 1048576) (m : Int) : ∀ i, m ≤ offI x m i ∧ offI x m i ≤ m + 1048576 * (i : Int)
  | 0 => by simp [offI]
  | i + 1 => by have := offI_rng h m i; have := rowI h i; simp only [offI]; omega
def markedI (c : Int) (y : List Int) : Prop := ∀ j : Nat, (0 : Int) ≤ (j : Int) → j < y.length → y.getD j 0 = c + ((j : Int) - 0)
theorem getD_set_ri (l : List (List Int)) (a : Nat) (v : List Int) (j : Nat) (h : a < l.length) : (l.set a v).getD j [] = if a = j then v else l.getD j [] := by
  rw [List.getD_eq_getElem?_getD, List.getD_eq_getElem?_getD, List.getElem?_set]
  by_cases e : a = j
  · subst e; simp [h]
  · simp [e]
theorem markISS_l (x : List (List Int)) (hx : x.length ≤ 1048576) (h4 : ∀ row ∈ x, row.length ≤ 1048576) (m : Int) (m0 : 0 ≤ m ∧ m ≤ 1099511627776) (d : Nat) : ∀ (k i : Nat) (y : List (List Int)), d + 1048580 < k → x.length - i = d → i ≤ x.length → y.length = x.length → (∀ j, (y.getD j []).length = (x.getD j []).length) → (∀ j, j < i → markedI (offI x m j) (y.getD j [])) →
    ∃ y', laws_markInt64SS.l0 k y (offI x m i) (i : Int) = some (offI x m x.length, y') ∧ y'.length = x.length ∧ (∀ j, (y'.getD j []).length = (x.getD j []).length) ∧ (∀ j, j < x.length → markedI (offI x m j) (y'.getD j [])) := by
  induction d with
  | zero =>
    intro k i y hk hd hi hy hl hm
    obtain ⟨k, rfl⟩ : ∃ m, k = m + 1 := ⟨k - 1, by omega⟩
    obtain rfl : i = x.length := by omega
    exact ⟨y, by rw [laws_markInt64SS.l0, if_neg (by omega)], hy, hl, hm⟩
  | succ d ih =>
    intro k i y hk hd hi hy hl hm
    obtain ⟨k, rfl⟩ : ∃ m, k = m + 1 := ⟨k - 1, by omega⟩
    have o := offI_rng h4 m i
    have r4 := rowI h4 i
    have hli := hl i
    obtain ⟨z, e, z1, _, z2⟩ := markInt64S_l (y.getD i []).length k (y.getD i []) (offI x m i) 0 (by omega) (by omega) (by omega) (by omega) (by omega) (by omega) (by omega)
    have e' : laws_markInt64S.f k (y.getD i []) (offI x m i) = some (offI x m (i + 1), z) := by
      unfold laws_markInt64S.f
      rw [e, hli]
      rfl
    rw [laws_markInt64SS.l0, if_pos (by omega), if_pos (by omega), Int.toNat_natCast, e', Option.bind_some, nat_next (by omega)]
    refine ih k (i + 1) (y.set i z) (by omega) (by omega) (by omega) (by rw [List.length_set]; exact hy) (fun j => ?_) (fun j hj => ?_)
    · rw [getD_set_ri _ _ _ _ (by omega)]
      split
      · rename_i q; subst q; rw [z1, hli]
      · exact hl j
    · rw [getD_set_ri _ _ _ _ (by omega)]
      split
      · rename_i q; subst q; intro j' h0 h1; exact z2 j' h0 (by omega)
      · exact hm j (by omega)
theorem rdLI (y : List (List Int)) (i : Nat) : rd_L1 y (i : Int) = y.getD i [] := by
  unfold rd_L1
  rw [Int.toNat_natCast]
/-- the states from which one with an accept can be come to -/
inductive AliveD (nx : List (List Int)) (acc : List Int) : Nat → Prop
  | here {s : Nat} : s < nx.length → 0 ≤ rd acc (s : Int) → AliveD nx acc s
  | step {s t : Nat} : s < nx.length → (t : Int) ∈ drow nx s → AliveD nx acc t → AliveD nx acc s
/-- flags of which nothing changes any more: those that are dead -/
theorem dead_fix {nx : List (List Int)} {acc : List Int} {out : List Bool} (inv : ∀ s, s < nx.length → out.getD s false = false → AliveD nx acc s)
    (fix : ∀ s, s < nx.length → out.getD s false = true → rd acc (s : Int) < 0 ∧ ∀ t : Nat, (t : Int) ∈ drow nx s → out.getD t false = true) :
    ∀ s, s < nx.length → (out.getD s false = true ↔ ¬ AliveD nx acc s) := by
  have key : ∀ s, AliveD nx acc s → out.getD s false = false := by
    intro s h
    induction h with
    | here hs ha =>
      rename_i s
      cases e : out.getD s false
      · rfl
      · have := (fix s hs e).1; omega
    | @step s t hs ht _ ih =>
      cases e : out.getD s false
      · rfl
      · rw [(fix s hs e).2 t ht] at ih; cases ih
  intro s hs
  constructor
  · intro h g
    rw [key s g] at h; cases h
  · intro h
    cases e : out.getD s false
    · exact absurd (inv s hs e) h
    · rfl
theorem alive_fix {nx : List (List Int)} {acc : List Int} {out : List Bool} (inv : ∀ s, s < nx.length → out.getD s false = true → AliveD nx acc s)
    (fix : ∀ s, s < nx.length → out.getD s false = false → rd acc (s : Int) < 0 ∧ ∀ t : Nat, (t : Int) ∈ drow nx s → out.getD t false = false) :
    ∀ s, s < nx.length → (out.getD s false = true ↔ AliveD nx acc s) := by
  have key : ∀ s, AliveD nx acc s → out.getD s false = true := by
    intro s h
    induction h with
    | here hs ha =>
      rename_i s
      cases e : out.getD s false
      · have := (fix s hs e).1; omega
      · rfl
    | @step s t hs ht _ ih =>
      cases e : out.getD s false
      · rw [(fix s hs e).2 t ht] at ih; cases ih
      · rfl
  exact fun s hs => ⟨fun h => inv s hs h, fun h => key s h⟩
theorem rdB (x : List Bool) (i : Nat) : rdOf false x (i : Int) = x.getD i false := by unfold rdOf; rw [Int.toNat_natCast]
theorem getD_setB (x : List Bool) (i j : Nat) (v : Bool) (h : i < x.length) : (x.set i v).getD j false = if i = j then v else x.getD j false := by
  rw [List.getD_eq_getElem?_getD, List.getD_eq_getElem?_getD, List.getElem?_set]
  by_cases e : i = j
  · subst e; simp [h]
  · simp [e]
theorem getD_get (x : List Bool) (i : Nat) (h : i < x.length) : x.getD i false = x[i] := by
  rw [List.getD_eq_getElem?_getD, List.getElem?_eq_getElem h]; rfl
/-- a right table's rows -/
structure Rows (nx : List (List Int)) (acc : List Int) (m : Nat) : Prop where
  n : 1 ≤ nx.length ∧ nx.length ≤ 1000
  a : acc.length = nx.length
  le : m ≤ 256
  row : ∀ s, s < nx.length → (drow nx s).length = m ∧ ∀ t ∈ drow nx s, 0 ≤ t ∧ t < (nx.length : Int)
theorem Rows.of {b : List Int} {nx : List (List Int)} {acc : List Int} (h : dfaOk b nx acc) : ∃ m, Rows nx acc m := by
  obtain ⟨m, hm, h1, h2⟩ := h
  have hb := blocksM_some hm
  refine ⟨m.toNat, ⟨h1.1, h1.2.1⟩, h1.2.2, by omega, fun s hs => ?_⟩
  have r := h2 s (Nat.zero_le _) hs
  refine ⟨by have := r.2.1; omega, fun t ht => ?_⟩
  have := (inR_mem (drow nx s) 0 (nx.length - 1)).2 r.2.2 t ht
  omega
section
variable {nx : List (List Int)} {acc : List Int} {m : Nat} (hr : Rows nx acc m)
include hr
theorem iDead0 : ∀ (d k i : Nat) (x : List Bool), d < k → nx.length - i = d → i ≤ nx.length → x.length = nx.length → (∀ s, s < i → x.getD s false = decide (rd acc (s : Int) < 0)) →
    ∃ x', impl_Dfa_dead.l0 k acc x (i : Int) = some x' ∧ x'.length = nx.length ∧ ∀ s, s < nx.length → x'.getD s false = decide (rd acc (s : Int) < 0) := by
  have hn := hr.n
  have ha := hr.a
  intro d
  induction d with
  | zero =>
    intro k i x hk hd hi hx hm
    obtain ⟨k, rfl⟩ : ∃ q, k = q + 1 := ⟨k - 1, by omega⟩
    exact ⟨x, by rw [impl_Dfa_dead.l0, if_neg (by omega)], hx, fun s hs => hm s (by omega)⟩
  | succ d ih =>
    intro k i x hk hd hi hx hm
    obtain ⟨k, rfl⟩ : ∃ q, k = q + 1 := ⟨k - 1, by omega⟩
    rw [impl_Dfa_dead.l0, if_pos (by omega), if_pos (by omega), nat_next (by omega), Int.toNat_natCast]
    refine ih k (i + 1) _ (by omega) (by omega) (by omega) (by rw [List.length_set]; exact hx) (fun s hs => ?_)
    rw [getD_setB _ _ _ _ (by omega)]
    by_cases e : i = s
    · subst e; rw [if_pos rfl]
    · rw [if_neg e]; exact hm s (by omega)
/-- flags that are dead at most -/
def InvD (nx : List (List Int)) (acc : List Int) (x : List Bool) : Prop := x.length = nx.length ∧ (∀ s, s < nx.length → x.getD s false = false → AliveD nx acc s) ∧ ∀ s, s < nx.length → x.getD s false = true → rd acc (s : Int) < 0
theorem iDead2 : ∀ (d k i : Nat) (x : List Bool) (ag : Bool), d < k → nx.length - i = d → i ≤ nx.length → InvD nx acc x →
    ∃ x' ag', impl_Dfa_dead.l2 k nx x (i : Int) ag = some (x', ag') ∧ InvD nx acc x' ∧ (ag' = false → ag = false ∧ x' = x ∧ ∀ s, i ≤ s → s < nx.length → x.getD s false = true → ∀ t : Nat, (t : Int) ∈ drow nx s → x.getD t false = true) ∧ x'.countP id ≤ x.countP id ∧ (ag' = true → ag = true ∨ x'.countP id < x.countP id) := by
  have hn := hr.n
  intro d
  induction d with
  | zero =>
    intro k i x ag hk hd hi hx
    obtain ⟨k, rfl⟩ : ∃ q, k = q + 1 := ⟨k - 1, by omega⟩
    exact ⟨x, ag, by rw [impl_Dfa_dead.l2, if_neg (by omega)], hx, fun h => ⟨h, rfl, fun s h1 h2 => by omega⟩, Nat.le_refl _, fun h => .inl h⟩
  | succ d ih =>
    intro k i x ag hk hd hi hx
    obtain ⟨k, rfl⟩ : ∃ q, k = q + 1 := ⟨k - 1, by omega⟩
    have hl := hx.1
    have hrow := (hr.row i (by omega)).2
    have er : deadRow nx (i : Int) = drow nx i := by unfold deadRow drow; rw [Int.toNat_natCast]
    rw [impl_Dfa_dead.l2, if_pos (by omega), if_pos (by omega), rdB, nat_next (by omega), er, Int.toNat_natCast]
    by_cases c : x.getD i false = true
    · rw [if_pos c, if_pos (fun t ht => by have := hrow t ht; omega)]
      by_cases q : deadAny x (drow nx i) = true
      · rw [if_pos q]
        unfold deadAny at q
        rw [List.any_eq_true] at q
        obtain ⟨t, ht, hf⟩ := q
        have tr := hrow t ht
        obtain ⟨tn, rfl⟩ : ∃ n : Nat, t = n := ⟨t.toNat, by omega⟩
        rw [rdB, Bool.not_eq_true'] at hf
        have al : AliveD nx acc tn := hx.2.1 tn (by omega) hf
        have hx' : InvD nx acc (x.set i false) := by
          refine ⟨by rw [List.length_set]; exact hl, fun s hs h => ?_, fun s hs h => ?_⟩
          · rw [getD_setB _ _ _ _ (by omega)] at h
            by_cases e : i = s
            · subst e; exact .step hs ht al
            · rw [if_neg e] at h; exact hx.2.1 s hs h
          · rw [getD_setB _ _ _ _ (by omega)] at h
            by_cases e : i = s
            · rw [if_pos e] at h; cases h
            · rw [if_neg e] at h; exact hx.2.2 s hs h
        obtain ⟨x', ag', e1, e2, e3, e4, e5⟩ := ih k (i + 1) (x.set i false) true (by omega) (by omega) (by omega) hx'
        have hc : (x.set i false).countP id + 1 = x.countP id := by
          have hi' : i < x.length := by omega
          have e := List.countP_set (p := id) (a := false) hi'
          have hp : 0 < x.countP id := List.countP_pos_iff.2 ⟨x[i], List.getElem_mem hi', by rw [getD_get x i hi'] at c; exact c⟩
          rw [getD_get x i hi'] at c
          rw [e, c]
          simp
          omega
        exact ⟨x', ag', e1, e2, fun h => absurd (e3 h).1 (by decide), by omega, fun h => .inr (by rcases e5 h with g | g <;> omega)⟩
      · rw [if_neg q]
        obtain ⟨x', ag', e1, e2, e3, e4, e5⟩ := ih k (i + 1) x ag (by omega) (by omega) (by omega) hx
        refine ⟨x', ag', e1, e2, fun h => ⟨(e3 h).1, (e3 h).2.1, fun s h1 h2 h3 t ht => ?_⟩, e4, e5⟩
        by_cases e : s = i
        · subst e
          cases f : x.getD t false
          · exfalso
            apply q
            unfold deadAny
            rw [List.any_eq_true]
            exact ⟨(t : Int), ht, by rw [rdB, f]; rfl⟩
          · rfl
        · exact (e3 h).2.2 s (by omega) h2 h3 t ht
    · rw [if_neg c]
      obtain ⟨x', ag', e1, e2, e3, e4, e5⟩ := ih k (i + 1) x ag (by omega) (by omega) (by omega) hx
      refine ⟨x', ag', e1, e2, fun h => ⟨(e3 h).1, (e3 h).2.1, fun s h1 h2 h3 t ht => ?_⟩, e4, e5⟩
      by_cases e : s = i
      · subst e; exact absurd h3 c
      · exact (e3 h).2.2 s (by omega) h2 h3 t ht
theorem iDead1 : ∀ (c k : Nat) (x : List Bool), c + nx.length + 5 < k → x.countP id ≤ c → InvD nx acc x → ∃ x', impl_Dfa_dead.l1 k nx x true = some x' ∧ x'.length = nx.length ∧ ∀ s, s < nx.length → (x'.getD s false = true ↔ ¬ AliveD nx acc s) := by
  intro c
  induction c with
  | zero =>
    intro k x hk hc hx
    obtain ⟨k, rfl⟩ : ∃ q, k = q + 2 := ⟨k - 2, by omega⟩
    obtain ⟨x', ag', e1, e2, e3, e4, e5⟩ := iDead2 hr nx.length (k + 1) 0 x false (by omega) (by omega) (by omega) hx
    have e1' : impl_Dfa_dead.l2 (k + 1) nx x 0 false = some (x', ag') := e1
    rw [impl_Dfa_dead.l1, if_pos rfl, e1', Option.bind_some]
    cases ag' with
    | true => rcases e5 rfl with g | g
              · cases g
              · omega
    | false =>
      obtain ⟨_, rfl, g⟩ := e3 rfl
      exact ⟨x', by rw [impl_Dfa_dead.l1, if_neg (by simp)], hx.1, dead_fix hx.2.1 (fun s hs h => ⟨hx.2.2 s hs h, g s (Nat.zero_le _) hs h⟩)⟩
  | succ c ih =>
    intro k x hk hc hx
    obtain ⟨k, rfl⟩ : ∃ q, k = q + 2 := ⟨k - 2, by omega⟩
    obtain ⟨x', ag', e1, e2, e3, e4, e5⟩ := iDead2 hr nx.length (k + 1) 0 x false (by omega) (by omega) (by omega) hx
    have e1' : impl_Dfa_dead.l2 (k + 1) nx x 0 false = some (x', ag') := e1
    rw [impl_Dfa_dead.l1, if_pos rfl, e1', Option.bind_some]
    cases ag' with
    | true =>
      rcases e5 rfl with g | g
      · cases g
      · exact ih (k + 1) x' (by omega) (by omega) e2
    | false =>
      obtain ⟨_, rfl, g⟩ := e3 rfl
      exact ⟨x', by rw [impl_Dfa_dead.l1, if_neg (by simp)], hx.1, dead_fix hx.2.1 (fun s hs h => ⟨hx.2.2 s hs h, g s (Nat.zero_le _) hs h⟩)⟩
theorem iDead (b : List Int) (k : Nat) (hk : 3000 ≤ k) : ∃ x, impl_Dfa_dead.f k b nx acc = some x ∧ x.length = nx.length ∧ ∀ s, s < nx.length → (x.getD s false = true ↔ ¬ AliveD nx acc s) := by
  have hn := hr.n
  obtain ⟨x0, e0, l0, m0⟩ := iDead0 hr nx.length k 0 (List.replicate nx.length false) (by omega) (by omega) (by omega) (by rw [List.length_replicate]) (fun s hs => by omega)
  have hx : InvD nx acc x0 := by
    refine ⟨l0, fun s hs h => ?_, fun s hs h => ?_⟩
    · rw [m0 s hs, decide_eq_false_iff_not] at h; exact .here hs (by omega)
    · rw [m0 s hs, decide_eq_true_eq] at h; exact h
  have hc : x0.countP id ≤ 1000 := Nat.le_trans List.countP_le_length (by omega)
  obtain ⟨x1, e1, l1, m1⟩ := iDead1 hr 1000 k x0 (by omega) hc hx
  have e0' : impl_Dfa_dead.l0 k acc (List.replicate nx.length false) 0 = some x0 := e0
  unfold impl_Dfa_dead.f
  rw [if_pos (by omega), e0', Option.bind_some, e1]
  exact ⟨x1, rfl, l1, m1⟩

/-- flags that are alive at most -/
def InvA (nx : List (List Int)) (acc : List Int) (y : List Bool) : Prop := y.length = nx.length ∧ ∀ s, s < nx.length → y.getD s false = true → AliveD nx acc s
def cntF (y : List Bool) : Nat := y.countP (fun x => !x)
theorem sA2 (b : List Int) (P : List Bool → Prop) (s : Nat) (hs : s < nx.length) (y : List Bool) (hy : y.length = nx.length) (x4 : Bool) (K : Nat) (L : Bool) (G : ∀ k, K < k → ∃ r, spec_l7Alive.l1 k (y.set s L) (x4 || L) ((s : Int) - 1) b nx acc = some r ∧ P r) :
    ∀ (d k j : Nat) (c : Bool), K + d + 1 < k → (drow nx s).length - j = d → j ≤ (drow nx s).length → L = (c || ((drow nx s).drop j).any (fun t => rdOf false y t)) → ∃ r, spec_l7Alive.l2 k y x4 (s : Int) c (j : Int) b nx acc = some r ∧ P r := by
  have hn := hr.n
  have hrow := hr.row s hs
  have hm := hr.le
  have er : rd_L1 nx (s : Int) = drow nx s := by rw [rdL_row, Int.toNat_natCast]
  intro d
  induction d with
  | zero =>
    intro k j c hk hd hj hL
    obtain ⟨k, rfl⟩ : ∃ q, k = q + 1 := ⟨k - 1, by omega⟩
    rw [List.drop_eq_nil_of_le (by omega)] at hL
    have hL' : L = c := by simpa using hL
    subst hL'
    rw [spec_l7Alive.l2, if_pos (by omega), if_pos (by omega), er, if_neg (by omega), if_pos (by omega), Option.bind_some, Int.toNat_natCast, w64 (x := (s : Int) - 1) (by omega) (by omega)]
    have g := G k (by omega)
    cases x4 with
    | true => rw [if_pos rfl]; exact g
    | false => rw [if_neg (by simp)]; exact g
  | succ d ih =>
    intro k j c hk hd hj hL
    obtain ⟨k, rfl⟩ : ∃ q, k = q + 1 := ⟨k - 1, by omega⟩
    have hlt : j < (drow nx s).length := by omega
    have ht := hrow.2 _ (List.getElem_mem hlt)
    have et : rd (drow nx s) (j : Int) = (drow nx s)[j] := rd_nat hlt
    rw [spec_l7Alive.l2, if_pos (by omega), if_pos (by omega), er, if_pos (by omega), nat_next (by omega)]
    rw [List.drop_eq_getElem_cons hlt, List.any_cons] at hL
    by_cases q : c = true
    · rw [if_pos q]
      exact ih k (j + 1) true (by omega) (by omega) (by omega) (by rw [hL, q]; simp)
    · rw [if_neg q, if_pos (by omega), et, if_pos (by omega), if_pos (by omega)]
      exact ih k (j + 1) _ (by omega) (by omega) (by omega) (by rw [hL, Bool.eq_false_iff.2 q]; simp)
set_option maxRecDepth 8000 in
theorem sA1 (b : List Int) (P : List Bool → Prop) (K : Nat) : ∀ (d k : Nat) (y : List Bool) (ag : Bool), K + d * 300 + 1 < k → d ≤ nx.length → InvA nx acc y →
    (∀ k' y' ag', K < k' → InvA nx acc y' → cntF y' ≤ cntF y → (ag' = false → ag = false ∧ y' = y ∧ ∀ t : Nat, t < d → y.getD t false = false → rd acc (t : Int) < 0 ∧ ∀ q : Nat, (q : Int) ∈ drow nx t → y.getD q false = false) → (ag' = true → ag = true ∨ cntF y' < cntF y) → ∃ r, spec_l7Alive.l0 k' y' ag' b nx acc = some r ∧ P r) →
    ∃ r, spec_l7Alive.l1 k y ag ((d : Int) - 1) b nx acc = some r ∧ P r := by
  have hn := hr.n
  have ha := hr.a
  have hmm := hr.le
  intro d
  induction d with
  | zero =>
    intro k y ag hk hd hy G
    obtain ⟨k, rfl⟩ : ∃ q, k = q + 1 := ⟨k - 1, by omega⟩
    rw [spec_l7Alive.l1, if_neg (by omega)]
    exact G k y ag (by omega) hy (Nat.le_refl _) (fun h => ⟨h, rfl, fun t ht => by omega⟩) (fun h => .inl h)
  | succ d ih =>
    intro k y ag hk hd hy G
    obtain ⟨k, rfl⟩ : ∃ q, k = q + 1 := ⟨k - 1, by omega⟩
    have hl := hy.1
    have hrow := hr.row d (by omega)
    rw [show ((d + 1 : Nat) : Int) - 1 = (d : Int) by omega, spec_l7Alive.l1, if_pos (by omega), if_pos (by omega), if_pos (by omega), rdB]
    by_cases c : y.getD d false = true
    · rw [if_pos c, w64 (x := (d : Int) - 1) (by omega) (by omega)]
      refine ih k y ag (by clear G ih; omega) (by clear G ih; omega) hy (fun k' y' ag' h1 h2 h3 h4 h5 => G k' y' ag' h1 h2 h3 (fun h => ⟨(h4 h).1, (h4 h).2.1, fun t ht hf => ?_⟩) h5)
      by_cases e : t = d
      · subst e; rw [c] at hf; cases hf
      · exact (h4 h).2.2 t (by omega) hf
    · rw [if_neg c, if_pos (by omega)]
      have hi' : d < y.length := by omega
      have cf : y[d] = false := by rw [← getD_get y d hi']; exact Bool.eq_false_iff.2 c
      refine sA2 hr b P d (by omega) y hl ag (K + d * 300 + 1) _ (fun k' hk' => ?_) (drow nx d).length k 0 _ (by have := hrow.1; omega) (by omega) (by omega) rfl
      rw [List.drop_zero]
      cases hL : (decide (rd acc (d : Int) ≥ 0) || (drow nx d).any (fun t => rdOf false y t)) with
      | true =>
        rw [Bool.or_eq_true, decide_eq_true_eq, List.any_eq_true] at hL
        have al : AliveD nx acc d := by
          rcases hL with g | ⟨t, ht, g⟩
          · exact .here (by omega) g
          · have tr := hrow.2 t ht
            obtain ⟨tn, rfl⟩ : ∃ n : Nat, t = n := ⟨t.toNat, by omega⟩
            rw [rdB] at g
            exact .step (by omega) ht (hy.2 tn (by omega) g)
        have hy' : InvA nx acc (y.set d true) := by
          refine ⟨by rw [List.length_set]; exact hl, fun s hs h => ?_⟩
          rw [getD_setB _ _ _ _ hi'] at h
          by_cases e : d = s
          · subst e; exact al
          · rw [if_neg e] at h; exact hy.2 s hs h
        have hc : cntF (y.set d true) + 1 = cntF y := by
          unfold cntF
          have e := List.countP_set (p := fun x => !x) (a := true) hi'
          have hp : 0 < y.countP (fun x => !x) := List.countP_pos_iff.2 ⟨y[d], List.getElem_mem hi', by rw [cf]; rfl⟩
          rw [e, cf]
          simp
          omega
        refine ih k' (y.set d true) (ag || true) hk' (by omega) hy' (fun k' y' ag' h1 h2 h3 h4 h5 => G k' y' ag' h1 h2 (by omega) (fun h => ?_) (fun h => .inr (by omega)))
        have := (h4 h).1
        simp at this
      | false =>
        rw [Bool.or_eq_false_iff, decide_eq_false_iff_not] at hL
        have es : y.set d false = y := by rw [← cf]; exact List.set_getElem_self hi'
        rw [es, Bool.or_false]
        refine ih k' y ag hk' (by omega) hy (fun k' y' ag' h1 h2 h3 h4 h5 => G k' y' ag' h1 h2 h3 (fun h => ⟨(h4 h).1, (h4 h).2.1, fun t ht hf => ?_⟩) h5)
        by_cases e : t = d
        · subst e
          refine ⟨by omega, fun q hq => ?_⟩
          have := List.any_eq_false.1 hL.2 _ hq
          rw [rdB] at this
          exact Bool.eq_false_iff.2 this
        · exact (h4 h).2.2 t (by omega) hf
theorem sA0 (b : List Int) : ∀ (c k : Nat) (y : List Bool), (c + 1) * 400000 < k → cntF y ≤ c → InvA nx acc y → ∃ r, spec_l7Alive.l0 k y true b nx acc = some r ∧ r.length = nx.length ∧ ∀ s, s < nx.length → (r.getD s false = true ↔ AliveD nx acc s) := by
  have hn := hr.n
  intro c
  induction c with
  | zero =>
    intro k y hk hc hy
    obtain ⟨k, rfl⟩ : ∃ q, k = q + 1 := ⟨k - 1, by omega⟩
    rw [spec_l7Alive.l0, if_pos rfl, w64 (x := (nx.length : Int) - 1) (by omega) (by omega)]
    refine sA1 hr b _ 10 nx.length k y false (by omega) (Nat.le_refl _) hy (fun k' y' ag' h1 h2 h3 h4 h5 => ?_)
    obtain ⟨k', rfl⟩ : ∃ q, k' = q + 1 := ⟨k' - 1, by omega⟩
    cases ag' with
    | true => rcases h5 rfl with g | g
              · cases g
              · omega
    | false =>
      obtain ⟨_, rfl, g⟩ := h4 rfl
      exact ⟨y', by rw [spec_l7Alive.l0, if_neg (by simp)], h2.1, alive_fix h2.2 (fun s hs h => g s hs h)⟩
  | succ c ih =>
    intro k y hk hc hy
    obtain ⟨k, rfl⟩ : ∃ q, k = q + 1 := ⟨k - 1, by omega⟩
    rw [spec_l7Alive.l0, if_pos rfl, w64 (x := (nx.length : Int) - 1) (by omega) (by omega)]
    refine sA1 hr b _ ((c + 1) * 400000) nx.length k y false (by omega) (Nat.le_refl _) hy (fun k' y' ag' h1 h2 h3 h4 h5 => ?_)
    cases ag' with
    | true =>
      rcases h5 rfl with g | g
      · cases g
      · exact ih k' y' h1 (by omega) h2
    | false =>
      obtain ⟨k', rfl⟩ : ∃ q, k' = q + 1 := ⟨k' - 1, by omega⟩
      obtain ⟨_, rfl, g⟩ := h4 rfl
      exact ⟨y', by rw [spec_l7Alive.l0, if_neg (by simp)], h2.1, alive_fix h2.2 (fun s hs h => g s hs h)⟩
theorem sAlive (b : List Int) (k : Nat) (hk : 500000000 ≤ k) : ∃ y, spec_l7Alive.f k b nx acc = some y ∧ y.length = nx.length ∧ ∀ s, s < nx.length → (y.getD s false = true ↔ AliveD nx acc s) := by
  have hn := hr.n
  unfold spec_l7Alive.f
  rw [if_pos (by omega), if_pos (by omega), Int.toNat_natCast]
  refine sA0 hr b 1000 k _ (by omega) ?_ ⟨by rw [List.length_replicate], fun s hs h => ?_⟩
  · unfold cntF
    exact Nat.le_trans List.countP_le_length (by rw [List.length_replicate]; omega)
  · rw [List.getD_eq_getElem?_getD, List.getElem?_replicate] at h
    split at h <;> simp at h
end
open Classical in
noncomputable def deadL (P : Nat → Prop) : Nat → Nat → List Int
  | 0, _ => []
  | d + 1, i => if P i then deadL P d (i + 1) else (i : Int) :: deadL P d (i + 1)
open Classical in
theorem deadL_len (P : Nat → Prop) : ∀ d i, (deadL P d i).length ≤ d
  | 0, _ => by simp [deadL]
  | d + 1, i => by
    have := deadL_len P d (i + 1)
    unfold deadL
    split
    · omega
    · rw [List.length_cons]; omega
open Classical in
theorem iDL (P : Nat → Prop) (x : List Bool) (n : Nat) (hn : n ≤ 1000) (hx : x.length = n) (hP : ∀ s, s < n → (x.getD s false = true ↔ ¬ P s)) : ∀ (d k i : Nat) (o : List Int), d < k → n - i = d → i ≤ n → o.length ≤ i → impl_DeadOf.l0 k o x (n : Int) (i : Int) = some (o ++ deadL P d i)
  | 0, k, i, o, hk, hd, hi, ho => by
    obtain ⟨k, rfl⟩ : ∃ q, k = q + 1 := ⟨k - 1, by omega⟩
    rw [impl_DeadOf.l0, if_neg (by omega), deadL, List.append_nil]
  | d + 1, k, i, o, hk, hd, hi, ho => by
    obtain ⟨k, rfl⟩ : ∃ q, k = q + 1 := ⟨k - 1, by omega⟩
    have h := hP i (by omega)
    rw [impl_DeadOf.l0, if_pos (by omega), if_pos (by omega), if_pos (by omega), rdB, nat_next (by omega), deadL]
    by_cases p : P i
    · rw [if_pos p, if_neg (fun g => h.1 g p), iDL P x n hn hx hP d k (i + 1) o (by omega) (by omega) (by omega) (by omega)]
    · rw [if_neg p, if_pos (h.2 p), if_pos (by omega), iDL P x n hn hx hP d k (i + 1) _ (by omega) (by omega) (by omega) (by rw [List.length_append, List.length_singleton]; omega), List.append_assoc]
      rfl
open Classical in
theorem sDL (P : Nat → Prop) (x : List Bool) (n : Nat) (hn : n ≤ 1000) (hx : x.length = n) (hP : ∀ s, s < n → (x.getD s false = true ↔ P s)) : ∀ (d k i : Nat) (o : List Int), d < k → n - i = d → i ≤ n → o.length ≤ i → spec_DeadOf.l0 k o x (i : Int) = some (o ++ deadL P d i)
  | 0, k, i, o, hk, hd, hi, ho => by
    obtain ⟨k, rfl⟩ : ∃ q, k = q + 1 := ⟨k - 1, by omega⟩
    rw [spec_DeadOf.l0, if_neg (by omega), deadL, List.append_nil]
  | d + 1, k, i, o, hk, hd, hi, ho => by
    obtain ⟨k, rfl⟩ : ∃ q, k = q + 1 := ⟨k - 1, by omega⟩
    have h := hP i (by omega)
    rw [spec_DeadOf.l0, if_pos (by omega), if_pos (by omega), rdB, nat_next (by omega), deadL]
    by_cases p : P i
    · rw [if_pos p, if_pos (h.2 p), sDL P x n hn hx hP d k (i + 1) o (by omega) (by omega) (by omega) (by omega)]
    · rw [if_neg p, if_neg (fun g => p (h.1 g)), if_pos (by omega), sDL P x n hn hx hP d k (i + 1) _ (by omega) (by omega) (by omega) (by rw [List.length_append, List.length_singleton]; omega), List.append_assoc]
      rfl
open Classical in
theorem dead_both (b : List Int) (nx : List (List Int)) (acc : List Int) (hbl : b.length ≤ 1048576) : ∃ o : List Int, o.length ≤ 1000 ∧ ∀ k, 500000000 ≤ k → spec_DeadOf.f k b nx acc = some o ∧ impl_DeadOf.f k b nx acc = some o := by
  by_cases h : dfaOk b nx acc
  · obtain ⟨m, hr⟩ := Rows.of h
    have hn := hr.n
    refine ⟨deadL (AliveD nx acc) nx.length 0, Nat.le_trans (deadL_len _ _ _) hn.2, fun k hk => ⟨?_, ?_⟩⟩
    · obtain ⟨y, e, ly, hy⟩ := sAlive hr b k hk
      unfold spec_DeadOf.f
      rw [Option.bind_some, sDfaOk b nx acc k (by omega), decide_eq_true h, Option.bind_some, if_pos rfl, e, Option.bind_some]
      have q := sDL (AliveD nx acc) y nx.length hn.2 ly hy nx.length k 0 [] (by omega) (by omega) (by omega) (by simp)
      rw [List.nil_append] at q
      exact q
    · obtain ⟨x, e, lx, hx⟩ := iDead hr b k (by omega)
      unfold impl_DeadOf.f
      rw [iDfaOk b nx acc hbl k (by omega), decide_eq_true h, Option.bind_some, if_pos rfl, e, Option.bind_some, lx]
      have q := iDL (AliveD nx acc) x nx.length hn.2 lx hx nx.length k 0 [] (by omega) (by omega) (by omega) (by simp)
      rw [List.nil_append] at q
      exact q
  · refine ⟨[], by simp, fun k hk => ⟨?_, ?_⟩⟩
    · unfold spec_DeadOf.f
      rw [Option.bind_some, sDfaOk b nx acc k (by omega), decide_eq_false h]
      rfl
    · unfold impl_DeadOf.f
      rw [iDfaOk b nx acc hbl k (by omega), decide_eq_false h]
      rfl
theorem FnExactDeadOf (x : List Int × List (List Int) × List Int) (g : gd_Int64S x.1 ∧ gd_Int64SS x.2.1 ∧ gd_Int64S x.2.2) : ∃ k, laws_FnExactDeadOf.f k x.1 x.2.1 x.2.2 = some true := by
  obtain ⟨b, nx, acc⟩ := x
  suffices ∀ k, 600000000 ≤ k → laws_FnExactDeadOf.f k b nx acc = some true from ⟨600000000, this _ (Nat.le_refl _)⟩
  intro k hk
  obtain ⟨r, e, _, _, h⟩ := szL_Dfa k (by omega) b nx acc g 1048576 (by omega)
  unfold laws_FnExactDeadOf.f
  rw [e, Option.bind_some]
  by_cases hr : r < 0
  · rw [if_pos hr]
  · have hb := h (by omega)
    have hb' : b.length ≤ 1048576 ∧ (nx.length ≤ 1048576 ∧ ∀ y ∈ nx, y.length ≤ 1048576) ∧ acc.length ≤ 1048576 := hb
    rw [if_neg hr, if_pos]
    obtain ⟨o, lo, ho⟩ := dead_both b nx acc hb'.1
    obtain ⟨z, hz⟩ := markInt64S_held o (by omega) 1 (by omega) (by omega)
    obtain ⟨z1, z2⟩ := hz k (by omega)
    obtain ⟨y0, q0, _⟩ := markInt64S_l b.length k b 1 0 (by omega) (by omega) (by omega) (by omega) (by omega) (by omega) (by omega)
    obtain ⟨y1, q1, _⟩ := markISS_l nx hb'.2.1.1 hb'.2.1.2 (1 + b.length) (by omega) nx.length k 0 nx (by omega) (by omega) (by omega) rfl (fun _ => rfl) (fun j hj => by omega)
    have og := offI_rng hb'.2.1.2 (1 + (b.length : Int)) nx.length
    obtain ⟨y2, q2, _⟩ := markInt64S_l acc.length k acc (offI nx (1 + b.length) nx.length) 0 (by omega) (by omega) (by omega) (by omega) (by omega) (by omega) (by omega)
    refine ⟨o, offI nx (1 + b.length) nx.length + acc.length, 1 + o.length, y0, y1, y2, z, toL_Dfa k (by omega) b nx acc hb, (ho k (by omega)).1, (ho k (by omega)).2, eqInt64S_same o (by omega) k (by omega), eqL_Dfa k (by omega) b nx acc hb, ?_, by omega, z1, z2, by omega⟩
    unfold laws_markDfa.f
    rw [show laws_markInt64S.f k b 1 = _ from q0, Option.bind_some, show laws_markInt64SS.f k nx (1 + b.length) = _ from q1, Option.bind_some, show laws_markInt64S.f k acc (offI nx (1 + b.length) nx.length) = _ from q2, Option.bind_some]
end Go.Proofs.Ytabpfejdppfcdaa.Pure
