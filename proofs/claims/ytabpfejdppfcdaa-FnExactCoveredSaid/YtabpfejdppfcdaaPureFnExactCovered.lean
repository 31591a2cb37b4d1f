/- The program's Covered and the reference's come to the same holes: whatever the tokens and the length. -/
import Derived.Test.YtabpfejdppfcdaaPFnExactCoveredx6
import Derived.Test.YtabpfejdppfcdaaKit
import Derived.Test.YtabpfejdppfcdaaKitClass
namespace Go.Proofs.Ytabpfejdppfcdaa.Pure
open Go.RowKit Go.Proofs.Ytabpfejdppfcdaa.PFnExactCovered Go.Proofs.YtabpfejdppfcdaaW.PrintWords Go.Proofs.YtabpfejdppfcdaaW.PrintLast Go.Proofs.YtabpfejdppfcdaaW.PrintMore Go.Proofs.Ytabpfejdppfcdaa.Kit
set_option linter.unusedVariables false
theorem sIn (a b c : Int) : spec_l1In.f a b c = some (decide (b ≤ a ∧ a ≤ c)) := by
  unfold spec_l1In.f
  by_cases h : a ≥ b
  · rw [if_pos h]; congr 1; simp; omega
  · rw [if_neg h]; congr 1; simp; omega
theorem iWithin (a b c : Int) : impl_within.f a b c = some (decide (b ≤ a ∧ a ≤ c)) := by
  unfold impl_within.f
  by_cases h : a ≥ b
  · rw [if_pos h]; congr 1; simp; omega
  · rw [if_neg h]; congr 1; simp; omega
def gd_Token (x : S129) : Prop := ((Lit.int .i64 x.f0).wf = true) ∧ ((Lit.int .i64 x.f1).wf = true) ∧ ((Lit.int .i64 x.f2).wf = true) ∧ ((Lit.int .i64 x.f3).wf = true) ∧ ((Lit.int .i64 x.f4).wf = true) ∧ ((Lit.int .i64 x.f5).wf = true)
def c_Token (x : S129) : S125 := ⟨x.f0, x.f1, x.f2, x.f3, x.f4, x.f5⟩
def gd_TokenS (x : List S129) : Prop := x.length ≤ maxLen ∧ ∀ y ∈ x, gd_Token y
def bd_TokenS (x : List S129) : Prop := x.length ≤ 1048576
def bi_TokenS (x : List S125) : Prop := x.length ≤ 1048576
theorem szL_TokenS (k : Nat) (hk : 1048578 ≤ k) (l : List S129) (g : l.length ≤ maxLen ∧ ∀ y ∈ l, gd_Token y) (n : Int) (hn : 0 ≤ n ∧ n ≤ 1048576) : ∃ r, laws_szTokenS.f l n = some r ∧ -1 ≤ r ∧ r ≤ n ∧ (0 ≤ r → l.length ≤ 1048576) := by
  have hl := g.1
  unfold maxLen at hl
  unfold laws_szTokenS.f
  rw [w64 (by omega) (by omega)]
  by_cases h : n - (l.length : Int) < 0
  · rw [if_pos h]; exact ⟨-1, rfl, by omega, by omega, fun h => by omega⟩
  · rw [if_neg h]; exact ⟨_, rfl, by omega, by omega, fun _ => by omega⟩
theorem toL_Token (k : Nat) (hk : 0 ≤ k) (f0 : Int) (f1 : Int) (f2 : Int) (f3 : Int) (f4 : Int) (f5 : Int) (g : True) : laws_toToken.f f0 f1 f2 f3 f4 f5 = some (f0, f1, f2, f3, f4, f5) := by
  unfold laws_toToken.f
  all_goals (first | rfl | simp)
theorem toL_TokenS_l (l : List S129) (hl : l.length ≤ 1048576) (d : Nat) : ∀ (k : Nat) (acc : List S125) (i : Int), d + 0 < k → 0 ≤ i → (l.length : Int) - i = d → acc.length = l.length →
    laws_toTokenS.l0 k l acc i = some (acc.take i.toNat ++ (l.map c_Token).drop i.toNat) := by
  induction d with
  | zero =>
    intro k acc i hk h0 hd ha
    obtain ⟨k, rfl⟩ : ∃ m, k = m + 1 := ⟨k - 1, by omega⟩
    simp only [laws_toTokenS.l0]
    rw [if_neg (by omega), List.take_of_length_le (by omega), List.drop_eq_nil_of_le (by first | omega | (rw [List.length_map]; omega)), List.append_nil]
  | succ d ih =>
    intro k acc i hk h0 hd ha
    obtain ⟨k, rfl⟩ : ∃ m, k = m + 1 := ⟨k - 1, by omega⟩
    have hi : i.toNat < l.length := by omega
    have e : rd_T129 l i = l[i.toNat] := by
      unfold rd_T129
      rw [List.getD_eq_getElem?_getD, List.getElem?_eq_getElem hi]
      rfl
    have ee := toL_Token k (by omega) l[i.toNat].f0 l[i.toNat].f1 l[i.toNat].f2 l[i.toNat].f3 l[i.toNat].f4 l[i.toNat].f5 trivial
    simp only [laws_toTokenS.l0, e]
    rw [if_pos (by omega), if_pos h0, ee]
    simp only [Option.bind_some]
    rw [if_pos (by omega), w64 (by omega) (by omega)]
    rw [ih k _ _ (by omega) (by omega) (by omega) (by simpa using ha)]
    have e1 : (i + 1).toNat = i.toNat + 1 := by omega
    rw [e1, List.take_succ_eq_append_getElem (by simp; omega), List.take_set_of_le (Nat.le_refl _), List.getElem_set_self, List.append_assoc, List.singleton_append]
    congr 2
    rw [List.drop_eq_getElem_cons (i := i.toNat) (by simpa using hi), List.getElem_map]
    try rfl
theorem toL_TokenS (k : Nat) (hk : 1048578 ≤ k) (l : List S129) (g : l.length ≤ 1048576) : laws_toTokenS.f k l = some (l.map c_Token) := by
  have hl : l.length ≤ 1048576 := g
  unfold laws_toTokenS.f
  rw [if_pos (by omega), if_pos (by omega), toL_TokenS_l l hl l.length k _ 0 (by omega) (by omega) (by omega) (by simp)]
  simp
theorem eqL_Token (k : Nat) (hk : 0 ≤ k) (f0 : Int) (f1 : Int) (f2 : Int) (f3 : Int) (f4 : Int) (f5 : Int) (g : True) : laws_eqToken.f f0 f1 f2 f3 f4 f5 f0 f1 f2 f3 f4 f5 = some true := by
  unfold laws_eqToken.f
  simp
theorem eqL_TokenS_l (l : List S125) (hl : l.length ≤ 1048576) (d : Nat) : ∀ (k : Nat) (i : Int), d + 0 < k → 0 ≤ i → (l.length : Int) - i = d → laws_eqTokenS.l0 k l l i = some true := by
  induction d with
  | zero =>
    intro k i hk h0 hd
    obtain ⟨k, rfl⟩ : ∃ m, k = m + 1 := ⟨k - 1, by omega⟩
    simp only [laws_eqTokenS.l0]
    rw [if_neg (by omega)]
  | succ d ih =>
    intro k i hk h0 hd
    obtain ⟨k, rfl⟩ : ∃ m, k = m + 1 := ⟨k - 1, by omega⟩
    have hi : i.toNat < l.length := by omega
    have e : rd_T125 l i = l[i.toNat] := by
      unfold rd_T125
      rw [List.getD_eq_getElem?_getD, List.getElem?_eq_getElem hi]
      rfl
    have ee := eqL_Token k (by omega) l[i.toNat].f0 l[i.toNat].f1 l[i.toNat].f2 l[i.toNat].f3 l[i.toNat].f4 l[i.toNat].f5 trivial
    simp only [laws_eqTokenS.l0, e]
    rw [if_pos (by omega), if_pos h0, if_pos (by omega), ee]
    simp only [Option.bind_some, if_true]
    rw [w64 (by omega) (by omega)]
    exact ih k _ (by omega) (by omega) (by omega)
theorem eqL_TokenS (k : Nat) (hk : 1048578 ≤ k) (l : List S125) (g : l.length ≤ 1048576) : laws_eqTokenS.f k l l = some true := by
  have hl : l.length ≤ 1048576 := g
  unfold laws_eqTokenS.f
  simp only [if_true]
  exact eqL_TokenS_l l hl l.length k 0 (by omega) (by omega) (by omega)
theorem eqHoleS_l (l : List S127) (hl : (l.length : Int) ≤ 1099511627776) (d : Nat) : ∀ (k : Nat) (i : Nat), d < k → l.length - i = d → i ≤ l.length → laws_eqHoleS.l0 k l l (i : Int) = some true := by
  induction d with
  | zero =>
    intro k i hk hd hi
    obtain ⟨k, rfl⟩ : ∃ m, k = m + 1 := ⟨k - 1, by omega⟩
    simp only [laws_eqHoleS.l0]
    rw [if_neg (by omega)]
  | succ d ih =>
    intro k i hk hd hi
    obtain ⟨k, rfl⟩ : ∃ m, k = m + 1 := ⟨k - 1, by omega⟩
    simp only [laws_eqHoleS.l0, laws_eqHole.f, if_true, Option.bind_some]
    rw [if_pos (by omega), if_pos (by omega), if_pos (by omega), nat_next (by omega)]
    exact ih k (i + 1) (by omega) (by omega) (by omega)
theorem eqHoleS_same (l : List S127) (hl : (l.length : Int) ≤ 1099511627776) (k : Nat) (hk : l.length < k) : laws_eqHoleS.f k l l = some true := by
  unfold laws_eqHoleS.f
  rw [if_pos rfl]
  exact eqHoleS_l l hl l.length k 0 hk (by omega) (by omega)
theorem rdT_set (l : List S127) (i : Nat) (v : S127) (h : i < l.length) : rd_T127 (l.set i v) (i : Int) = v := by
  unfold rd_T127
  rw [Int.toNat_natCast, List.getD_eq_getElem?_getD, List.getElem?_set_self h]
  rfl
theorem rdT_other (l : List S127) (i j : Nat) (v : S127) (h : i ≠ j) : rd_T127 (l.set i v) (j : Int) = rd_T127 l (j : Int) := by
  unfold rd_T127
  rw [Int.toNat_natCast, List.getD_eq_getElem?_getD, List.getD_eq_getElem?_getD, List.getElem?_set_ne h]
/-- each number of a row is its own -/
def marked (y : List S127) (i : Nat) : Prop := ∀ j : Nat, j < i → rd_T127 y (j : Int) = ⟨1 + 2 * (j : Int), 2 + 2 * (j : Int)⟩
theorem mark_l (n : Nat) (hn : n ≤ 1000000000) (d : Nat) : ∀ (k : Nat) (x : List S127) (i : Nat), d < k → n - i = d → i ≤ n → x.length = n → marked x i →
    ∃ y, laws_markHoleS.l0 k x (1 + 2 * (i : Int)) (i : Int) = some (1 + 2 * (n : Int), y) ∧ y.length = n ∧ marked y n := by
  induction d with
  | zero =>
    intro k x i hk hd hi hx hm
    obtain ⟨k, rfl⟩ : ∃ m, k = m + 1 := ⟨k - 1, by omega⟩
    obtain rfl : i = n := by omega
    simp only [laws_markHoleS.l0]
    rw [if_neg (by omega)]
    exact ⟨x, rfl, hx, hm⟩
  | succ d ih =>
    intro k x i hk hd hi hx hm
    obtain ⟨k, rfl⟩ : ∃ m, k = m + 1 := ⟨k - 1, by omega⟩
    simp only [laws_markHoleS.l0, Option.bind_some, Int.toNat_natCast]
    rw [if_pos (by omega), if_pos (by omega), nat_next (by omega), rdT_set x i _ (by omega), w64 (x := 1 + 2 * (i : Int) + 1) (by omega) (by omega), w64 (by omega) (by omega), show 1 + 2 * (i : Int) + 1 + 1 = 1 + 2 * ((i + 1 : Nat) : Int) by omega]
    refine ih k _ (i + 1) (by omega) (by omega) (by omega) (by simpa using hx) (fun j hj => ?_)
    by_cases e : i = j
    · subst e
      rw [rdT_set _ _ _ (by simp; omega), show 1 + 2 * (i : Int) + 1 = 2 + 2 * (i : Int) by omega]
    · rw [rdT_other _ _ _ _ e, rdT_other _ _ _ _ e]
      exact hm j (by omega)
theorem markS (x : List S127) (hn : x.length ≤ 1000000000) (k : Nat) (hk : x.length < k) : ∃ y, laws_markHoleS.f k x 1 = some (1 + 2 * (x.length : Int), y) ∧ y.length = x.length ∧ marked y x.length :=
  mark_l x.length hn x.length k x 0 hk (by omega) (by omega) rfl (fun j hj => by omega)
theorem held_l (y : List S127) (n : Nat) (hn : n ≤ 1000000000) (hy : y.length = n) (hm : marked y n) (d : Nat) : ∀ (k : Nat) (i : Nat), d < k → n - i = d → i ≤ n →
    laws_heldHoleS.l0 k y (1 + 2 * (i : Int)) (i : Int) = some (1 + 2 * (n : Int)) := by
  induction d with
  | zero =>
    intro k i hk hd hi
    obtain ⟨k, rfl⟩ : ∃ m, k = m + 1 := ⟨k - 1, by omega⟩
    obtain rfl : i = n := by omega
    simp only [laws_heldHoleS.l0]
    rw [if_neg (by omega)]
  | succ d ih =>
    intro k i hk hd hi
    obtain ⟨k, rfl⟩ : ∃ m, k = m + 1 := ⟨k - 1, by omega⟩
    simp only [laws_heldHoleS.l0]
    rw [if_pos (by omega), if_pos (by omega), hm i (by omega), if_pos rfl, w64 (x := 1 + 2 * (i : Int) + 1) (by omega) (by omega), if_pos (by simp only; omega), nat_next (by omega), w64 (by omega) (by omega), show 1 + 2 * (i : Int) + 1 + 1 = 1 + 2 * ((i + 1 : Nat) : Int) by omega]
    exact ih k (i + 1) (by omega) (by omega) (by omega)
theorem heldS (y : List S127) (n : Nat) (hn : n ≤ 1000000000) (hy : y.length = n) (hm : marked y n) (k : Nat) (hk : n < k) : laws_heldHoleS.f k y 1 = some (1 + 2 * (n : Int)) :=
  held_l y n hn hy hm n k 0 hk (by omega) (by omega)
/-- marks that begin at c: only the next number matters -/
theorem markAt_l (n : Nat) (hn : n ≤ 1000000000) (c : Int) (c0 : 0 ≤ c) (c1 : c ≤ 1000000000000) (d : Nat) : ∀ (k : Nat) (x : List S127) (i : Nat), d < k → n - i = d → i ≤ n → x.length = n →
    ∃ y, laws_markHoleS.l0 k x (c + 2 * (i : Int)) (i : Int) = some (c + 2 * (n : Int), y) := by
  induction d with
  | zero =>
    intro k x i hk hd hi hx
    obtain ⟨k, rfl⟩ : ∃ m, k = m + 1 := ⟨k - 1, by omega⟩
    obtain rfl : i = n := by omega
    simp only [laws_markHoleS.l0]
    rw [if_neg (by omega)]
    exact ⟨x, rfl⟩
  | succ d ih =>
    intro k x i hk hd hi hx
    obtain ⟨k, rfl⟩ : ∃ m, k = m + 1 := ⟨k - 1, by omega⟩
    simp only [laws_markHoleS.l0, Option.bind_some, Int.toNat_natCast]
    rw [if_pos (by omega), if_pos (by omega), nat_next (by omega), w64 (x := c + 2 * (i : Int) + 1) (by omega) (by omega), w64 (by omega) (by omega), show c + 2 * (i : Int) + 1 + 1 = c + 2 * ((i + 1 : Nat) : Int) by omega]
    exact ih k _ (i + 1) (by omega) (by omega) (by omega) (by simpa using hx)
theorem markAt (x : List S127) (hn : x.length ≤ 1000000000) (c : Int) (c0 : 0 ≤ c) (c1 : c ≤ 1000000000000) (k : Nat) (hk : x.length < k) : ∃ y, laws_markHoleS.f k x c = some (c + 2 * (x.length : Int), y) := by
  have h := markAt_l x.length hn c c0 c1 x.length k x 0 hk (by omega) (by omega) rfl
  unfold laws_markHoleS.f
  rw [show c + 2 * ((0 : Nat) : Int) = c by omega] at h
  exact h
def badT (L : Int) (t : S125) : Bool := decide (t.f2 < 0 ∨ t.f2 ≥ t.f3 ∨ t.f3 > L)
def covT (x : List S125) (i : Int) : Bool := x.any (fun t => decide (t.f2 ≤ i ∧ i < t.f3))
def difT (x : List S125) (i : Int) : Int := (x.map (fun t => (if t.f2 = i then (1 : Int) else 0) - (if t.f3 = i then 1 else 0))).sum
def opnT (x : List S125) (i : Int) : Int := (x.map (fun t => if t.f2 ≤ i ∧ i < t.f3 then (1 : Int) else 0)).sum
theorem opnT_step (L : Int) (i : Int) : ∀ x : List S125, (∀ t ∈ x, badT L t = false) → opnT x i = opnT x (i - 1) + difT x i
  | [], _ => rfl
  | t :: x, h => by
    have h1 := h t (by simp)
    have h2 := opnT_step L i x (fun t ht => h t (by simp [ht]))
    unfold badT at h1
    rw [decide_eq_false_iff_not] at h1
    unfold opnT difT at *
    simp only [List.map_cons, List.sum_cons]
    rw [h2]
    have e : (if t.f2 ≤ i ∧ i < t.f3 then (1 : Int) else 0) = (if t.f2 ≤ i - 1 ∧ i - 1 < t.f3 then (1 : Int) else 0) + ((if t.f2 = i then (1 : Int) else 0) - (if t.f3 = i then 1 else 0)) := by
      by_cases a : t.f2 = i
      · rw [if_pos a, if_neg (show ¬ t.f3 = i by omega), if_pos (by omega), if_neg (by omega)]; rfl
      · rw [if_neg a]
        by_cases b : t.f3 = i
        · rw [if_pos b, if_neg (by omega), if_pos (by omega)]; rfl
        · rw [if_neg b]
          by_cases c : t.f2 ≤ i ∧ i < t.f3
          · rw [if_pos c, if_pos (by omega)]; rfl
          · rw [if_neg c, if_neg (by omega)]; rfl
    rw [e]
    omega
theorem opnT_rng (i : Int) : ∀ x : List S125, 0 ≤ opnT x i ∧ opnT x i ≤ x.length
  | [] => by simp [opnT]
  | t :: x => by
    have := opnT_rng i x
    unfold opnT at *
    simp only [List.map_cons, List.sum_cons, List.length_cons]
    split <;> omega
theorem difT_rng (i : Int) : ∀ x : List S125, -(x.length : Int) ≤ difT x i ∧ difT x i ≤ x.length
  | [] => by simp [difT]
  | t :: x => by
    have := difT_rng i x
    unfold difT at *
    simp only [List.map_cons, List.sum_cons, List.length_cons]
    split <;> split <;> omega
theorem opnT_cov (i : Int) : ∀ x : List S125, covT x i = decide (opnT x i > 0)
  | [] => rfl
  | t :: x => by
    have h := opnT_cov i x
    have r := opnT_rng i x
    unfold covT opnT at *
    simp only [List.any_cons, List.map_cons, List.sum_cons]
    rw [h]
    by_cases c : t.f2 ≤ i ∧ i < t.f3
    · rw [if_pos c, decide_eq_true c, Bool.true_or]; symm; exact decide_eq_true (by omega)
    · rw [if_neg c, decide_eq_false c, Bool.false_or]; congr 1; simp
theorem difT_snoc (x : List S125) (t : S125) (i : Int) : difT (x ++ [t]) i = difT x i + ((if t.f2 = i then (1 : Int) else 0) - (if t.f3 = i then 1 else 0)) := by
  unfold difT; simp
theorem covT_snoc (x : List S125) (t : S125) (i : Int) : covT (x ++ [t]) i = (covT x i || decide (t.f2 ≤ i ∧ i < t.f3)) := by
  unfold covT; simp
theorem opnT_none (L : Int) : ∀ x : List S125, (∀ t ∈ x, badT L t = false) → opnT x (-1) = 0
  | [], _ => rfl
  | t :: x, h => by
    have h1 := h t (by simp)
    have h2 := opnT_none L x (fun t ht => h t (by simp [ht]))
    unfold badT at h1
    rw [decide_eq_false_iff_not] at h1
    unfold opnT at *
    simp only [List.map_cons, List.sum_cons]
    rw [h2, if_neg (by omega)]; rfl
theorem rdTok (x : List S125) (i : Nat) (h : i < x.length) : rd_T125 x (i : Int) = x[i] := by
  unfold rd_T125
  rw [Int.toNat_natCast, List.getD_eq_getElem?_getD, List.getElem?_eq_getElem h]
  rfl
theorem getD_set_i (l : List Int) (a : Nat) (v : Int) (j : Nat) (h : a < l.length) : (l.set a v).getD j 0 = if a = j then v else l.getD j 0 := by
  rw [List.getD_eq_getElem?_getD, List.getD_eq_getElem?_getD, List.getElem?_set]
  by_cases e : a = j
  · subst e; simp [h]
  · simp [e]
theorem getD_set_b (l : List Bool) (a : Nat) (v : Bool) (j : Nat) (h : a < l.length) : (l.set a v).getD j false = if a = j then v else l.getD j false := by
  rw [List.getD_eq_getElem?_getD, List.getD_eq_getElem?_getD, List.getElem?_set]
  by_cases e : a = j
  · subst e; simp [h]
  · simp [e]
/-- one more hole, or the last one longer -/
def extH (o : List S127) (j : Int) : List S127 := if 0 < o.length ∧ (rd_T127 o ((o.length : Int) - 1)).f1 = j then o.set (o.length - 1) ⟨(rd_T127 o ((o.length : Int) - 1)).f0, j + 1⟩ else o ++ [⟨j, j + 1⟩]
theorem extH_len (o : List S127) (j : Int) : (extH o j).length ≤ o.length + 1 := by
  unfold extH
  split
  · rw [List.length_set]; omega
  · simp
theorem i_l1s (b : List Int) (o : List S127) (op : Int) (L j k : Nat) (hj : j < L) (hL : L ≤ 20000) (hb : b.length = L + 1) (ho : o.length ≤ 100000) (h1 : -100000 ≤ op + b.getD j 0) (h2 : op + b.getD j 0 ≤ 100000) :
    impl_Covered.l1 (k + 1) b o op (L : Int) (j : Int) = impl_Covered.l1 k b (if op + b.getD j 0 > 0 then o else extH o j) (op + b.getD j 0) (L : Int) ((j + 1 : Nat) : Int) := by
  have er : rd b (j : Int) = b.getD j 0 := by unfold rd; rw [Int.toNat_natCast]
  simp only [impl_Covered.l1, er]
  rw [if_pos (by omega), if_pos (by omega), if_pos (by omega), w64 (x := op + b.getD j 0) (by omega) (by omega), nat_next (by omega), w64 (x := (o.length : Int) - 1) (by omega) (by omega)]
  by_cases c : op + b.getD j 0 > 0
  · rw [if_pos c, if_pos c]
  · rw [if_neg c, if_neg c]
    unfold extH
    have en : ((j + 1 : Nat) : Int) = (j : Int) + 1 := by omega
    by_cases p : 0 < o.length
    · rw [if_pos (by omega), if_pos (by omega), if_pos (by omega)]
      by_cases q : (rd_T127 o ((o.length : Int) - 1)).f1 = (j : Int)
      · rw [if_pos q, if_pos ⟨p, q⟩, show ((o.length : Int) - 1).toNat = o.length - 1 by omega, en]
      · rw [if_neg q, if_pos (show o.length < 8796093022208 by omega), if_neg (show ¬ (0 < o.length ∧ (rd_T127 o ((o.length : Int) - 1)).f1 = (j : Int)) from fun h => q h.2), en]
    · rw [if_neg (by omega), if_pos (show o.length < 8796093022208 by omega), if_neg (show ¬ (0 < o.length ∧ (rd_T127 o ((o.length : Int) - 1)).f1 = (j : Int)) from fun h => p h.1), en]
theorem s_l2s (m : List Bool) (o : List S127) (L j k : Nat) (hj : j < L) (hL : L ≤ 20000) (hm : m.length = L) (ho : o.length ≤ 100000) :
    spec_Covered.l2 (k + 1) (L : Int) o m (j : Int) = spec_Covered.l2 k (L : Int) (if m.getD j false = true then o else extH o j) m ((j + 1 : Nat) : Int) := by
  have er : rdOf false m (j : Int) = m.getD j false := by unfold rdOf; rw [Int.toNat_natCast]
  simp only [spec_Covered.l2, er]
  rw [if_pos (by omega), if_pos (by omega), if_pos (by omega), nat_next (by omega), w64 (x := (o.length : Int) - 1) (by omega) (by omega)]
  by_cases c : m.getD j false = true
  · rw [if_pos c, if_pos c]
  · rw [if_neg c, if_neg c]
    unfold extH
    have en : ((j + 1 : Nat) : Int) = (j : Int) + 1 := by omega
    by_cases p : 0 < o.length
    · rw [if_pos (by omega), if_pos (by omega), if_pos (by omega)]
      by_cases q : (rd_T127 o ((o.length : Int) - 1)).f1 = (j : Int)
      · rw [if_pos q, if_pos ⟨p, q⟩, show ((o.length : Int) - 1).toNat = o.length - 1 by omega, en]
      · rw [if_neg q, if_pos (show o.length < 8796093022208 by omega), if_neg (show ¬ (0 < o.length ∧ (rd_T127 o ((o.length : Int) - 1)).f1 = (j : Int)) from fun h => q h.2), en]
    · rw [if_neg (by omega), if_pos (show o.length < 8796093022208 by omega), if_neg (show ¬ (0 < o.length ∧ (rd_T127 o ((o.length : Int) - 1)).f1 = (j : Int)) from fun h => p h.1), en]
theorem both_l (x : List S125) (L : Nat) (hL : L ≤ 20000) (hx : x.length ≤ 20000) (ok : ∀ t ∈ x, badT L t = false) (b : List Int) (m : List Bool) (hb : b.length = L + 1) (hm : m.length = L)
    (hbv : ∀ j, j ≤ L → b.getD j 0 = difT x j) (hmv : ∀ j, j < L → m.getD j false = covT x j) (d : Nat) : ∀ (j k k' : Nat) (o : List S127), L - j = d → j ≤ L → d < k → d < k' → o.length ≤ j →
    ∃ r, impl_Covered.l1 k b o (opnT x ((j : Int) - 1)) (L : Int) (j : Int) = some r ∧ spec_Covered.l2 k' (L : Int) o m (j : Int) = some r ∧ r.length ≤ L := by
  induction d with
  | zero =>
    intro j k k' o hd hj hk hk' ho
    obtain ⟨k, rfl⟩ : ∃ m, k = m + 1 := ⟨k - 1, by omega⟩
    obtain ⟨k', rfl⟩ : ∃ m, k' = m + 1 := ⟨k' - 1, by omega⟩
    refine ⟨o, ?_, ?_, by omega⟩
    · simp only [impl_Covered.l1]; rw [if_neg (by omega)]
    · simp only [spec_Covered.l2]; rw [if_neg (by omega)]
  | succ d ih =>
    intro j k k' o hd hj hk hk' ho
    obtain ⟨k, rfl⟩ : ∃ m, k = m + 1 := ⟨k - 1, by omega⟩
    obtain ⟨k', rfl⟩ : ∃ m, k' = m + 1 := ⟨k' - 1, by omega⟩
    have e := opnT_step L (j : Int) x ok
    have r0 := opnT_rng (j : Int) x
    have eb := hbv j (by omega)
    have em := hmv j (by omega)
    rw [i_l1s b o _ L j k (by omega) hL hb (by omega) (by rw [eb]; omega) (by rw [eb]; omega), s_l2s m o L j k' (by omega) hL hm (by omega), eb, ← e, em, opnT_cov]
    have q : (if opnT x (j : Int) > 0 then o else extH o j) = (if decide (opnT x (j : Int) > 0) = true then o else extH o j) := by simp only [decide_eq_true_eq]
    rw [← q]
    have hl := extH_len o j
    have := ih (j + 1) k k' (if opnT x (j : Int) > 0 then o else extH o j) (by omega) (by omega) (by omega) (by omega) (by split <;> omega)
    rw [show ((j + 1 : Nat) : Int) - 1 = (j : Int) by omega] at this
    exact this
theorem i_l0 (x : List S125) (L : Nat) (hL : L ≤ 20000) (hx : x.length ≤ 20000) (ok : ∀ t ∈ x, badT L t = false) (d : Nat) : ∀ (i k : Nat) (b : List Int), x.length - i = d → i ≤ x.length → d < k → b.length = L + 1 → (∀ j, j ≤ L → b.getD j 0 = difT (x.take i) j) →
    ∃ b', impl_Covered.l0 k (L : Int) b x (x.length : Int) (i : Int) = impl_Covered.l1 (k - d - 1) b' [] 0 (L : Int) 0 ∧ b'.length = L + 1 ∧ ∀ j, j ≤ L → b'.getD j 0 = difT x j := by
  induction d with
  | zero =>
    intro i k b hd hi hk hb hv
    obtain ⟨k, rfl⟩ : ∃ m, k = m + 1 := ⟨k - 1, by omega⟩
    obtain rfl : i = x.length := by omega
    refine ⟨b, ?_, hb, fun j hj => by rw [hv j hj, List.take_length]⟩
    simp only [impl_Covered.l0]
    rw [if_neg (by omega)]
    rfl
  | succ d ih =>
    intro i k b hd hi hk hb hv
    obtain ⟨k, rfl⟩ : ∃ m, k = m + 1 := ⟨k - 1, by omega⟩
    have hlt : i < x.length := by omega
    have hok := ok x[i] (List.getElem_mem hlt)
    unfold badT at hok
    rw [decide_eq_false_iff_not] at hok
    have htk : x.take (i + 1) = x.take i ++ [x[i]] := List.take_succ_eq_append_getElem hlt
    have hlen : (x.take i).length ≤ 20000 := by rw [List.length_take]; omega
    simp only [impl_Covered.l0, rdTok x i hlt, Option.bind_some, rd]
    generalize x[i] = t at hok htk
    have d2 := difT_rng ((t.f2.toNat : Nat) : Int) (x.take i)
    have d3 := difT_rng ((t.f3.toNat : Nat) : Int) (x.take i)
    rw [if_pos (by omega), if_pos (by omega), if_pos (by omega), if_pos (by omega), if_pos (by omega), if_pos (by omega), if_pos (by omega), nat_next (by omega), hv t.f2.toNat (by omega), getD_set_i _ _ _ _ (by omega), if_neg (by omega), hv t.f3.toNat (by omega), w64 (x := difT (x.take i) (t.f2.toNat : Int) + 1) (by omega) (by omega), w64 (x := difT (x.take i) (t.f3.toNat : Int) - 1) (by omega) (by omega)]
    have := ih (i + 1) k ((b.set t.f2.toNat (difT (x.take i) (t.f2.toNat : Int) + 1)).set t.f3.toNat (difT (x.take i) (t.f3.toNat : Int) - 1)) (by omega) (by omega) (by omega) (by rw [List.length_set, List.length_set]; exact hb) (fun j hj => by
      rw [getD_set_i _ _ _ _ (by rw [List.length_set]; omega), getD_set_i _ _ _ _ (by omega), htk, difT_snoc, hv j hj]
      by_cases a : t.f3.toNat = j
      · rw [if_pos a, if_neg (show ¬ t.f2 = (j : Int) by omega), if_pos (show t.f3 = (j : Int) by omega), a]; omega
      · rw [if_neg a, if_neg (show ¬ t.f3 = (j : Int) by omega)]
        by_cases c : t.f2.toNat = j
        · rw [if_pos c, if_pos (show t.f2 = (j : Int) by omega), c]; omega
        · rw [if_neg c, if_neg (show ¬ t.f2 = (j : Int) by omega)]; omega)
    rw [show k + 1 - (d + 1) - 1 = k - d - 1 by omega]
    exact this
theorem s_l1 (x : List S125) (L : Nat) (hL : L ≤ 20000) (o : List S127) (i : Nat) (hi : i ≤ 20000) (a0 a1 a2 a4 a5 : Int) (tt : Nat) (ht : tt ≤ L) (d : Nat) : ∀ (p k : Nat) (m : List Bool), tt - p = d → p ≤ tt → d < k → m.length = L →
    ∃ m', spec_Covered.l1 k x (L : Int) o m (i : Int) (p : Int) a0 a1 a2 (tt : Int) a4 a5 = spec_Covered.l0 (k - d - 1) x (L : Int) o m' ((i + 1 : Nat) : Int) ∧ m'.length = L ∧ ∀ j, j < L → m'.getD j false = (m.getD j false || decide (p ≤ j ∧ j < tt)) := by
  induction d with
  | zero =>
    intro p k m hd hp hk hm
    obtain ⟨k, rfl⟩ : ∃ m, k = m + 1 := ⟨k - 1, by omega⟩
    refine ⟨m, ?_, hm, fun j hj => by rw [decide_eq_false (by omega), Bool.or_false]⟩
    simp only [spec_Covered.l1]
    rw [if_neg (by omega), nat_next (by omega)]
    rfl
  | succ d ih =>
    intro p k m hd hp hk hm
    obtain ⟨k, rfl⟩ : ∃ m, k = m + 1 := ⟨k - 1, by omega⟩
    simp only [spec_Covered.l1]
    rw [if_pos (by omega), if_pos (by omega), if_pos (by omega), nat_next (by omega), Int.toNat_natCast]
    obtain ⟨m', e, h1, h2⟩ := ih (p + 1) k (m.set p true) (by omega) (by omega) (by omega) (by rw [List.length_set]; exact hm)
    refine ⟨m', by rw [e, show k + 1 - (d + 1) - 1 = k - d - 1 by omega], h1, fun j hj => ?_⟩
    rw [h2 j hj, getD_set_b _ _ _ _ (by omega)]
    by_cases c : p = j
    · rw [if_pos c, decide_eq_true (show p ≤ j ∧ j < tt by omega)]; simp
    · rw [if_neg c]; congr 1; exact decide_eq_decide.2 (by omega)
theorem s_l0 (x : List S125) (L : Nat) (hL : L ≤ 20000) (hx : x.length ≤ 20000) (d : Nat) : ∀ (i k : Nat) (m : List Bool), x.length - i = d → i ≤ x.length → d * 20010 + 30000 < k → m.length = L → (∀ j, j < L → m.getD j false = covT (x.take i) j) → (∀ t ∈ x.take i, badT L t = false) →
    ((∀ t ∈ x, badT L t = false) → ∃ k' m', 20010 < k' ∧ spec_Covered.l0 k x (L : Int) [] m (i : Int) = spec_Covered.l2 k' (L : Int) [] m' 0 ∧ m'.length = L ∧ ∀ j, j < L → m'.getD j false = covT x j) ∧
    (x.any (badT L) = true → spec_Covered.l0 k x (L : Int) [] m (i : Int) = some []) := by
  induction d with
  | zero =>
    intro i k m hd hi hk hm hv hb
    obtain ⟨k, rfl⟩ : ∃ m, k = m + 1 := ⟨k - 1, by omega⟩
    obtain rfl : i = x.length := by omega
    rw [List.take_length] at hv hb
    refine ⟨fun _ => ⟨k, m, by omega, ?_, hm, hv⟩, fun h => ?_⟩
    · simp only [spec_Covered.l0]; rw [if_neg (by omega)]
    · rw [List.any_eq_true] at h
      obtain ⟨t, ht, hh⟩ := h
      rw [hb t ht] at hh; exact absurd hh (by decide)
  | succ d ih =>
    intro i k m hd hi hk hm hv hb
    obtain ⟨k, rfl⟩ : ∃ m, k = m + 2 := ⟨k - 2, by omega⟩
    have hlt : i < x.length := by omega
    have htk : x.take (i + 1) = x.take i ++ [x[i]] := List.take_succ_eq_append_getElem hlt
    have hmem := List.getElem_mem hlt
    have e0 : spec_Covered.l0 (k + 2) x (L : Int) [] m (i : Int) = (if badT L x[i] = true then some [] else spec_Covered.l1 k x (L : Int) [] m (i : Int) x[i].f2 x[i].f0 x[i].f1 x[i].f2 x[i].f3 x[i].f4 x[i].f5) := by
      simp only [spec_Covered.l0, rdTok x i hlt, sIn, Option.bind_some, spec_Covered.j2, decide_eq_true_eq]
      rw [if_pos (by omega), if_pos (by omega), w64 (x := (L : Int) - 1) (by omega) (by omega)]
      generalize x[i] = t
      unfold badT
      by_cases c : 0 ≤ t.f2 ∧ t.f2 ≤ (L : Int) - 1
      · rw [if_pos c, w64 (x := t.f2 + 1) (by omega) (by omega)]
        by_cases c2 : t.f2 + 1 ≤ t.f3 ∧ t.f3 ≤ (L : Int)
        · rw [decide_eq_true c2, decide_eq_false (show ¬ (t.f2 < 0 ∨ t.f2 ≥ t.f3 ∨ t.f3 > (L : Int)) by omega)]; rfl
        · rw [decide_eq_false c2, decide_eq_true (show (t.f2 < 0 ∨ t.f2 ≥ t.f3 ∨ t.f3 > (L : Int)) by omega)]; rfl
      · rw [if_neg c, decide_eq_true (show (t.f2 < 0 ∨ t.f2 ≥ t.f3 ∨ t.f3 > (L : Int)) by omega)]; rfl
    rw [e0]
    cases hq : badT L x[i] with
    | true => exact ⟨fun h => by rw [h _ hmem] at hq; exact absurd hq (by decide), fun _ => if_pos rfl⟩
    | false =>
      rw [if_neg (by decide)]
      have hok := hq
      unfold badT at hok
      rw [decide_eq_false_iff_not] at hok
      have hbs : ∀ t ∈ x.take (i + 1), badT L t = false := fun t ht => by
        rw [htk, List.mem_append, List.mem_singleton] at ht
        rcases ht with ht | rfl
        · exact hb t ht
        · exact hq
      generalize x[i] = t at hok htk
      obtain ⟨from_, hf⟩ : ∃ n : Nat, t.f2 = n := ⟨t.f2.toNat, by omega⟩
      obtain ⟨tt, hto⟩ : ∃ n : Nat, t.f3 = n := ⟨t.f3.toNat, by omega⟩
      rw [hf, hto] at hok ⊢
      obtain ⟨m', e, h1, h2⟩ := s_l1 x L hL [] i (by omega) t.f0 t.f1 (from_ : Int) t.f4 t.f5 tt (by omega) (tt - from_) from_ k m rfl (by omega) (by omega) hm
      rw [e]
      have hk2 : d * 20010 + 30000 < k - (tt - from_) - 1 := by
        have e1 : (d + 1) * 20010 = d * 20010 + 20010 := Nat.succ_mul d 20010
        rw [e1] at hk
        generalize d * 20010 = q at hk ⊢
        omega
      refine ih (i + 1) (k - (tt - from_) - 1) m' (by omega) (by omega) hk2 h1 (fun j hj => ?_) hbs
      rw [h2 j hj, hv j hj, htk, covT_snoc, hf, hto]
      congr 1
      exact decide_eq_decide.2 (by omega)
theorem iAny (x : List S125) (L : Int) : impl_Token_99.f x L = some (x.any (badT L)) := rfl
theorem covered_same (x : List S125) (a1 : Int) (k : Nat) (hk : 1000000000 ≤ k) (hx : x.length ≤ 1048576) : ∃ r, spec_Covered.f k x a1 = some r ∧ impl_Covered.f k x a1 = some r ∧ r.length ≤ 20000 := by
  obtain ⟨k, rfl⟩ : ∃ m, k = m + 1 := ⟨k - 1, by omega⟩
  unfold spec_Covered.f impl_Covered.f
  simp only [Option.bind_some, sIn, iWithin, spec_Covered.j0, impl_Covered.j0, iAny]
  by_cases c : (x.length : Int) > 20000
  · rw [if_pos c, if_pos c]; exact ⟨[], rfl, rfl, by simp⟩
  · rw [if_neg c, if_neg c]
    by_cases c2 : 0 ≤ a1 ∧ a1 ≤ 20000
    · rw [decide_eq_true c2]
      obtain ⟨L, rfl⟩ : ∃ n : Nat, a1 = n := ⟨a1.toNat, by omega⟩
      simp only [Bool.not_true, Bool.false_eq_true, if_false]
      rw [if_pos (show (0 : Int) ≤ (L : Int) by omega), if_pos (show ((L : Int)).toNat ≤ 281474976710656 by omega), Int.toNat_natCast, w64 (x := (L : Int) + 1) (by omega) (by omega)]
      have rep : ∀ j, (List.replicate L false).getD j false = false := fun j => by rw [List.getD_eq_getElem?_getD, List.getElem?_replicate]; split <;> rfl
      obtain ⟨sA, sB⟩ := s_l0 x L (by omega) (by omega) x.length 0 k (List.replicate L false) (by omega) (by omega) (by omega) (by simp) (fun j hj => by rw [rep]; rfl) (fun t ht => by simp at ht)
      cases hq : x.any (badT L) with
      | true =>
        exact ⟨[], sB hq, by simp, by simp⟩
      | false =>
        simp only [Bool.false_eq_true, if_false]
        rw [if_pos (show (0 : Int) ≤ (L : Int) + 1 by omega), if_pos (show ((L : Int) + 1).toNat ≤ 35184372088832 by omega)]
        have ok : ∀ t ∈ x, badT L t = false := fun t ht => by
          cases h : badT L t with
          | false => rfl
          | true => rw [List.any_eq_true.2 ⟨t, ht, h⟩] at hq; exact absurd hq (by decide)
        obtain ⟨k', m', hk', e, hm', hv'⟩ := sA ok
        have repi : ∀ n j, (List.replicate n (0 : Int)).getD j 0 = 0 := fun n j => by rw [List.getD_eq_getElem?_getD, List.getElem?_replicate]; split <;> rfl
        obtain ⟨b', e2, hb', hw'⟩ := i_l0 x L (by omega) (by omega) ok x.length 0 k (List.replicate ((L : Int) + 1).toNat 0) (by omega) (by omega) (by omega) (by simp) (fun j hj => by rw [repi]; rfl)
        obtain ⟨r, r1, r2, r3⟩ := both_l x L (by omega) (by omega) ok b' m' hb' hm' hw' hv' L 0 (k - x.length - 1) k' [] (by omega) (by omega) (by omega) (by omega) (by simp)
        rw [show ((0 : Nat) : Int) - 1 = -1 by omega, opnT_none L x ok] at r1
        have e' : spec_Covered.l0 k x (L : Int) [] (List.replicate L false) 0 = _ := e
        have e2' : impl_Covered.l0 k (L : Int) (List.replicate ((L : Int) + 1).toNat 0) x (x.length : Int) 0 = _ := e2
        exact ⟨r, e'.trans r2, e2'.trans r1, by omega⟩
    · rw [decide_eq_false c2]; exact ⟨[], rfl, rfl, by simp⟩
theorem markTok_l (n : Nat) (hn : n ≤ 1048576) (d : Nat) : ∀ (k : Nat) (x : List S125) (i : Nat), d < k → n - i = d → i ≤ n → x.length = n → ∃ y, laws_markTokenS.l0 k x (1 + 6 * (i : Int)) (i : Int) = some (1 + 6 * (n : Int), y) := by
  induction d with
  | zero =>
    intro k x i hk hd hi hx
    obtain ⟨k, rfl⟩ : ∃ m, k = m + 1 := ⟨k - 1, by omega⟩
    obtain rfl : i = n := by omega
    refine ⟨x, ?_⟩
    simp only [laws_markTokenS.l0]
    rw [if_neg (by omega)]
  | succ d ih =>
    intro k x i hk hd hi hx
    obtain ⟨k, rfl⟩ : ∃ m, k = m + 1 := ⟨k - 1, by omega⟩
    simp only [laws_markTokenS.l0, Option.bind_some]
    rw [if_pos (by omega), if_pos (by omega), nat_next (by omega), w64 (x := 1 + 6 * (i : Int) + 1) (by omega) (by omega), w64 (x := 1 + 6 * (i : Int) + 1 + 1) (by omega) (by omega), w64 (x := 1 + 6 * (i : Int) + 1 + 1 + 1) (by omega) (by omega), w64 (x := 1 + 6 * (i : Int) + 1 + 1 + 1 + 1) (by omega) (by omega), w64 (x := 1 + 6 * (i : Int) + 1 + 1 + 1 + 1 + 1) (by omega) (by omega), w64 (x := 1 + 6 * (i : Int) + 1 + 1 + 1 + 1 + 1 + 1) (by omega) (by omega), show 1 + 6 * (i : Int) + 1 + 1 + 1 + 1 + 1 + 1 = 1 + 6 * ((i + 1 : Nat) : Int) by omega]
    exact ih k _ (i + 1) (by omega) (by omega) (by omega) (by simp [hx])
theorem FnExactCovered (x : List S129) (g : gd_TokenS x) (a1 : Int) (_ : (Lit.int .i64 a1).wf = true) : ∃ k, laws_FnExactCovered.f k x a1 = some true := by
  suffices ∀ k, 1000000010 ≤ k → laws_FnExactCovered.f k x a1 = some true from ⟨1000000010, this _ (Nat.le_refl _)⟩
  intro k hk
  unfold laws_FnExactCovered.f
  obtain ⟨r, e, _, _, h⟩ := szL_TokenS k (by omega) x g 1048576 (by omega)
  rw [e]
  simp only [Option.bind_some]
  by_cases hr : r < 0
  · rw [if_pos hr]
  · have hb := h (by omega)
    have hc : (x.map c_Token).length ≤ 1048576 := by rw [List.length_map]; exact hb
    have et : ∀ k, 1000000000 ≤ k → laws_toTokenS.f k x = some (x.map c_Token) := fun k hk => toL_TokenS k (by omega) x hb
    rw [if_neg hr, et k (by omega)]
    simp only [Option.bind_some]
    obtain ⟨w, es, ei, hw⟩ := covered_same (x.map c_Token) a1 k (by omega) hc
    rw [es, ei]
    simp only [Option.bind_some]
    rw [eqHoleS_same w (by omega) k (by omega)]
    simp only [Option.bind_some, if_true]
    rw [eqL_TokenS k (by omega) _ hc]
    simp only [Option.bind_some, if_true]
    obtain ⟨y, ey⟩ := markTok_l (x.map c_Token).length hc (x.map c_Token).length k (x.map c_Token) 0 (by omega) (by omega) (by omega) rfl
    have ey' : laws_markTokenS.f k (x.map c_Token) 1 = some (1 + 6 * ((x.map c_Token).length : Int), y) := ey
    rw [ey']
    simp only [Option.bind_some]
    rw [if_neg (by omega)]
    obtain ⟨k, rfl⟩ : ∃ m, k = m + 1 := ⟨k - 1, by omega⟩
    simp only [laws_FnExactCovered.j0, Bool.not_true, Bool.false_eq_true, if_false]
    obtain ⟨z, ez, z1, z2⟩ := markS w (by omega) k (by omega)
    rw [ez]
    simp only [Option.bind_some]
    rw [heldS z w.length (by omega) z1 z2 k (by omega)]
    simp only [Option.bind_some]
    rw [if_neg (by omega), if_pos trivial, et k (by omega)]
    simp only [Option.bind_some]
    obtain ⟨w2, es2, ei2, _⟩ := covered_same (x.map c_Token) a1 k (by omega) hc
    have ew : w2 = w := by
      have hm := impl_Covered.mono (x.map c_Token) a1 k _ ei2
      exact Option.some.inj (hm.symm.trans ei)
    subst ew
    rw [ei2]
    simp only [Option.bind_some]
    rw [eqHoleS_same w2 (by omega) k (by omega)]
    simp only [Option.bind_some, if_true]
    rw [if_neg (by omega)]
end Go.Proofs.Ytabpfejdppfcdaa.Pure
